import Derived.Test.YtfhhognolpjikaaGreatAbEv
/-
  The program's functions in slim code, as a program of ours printed them; what they have to do with the given program is proved in the text Impl.
-/
namespace Go.Ab
@[simp] abbrev aa (d s:Nat):dV:=⟨some d,none,[.t s],.v .mv⟩
@[simp] abbrev ba (d x:Nat) (k:AK):dV:=⟨some d,none,[.t x],k⟩
@[simp] abbrev bK (d x y:Nat) (k:AK):dV:=⟨some d,none,[.t x,.t y],k⟩
@[simp] abbrev aG (d x:Nat) (k:Gc):dV:=⟨some d,none,[.t x],.v k⟩
@[simp] abbrev aV (d x y:Nat) (k:Gc):dV:=⟨some d,none,[.t x,.t y],.v k⟩
@[simp] abbrev a_ (d:Nat) (a:List eH) (k:Gc):dV:=⟨some d,none,a,.v k⟩
@[simp] abbrev bD (d:Nat) (a:List eH) (k:AK):dV:=⟨some d,none,a,k⟩
@[simp] abbrev lP (a:List eH) (k:AK):dV:=⟨none,none,a,k⟩
@[simp] abbrev cJ (d j:Nat) (b:Bool) (a:List eH) (k:AK):dV:=⟨some d,some (j,b),a,k⟩
@[simp] abbrev aS (d s n:Nat):dV:=⟨some d,none,[.t s],.v (.bh n)⟩
@[simp] abbrev aM (d s a b c:Nat) (t:Bool):dV:=⟨some d,none,[.t s],.bj a b c t⟩
@[simp] abbrev aU (s v a b c:Nat):dV:=⟨none,none,[.t s,.t v],.cT a b c⟩
@[simp] abbrev k_ (n:Int):eH:=.c (.pv (.int .i64 n))
@[simp] abbrev T_:eH:=.c (.pv (.bool true))
@[simp] abbrev F_:eH:=.c (.pv (.bool false))
@[simp] abbrev bg (d x:Nat) (n:Int) (k:Gc):dV:=⟨some d,none,[.t x,.c (.pv (.int .i64 n))],.v k⟩
@[simp] abbrev a8 (d:Nat) (x:eH):dV:=⟨some d,none,[x],.v .mv⟩
@[simp] abbrev aW (d j:Nat) (b:Bool) (x:Nat) (k:AK):dV:=⟨some d,some (j,b),[.t x],k⟩
@[simp] abbrev bG (d:Nat) (l:List PV):dV:=⟨some d,none,[],.alloc d l⟩
@[simp] abbrev a0:PV:=.int .i64 0
@[simp] abbrev dN:PV:=.str []
@[simp] abbrev bQ:PV:=.aD []
@[simp] abbrev ej:List PV:=[a0,dN,a0,a0,bQ]
@[simp] abbrev ek:List PV:=[a0,a0,dN,a0,bQ,bQ,a0,dN,a0,a0,bQ]
@[simp] abbrev FF:List PV:=[a0,dN,bQ,bQ]
@[simp] abbrev pL:List PV:=[a0,a0,dN,a0,a0,bQ]
section
variable {AP:Nat→Option aH} {st:St}
def g15:aH:=⟨1,6,[.t 2],
 (.seq
 (.ae [a8 2 F_] [0])
 (.seq
 (.ae [aa 3 0,
 aG 4 3 .len,
 bg 5 4 60 (.bin .leq),
 aa 2 5] [2])
 .ret)),none,false⟩
def g20:aH:=⟨2,36,[.t 4],
 (.seq
 (.ae [ba 2 0 (.box 2 5),
 ba 3 1 (.box 3 5),
 a8 4 F_] [2,3])
 (.seq
 (.seq
 (.ae [aS 5 2 0,
 aM 6 5 2 0 1 false,
 aS 7 3 0,
 aM 8 7 3 0 1 false,
 aV 9 6 8 (.bin .neq),
 aa 10 9,
 aW 11 10 false 2 (.v (.bh 1)),
 aW 12 10 false 11 (.bj 2 1 1 false),
 aW 13 10 false 3 (.v (.bh 1)),
 aW 14 10 false 13 (.bj 3 1 1 false),
 cJ 15 10 false [.t 12,.t 14] (.v (.bin .neq)),
 a_ 16 [.t 10,T_,.t 15] .pick,
 aa 17 16,
 aW 18 17 false 2 (.v (.bh 2)),
 aW 19 17 false 18 (.bj 2 2 1 false),
 aW 20 17 false 3 (.v (.bh 2)),
 aW 21 17 false 20 (.bj 3 2 1 false),
 cJ 22 17 false [.t 19,.t 21] (.v (.bin .neq)),
 a_ 23 [.t 17,T_,.t 22] .pick,
 aa 24 23,
 aW 25 24 false 2 (.v (.bh 3)),
 aW 26 24 false 25 (.bj 2 3 1 false),
 aW 27 24 false 3 (.v (.bh 3)),
 aW 28 24 false 27 (.bj 3 3 1 false),
 cJ 29 24 false [.t 26,.t 28] (.v (.bin .neq)),
 a_ 30 [.t 24,T_,.t 29] .pick] [2,3,30])
 (.cond (.t 30)
 (.seq
 (.ae [a8 4 F_] [4])
 .ret)
 .skip))
 (.seq
 (.ae [aS 31 2 4,
 aM 32 31 2 4 1 false,
 aS 33 3 4,
 aM 34 33 3 4 1 false,
 bK 35 32 34 (.aB 57),
 aa 4 35] [4])
 .ret))),none,false⟩
def g22:aH:=⟨2,8,[.c 4 5 true],
 (.seq
 (.ae [ba 3 1 (.box 3 5),
 bG 4 ej] [0,3,4])
 (.seq
 (.ae [aM 5 3 3 0 5 true,
 aa 6 0,
 bK 7 5 6 (.aB 46),
 aU 4 7 4 0 5] [4])
 .ret)),none,false⟩
def g26:aH:=⟨2,16,[.t 4],
 (.seq
 (.ae [a8 4 (k_ 0)] [0,1])
 (.seq
 (.seq
 (.ae [aa 5 1,
 bg 6 5 1 (.bin .lss)] [0,1,6])
 (.cond (.t 6)
 (.seq
 (.ae [a8 4 (k_ 0)] [4])
 .ret)
 .skip))
 (.seq
 (.ae [aa 7 0,
 aa 8 1,
 aV 9 7 8 (.bin .rem),
 aa 0 9] [0,1])
 (.seq
 (.seq
 (.ae [aa 10 0,
 bg 11 10 0 (.bin .lss)] [0,1,11])
 (.cond (.t 11)
 (.ae [aa 12 0,
 aa 13 1,
 aV 14 12 13 (.bin .add),
 aa 0 14] [0])
 .skip))
 (.seq
 (.ae [aa 15 0,
 aa 4 15] [4])
 .ret))))),none,false⟩
def g27B0:aw:=
 (.seq
 (.seq
 (.ae [aa 61 12,
 aS 62 10 2,
 aM 63 62 10 2 1 false,
 aG 64 63 .len,
 aV 65 61 64 (.bin .lss)] [0,1,2,3,8,10,11,12,65])
 (.cond (.t 65)
 .skip
 (.exit 1)))
 (.seq
 (.block 2
 (.ae [aa 68 11,
 aa 69 0,
 aa 70 1,
 aa 71 2,
 aa 72 3,
 bg 73 72 1 (.bin .sub),
 bD 74 [.t 69,.t 70,.t 71,.t 73] (.aI 27 []),
 aG 75 74 (.aT 5),
 bK 76 68 75 (.append 5 64),
 aa 11 76] [0,1,2,3,8,10,11,12]))
 (.ae [aa 66 12,
 bg 67 66 1 (.bin .add),
 aa 12 67] [0,1,2,3,8,10,11,12])))
def g27L0:aw:=.loop [0,1,2,3,8,10,11,12] g27B0
theorem g27L0e: cl AP g27L0 st=after (cl AP g27L0) (cl AP g27B0 (norm (restrict [0,1,2,3,8,10,11,12] st))):=aF
def g27:aH:=⟨4,95,[.c 8 5 true],
 (.seq
 (.ae [bG 8 ej] [0,1,2,3,8])
 (.seq
 (.ae [aa 14 0,
 bD 15 [.t 14,k_ 7] (.aI 68 []),
 aa 9 15] [0,1,2,3,8,9])
 (.seq
 (.block 0
 (.seq
 (.ae [aa 17 9,
 bg 18 17 3 (.bin .lss),
 aa 19 18,
 aW 20 19 true 2 (.v (.mv)),
 aW 21 19 true 20 (.v (.len)),
 cJ 22 19 true [.t 21,k_ 0] (.v (.bin .gtr)),
 a_ 23 [.t 19,.t 22,F_] .pick,
 aa 16 23] [0,1,2,3,8,9,16])
 (.cond (.t 16)
 (.seq
 (.ae [aa 24 2,
 aa 25 0,
 aa 26 2,
 aG 27 26 .len,
 bK 28 25 27 (.aI 68 []),
 aV 29 24 28 (.aE 5),
 ba 30 29 (.aZ 5 true),
 aU 8 30 8 0 5] [8])
 .ret)
 (.seq
 (.ae [aa 32 9,
 bg 33 32 4 (.bin .lss),
 aa 34 33,
 aW 35 34 false 3 (.v (.mv)),
 cJ 36 34 false [.t 35,k_ 1] (.v (.bin .lss)),
 a_ 37 [.t 34,T_,.t 36] .pick,
 aa 31 37] [0,1,2,3,8,9,31])
 (.cond (.t 31)
 (.seq
 (.ae [bD 38 [] (.aB 34),
 aU 8 38 8 0 5] [8])
 .ret)
 (.seq
 (.seq
 (.ae [aa 40 9,
 bg 41 40 4 (.bin .eql),
 aa 42 41,
 aW 43 42 true 1 (.v (.mv)),
 aW 44 42 true 43 (.v (.len)),
 cJ 45 42 true [.t 44,k_ 0] (.v (.bin .gtr)),
 a_ 46 [.t 42,.t 45,F_] .pick,
 aa 39 46] [0,1,2,3,8,9,39])
 (.cond (.t 39)
 .skip
 (.ae [aa 47 9,
 bg 48 47 5 (.bin .eql),
 aa 49 48,
 aW 50 49 true 1 (.v (.mv)),
 aW 51 49 true 50 (.v (.len)),
 cJ 52 49 true [.t 51,k_ 0] (.v (.bin .gtr)),
 a_ 53 [.t 49,.t 52,F_] .pick,
 aa 39 53] [0,1,2,3,8,39])))
 (.cond (.t 39)
 (.seq
 (.ae [aa 54 1,
 aa 55 0,
 aa 56 1,
 aG 57 56 .len,
 bK 58 55 57 (.aI 68 []),
 aV 59 54 58 (.aE 4),
 ba 60 59 (.aZ 4 true),
 bG 10 FF,
 aU 10 60 10 0 4] [0,1,2,3,8,10])
 (.seq
 (.ae [a_ 11 [.c (.bB [])] .mv] [0,1,2,3,8,10,11])
 (.seq
 (.seq
 (.ae [a8 12 (k_ 0)] [0,1,2,3,8,10,11,12])
 (.block 1
 g27L0))
 (.seq
 (.ae [aS 77 10 1,
 aM 78 77 10 1 1 false,
 aa 79 11,
 bK 80 78 79 (.aB 62),
 aU 8 80 8 0 5] [8])
 .ret))))
 .skip)))))))
 (.seq
 (.ae [aa 81 0,
 aa 82 1,
 aa 83 2,
 aa 84 3,
 bg 85 84 1 (.bin .sub),
 bD 86 [.t 81,.t 82,.t 83,.t 85] (.aI 27 []),
 bG 13 ej,
 aU 13 86 13 0 5] [0,1,2,3,8,13])
 (.seq
 (.ae [aM 87 13 13 0 5 true,
 aa 88 0,
 aa 89 1,
 aa 90 2,
 aa 91 3,
 bg 92 91 1 (.bin .sub),
 bD 93 [.t 88,.t 89,.t 90,.t 92] (.aI 27 []),
 bK 94 87 93 (.aB 69),
 aU 8 94 8 0 5] [8])
 .ret))))),none,false⟩
def g32B0:aw:=
 (.seq
 (.seq
 (.ae [aa 21 5,
 aa 22 3,
 aG 23 22 .len,
 aV 24 21 23 (.bin .lss)] [0,3,4,5,24])
 (.cond (.t 24)
 .skip
 (.exit 0)))
 (.seq
 (.block 1
 (.seq
 (.ae [aa 27 5,
 bg 28 27 1 (.bin .neq),
 aa 29 28,
 aW 30 29 true 0 (.v (.mv)),
 aW 31 29 true 5 (.v (.mv)),
 aW 32 29 true 31 (.v (.conv .u64)),
 cJ 33 29 true [.t 30,.t 32] (.v (.bin .shr)),
 cJ 34 29 true [.t 33,k_ 1] (.v (.bin .and)),
 cJ 35 29 true [.t 34,k_ 1] (.v (.bin .eql)),
 a_ 36 [.t 29,.t 35,F_] .pick] [0,3,4,5,36])
 (.cond (.t 36)
 (.ae [aa 37 4,
 aa 38 3,
 aa 39 5,
 aV 40 38 39 (.aE 4),
 aG 41 40 (.aN 4 true),
 aG 42 41 (.aT 4),
 bK 43 37 42 (.append 4 72),
 aa 4 43] [0,3,4,5])
 .skip)))
 (.ae [aa 25 5,
 bg 26 25 1 (.bin .add),
 aa 5 26] [0,3,4,5])))
def g32L0:aw:=.loop [0,3,4,5] g32B0
theorem g32L0e: cl AP g32L0 st=after (cl AP g32L0) (cl AP g32B0 (norm (restrict [0,3,4,5] st))):=aF
def g32:aH:=⟨1,45,[.t 2],
 (.seq
 (.ae [a_ 2 [.c (.bB [])] .mv] [0])
 (.seq
 (.ae [bD 6 [] (.aB 79),
 aa 3 6] [0,3])
 (.seq
 (.ae [a_ 4 [.c (.bB [])] .mv] [0,3,4])
 (.seq
 (.seq
 (.ae [aa 7 0,
 bg 8 7 2 (.bin .and),
 bg 9 8 0 (.bin .neq),
 aa 10 9,
 aW 11 10 false 0 (.v (.mv)),
 cJ 12 10 false [.t 11,k_ 64] (.v (.bin .and)),
 cJ 13 10 false [.t 12,k_ 0] (.v (.bin .neq)),
 a_ 14 [.t 10,T_,.t 13] .pick] [0,3,4,14])
 (.cond (.t 14)
 (.ae [aa 15 4,
 aa 16 3,
 bg 17 16 1 (.aE 4),
 aG 18 17 (.aN 4 true),
 aG 19 18 (.aT 4),
 bK 20 15 19 (.append 4 72),
 aa 4 20] [0,3,4])
 .skip))
 (.seq
 (.seq
 (.ae [a8 5 (k_ 0)] [0,3,4,5])
 (.block 0
 g32L0))
 (.seq
 (.ae [aa 44 4,
 aa 2 44] [2])
 .ret)))))),none,false⟩
def g34:aH:=⟨0,2,[.c 0 5 true],
 (.seq
 (.ae [bG 0 ej] [0])
 (.seq
 (.ae [bD 1 [.c (.pv (.str [73,110,116])),.c (.bB [])] (.aB 62),
 aU 0 1 0 0 5] [0])
 .ret)),none,false⟩
def g46B0:aw:=
 (.seq
 (.seq
 (.ae [aa 11 5,
 aa 12 1,
 aG 13 12 .len,
 aV 14 11 13 (.bin .lss)] [1,2,4,5,14])
 (.cond (.t 14)
 .skip
 (.exit 0)))
 (.seq
 (.block 1
 (.seq
 (.ae [aa 17 1,
 aa 18 5,
 aV 19 17 18 (.aE 6),
 aS 20 19 0,
 aG 21 20 (.aN 1 false),
 aS 22 2 2,
 aM 23 22 2 2 1 false,
 aV 24 21 23 (.bin .eql)] [1,2,4,5,24])
 (.cond (.t 24)
 (.seq
 (.ae [aa 25 1,
 aa 26 5,
 aV 27 25 26 (.aE 6),
 aS 28 27 1,
 aG 29 28 (.aN 5 true),
 aU 4 29 4 0 5] [4])
 .ret)
 .skip)))
 (.ae [aa 15 5,
 bg 16 15 1 (.bin .add),
 aa 5 16] [1,2,4,5])))
def g46L0:aw:=.loop [1,2,4,5] g46B0
theorem g46L0e: cl AP g46L0 st=after (cl AP g46L0) (cl AP g46B0 (norm (restrict [1,2,4,5] st))):=aF
def g46B1:aw:=
 (.seq
 (.seq
 (.ae [aa 33 7,
 aS 34 2 4,
 aM 35 34 2 4 1 false,
 aG 36 35 .len,
 aV 37 33 36 (.bin .lss)] [1,2,4,6,7,37])
 (.cond (.t 37)
 .skip
 (.exit 2)))
 (.seq
 (.block 3
 (.ae [aS 40 6 4,
 aM 41 40 6 4 1 false,
 aS 42 2 4,
 aM 43 42 2 4 1 false,
 aa 44 7,
 aV 45 43 44 (.aE 5),
 aG 46 45 (.aN 5 true),
 aa 47 1,
 bK 48 46 47 (.aB 46),
 aG 49 48 (.aT 5),
 bK 50 41 49 (.append 5 64),
 aS 51 6 4,
 aU 51 50 6 4 1] [1,2,4,6,7]))
 (.ae [aa 38 7,
 bg 39 38 1 (.bin .add),
 aa 7 39] [1,2,4,6,7])))
def g46L1:aw:=.loop [1,2,4,6,7] g46B1
theorem g46L1e: cl AP g46L1 st=after (cl AP g46L1) (cl AP g46B1 (norm (restrict [1,2,4,6,7] st))):=aF
def g46:aH:=⟨2,53,[.c 4 5 true],
 (.seq
 (.ae [ba 2 0 (.box 2 5),
 bG 4 ej] [1,2,4])
 (.seq
 (.seq
 (.ae [aS 8 2 0,
 aM 9 8 2 0 1 false,
 bg 10 9 1 (.bin .eql)] [1,2,4,10])
 (.cond (.t 10)
 (.seq
 (.seq
 (.ae [a8 5 (k_ 0)] [1,2,4,5])
 (.block 0
 g46L0))
 (.seq
 (.ae [aM 30 2 2 0 5 true,
 aU 4 30 4 0 5] [4])
 .ret))
 .skip))
 (.seq
 (.ae [aM 31 2 2 0 5 true,
 bG 6 ej,
 aU 6 31 6 0 5] [1,2,4,6])
 (.seq
 (.ae [aS 32 6 4,
 lP [.t 32,.c (.bB [])] (.cT 6 4 1)] [1,2,4,6])
 (.seq
 (.seq
 (.ae [a8 7 (k_ 0)] [1,2,4,6,7])
 (.block 2
 g46L1))
 (.seq
 (.ae [aM 52 6 6 0 5 true,
 aU 4 52 4 0 5] [4])
 .ret)))))),none,false⟩
def g48B0:aw:=
 (.seq
 (.seq
 (.ae [aa 29 6,
 aS 30 2 4,
 aM 31 30 2 4 1 false,
 aG 32 31 .len,
 aV 33 29 32 (.bin .lss)] [1,2,4,5,6,33])
 (.cond (.t 33)
 .skip
 (.exit 0)))
 (.seq
 (.block 1
 (.ae [aS 36 5 4,
 aM 37 36 5 4 1 false,
 aS 38 2 4,
 aM 39 38 2 4 1 false,
 aa 40 6,
 aV 41 39 40 (.aE 5),
 aG 42 41 (.aN 5 true),
 aa 43 1,
 bK 44 42 43 (.aB 48),
 aG 45 44 (.aT 5),
 bK 46 37 45 (.append 5 64),
 aS 47 5 4,
 aU 47 46 5 4 1] [1,2,4,5,6]))
 (.ae [aa 34 6,
 bg 35 34 1 (.bin .add),
 aa 6 35] [1,2,4,5,6])))
def g48L0:aw:=.loop [1,2,4,5,6] g48B0
theorem g48L0e: cl AP g48L0 st=after (cl AP g48L0) (cl AP g48B0 (norm (restrict [1,2,4,5,6] st))):=aF
def g48:aH:=⟨2,49,[.c 4 5 true],
 (.seq
 (.ae [ba 2 0 (.box 2 5),
 bG 4 ej] [1,2,4])
 (.seq
 (.seq
 (.ae [aS 7 2 0,
 aM 8 7 2 0 1 false,
 bg 9 8 2 (.bin .eql),
 aa 10 9,
 aW 11 10 true 2 (.v (.bh 2)),
 aW 12 10 true 11 (.bj 2 2 1 false),
 cJ 13 10 true [.t 12,k_ 0] (.v (.bin .geq)),
 a_ 14 [.t 10,.t 13,F_] .pick,
 aa 15 14,
 aW 16 15 true 2 (.v (.bh 2)),
 aW 17 15 true 16 (.bj 2 2 1 false),
 aW 18 15 true 1 (.v (.mv)),
 aW 19 15 true 18 (.v (.len)),
 cJ 20 15 true [.t 17,.t 19] (.v (.bin .lss)),
 a_ 21 [.t 15,.t 20,F_] .pick] [1,2,4,21])
 (.cond (.t 21)
 (.seq
 (.ae [aa 22 1,
 aS 23 2 2,
 aM 24 23 2 2 1 false,
 aV 25 22 24 (.aE 5),
 aG 26 25 (.aN 5 true),
 aU 4 26 4 0 5] [4])
 .ret)
 .skip))
 (.seq
 (.ae [aM 27 2 2 0 5 true,
 bG 5 ej,
 aU 5 27 5 0 5] [1,2,4,5])
 (.seq
 (.ae [aS 28 5 4,
 lP [.t 28,.c (.bB [])] (.cT 5 4 1)] [1,2,4,5])
 (.seq
 (.seq
 (.ae [a8 6 (k_ 0)] [1,2,4,5,6])
 (.block 0
 g48L0))
 (.seq
 (.ae [aM 48 5 5 0 5 true,
 aU 4 48 4 0 5] [4])
 .ret)))))),none,false⟩
def g52B0:aw:=
 (.seq
 (.seq
 (.ae [aa 5 4,
 aS 6 1 4,
 aM 7 6 1 4 1 false,
 aG 8 7 .len,
 aV 9 5 8 (.bin .lss)] [1,3,4,9])
 (.cond (.t 9)
 .skip
 (.exit 0)))
 (.seq
 (.block 1
 (.ae [aa 12 3,
 aS 13 1 4,
 aM 14 13 1 4 1 false,
 aa 15 4,
 aV 16 14 15 (.aE 5),
 aG 17 16 (.aN 5 true),
 ba 18 17 (.aB 52),
 a_ 19 [k_ 1,.t 18] (.bin .add),
 aV 20 12 19 .mx,
 aa 3 20] [1,3,4]))
 (.ae [aa 10 4,
 bg 11 10 1 (.bin .add),
 aa 4 11] [1,3,4])))
def g52L0:aw:=.loop [1,3,4] g52B0
theorem g52L0e: cl AP g52L0 st=after (cl AP g52L0) (cl AP g52B0 (norm (restrict [1,3,4] st))):=aF
def g52:aH:=⟨1,22,[.t 2],
 (.seq
 (.ae [ba 1 0 (.box 1 5),
 a8 2 (k_ 0)] [1])
 (.seq
 (.ae [a8 3 (k_ 0)] [1,3])
 (.seq
 (.seq
 (.ae [a8 4 (k_ 0)] [1,3,4])
 (.block 0
 g52L0))
 (.seq
 (.ae [aa 21 3,
 aa 2 21] [2])
 .ret)))),none,false⟩
def g55B0:aw:=
 (.seq
 (.ae [aV 9 8 7 (.bin .lss)] [3,6,7,8,9])
 (.seq
 (.cond (.t 9)
 .skip
 (.exit 0))
 (.seq
 (.block 1
 (.seq
 (.ae [aV 10 6 8 (.aE 5),
 aG 11 10 (.aN 5 true),
 bG 5 ej,
 aU 5 11 5 0 5] [3,5,6,7,8])
 (.ae [aM 12 5 5 0 5 true,
 aG 13 3 (.CG 97),
 bK 14 12 13 (.aI 96 [])] [3,6,7,8])))
 (.ae [bg 15 8 1 (.bin .add),
 aa 8 15] [3,6,7,8]))))
def g55L0:aw:=.loop [3,6,7,8] g55B0
theorem g55L0e: cl AP g55L0 st=after (cl AP g55L0) (cl AP g55B0 (norm (restrict [3,6,7,8] st))):=aF
def g55:aH:=⟨1,17,[.t 2],
 (.seq
 (.ae [a_ 2 [.c (.bB [])] .mv] [0])
 (.seq
 (.ae [bD 3 [] (.hH [bQ])] [0,3])
 (.seq
 (.seq
 (.ae [aa 6 0,
 aG 7 6 .len,
 a8 8 (k_ 0)] [3,6,7,8])
 (.block 0
 g55L0))
 (.seq
 (.ae [ba 16 3 (.aZ 1 false),
 aa 2 16] [2])
 .ret)))),none,false⟩
def g56B0:aw:=
 (.seq
 (.seq
 (.ae [aa 7 4,
 aa 8 0,
 aG 9 8 .len,
 aV 10 7 9 (.bin .lss)] [0,3,4,10])
 (.cond (.t 10)
 .skip
 (.exit 0)))
 (.seq
 (.block 1
 (.ae [aa 13 3,
 aa 14 0,
 aa 15 4,
 aV 16 14 15 (.aE 5),
 aG 17 16 (.aN 5 true),
 bD 18 [.t 13,.t 17,k_ 1] (.aI 99 [0]),
 aa 3 18] [0,3,4]))
 (.ae [aa 11 4,
 bg 12 11 1 (.bin .add),
 aa 4 12] [0,3,4])))
def g56L0:aw:=.loop [0,3,4] g56B0
theorem g56L0e: cl AP g56L0 st=after (cl AP g56L0) (cl AP g56B0 (norm (restrict [0,3,4] st))):=aF
def g56B1:aw:=
 (.seq
 (.seq
 (.ae [aa 19 6,
 aa 20 3,
 aG 21 20 .len,
 aV 22 19 21 (.bin .lss)] [3,5,6,22])
 (.cond (.t 22)
 .skip
 (.exit 2)))
 (.seq
 (.block 3
 (.seq
 (.ae [aa 25 5,
 aa 26 3,
 aa 27 6,
 aV 28 26 27 (.aE 5),
 aS 29 28 2,
 aG 30 29 (.aN 1 false),
 bK 31 25 30 (.aB 95),
 aG 32 31 (.un .not)] [3,5,6,32])
 (.cond (.t 32)
 (.ae [aa 33 5,
 aa 34 3,
 aa 35 6,
 aV 36 34 35 (.aE 5),
 aS 37 36 2,
 aG 38 37 (.aN 1 false),
 aG 39 38 (.aT 1),
 bK 40 33 39 (.append 1 8),
 aa 5 40] [3,5,6])
 .skip)))
 (.ae [aa 23 6,
 bg 24 23 1 (.bin .add),
 aa 6 24] [3,5,6])))
def g56L1:aw:=.loop [3,5,6] g56B1
theorem g56L1e: cl AP g56L1 st=after (cl AP g56L1) (cl AP g56B1 (norm (restrict [3,5,6] st))):=aF
def g56:aH:=⟨1,42,[.t 2],
 (.seq
 (.ae [a_ 2 [.c (.bB [])] .mv] [0])
 (.seq
 (.ae [a_ 3 [.c (.bB [])] .mv] [0,3])
 (.seq
 (.seq
 (.ae [a8 4 (k_ 0)] [0,3,4])
 (.block 0
 g56L0))
 (.seq
 (.ae [a_ 5 [.c (.bB [])] .mv] [3,5])
 (.seq
 (.seq
 (.ae [a8 6 (k_ 0)] [3,5,6])
 (.block 2
 g56L1))
 (.seq
 (.ae [aa 41 5,
 aa 2 41] [2])
 .ret)))))),none,false⟩
def g57B0:aw:=
 (.seq
 (.seq
 (.ae [aa 11 5,
 aa 12 0,
 aG 13 12 .len,
 aV 14 11 13 (.bin .lss)] [0,1,5,14])
 (.cond (.t 14)
 .skip
 (.exit 0)))
 (.seq
 (.block 1
 (.seq
 (.ae [aa 17 0,
 aa 18 5,
 aV 19 17 18 (.aE 5),
 aG 20 19 (.aN 5 true),
 aa 21 1,
 aa 22 5,
 aV 23 21 22 (.aE 5),
 aG 24 23 (.aN 5 true),
 bK 25 20 24 (.aB 20),
 aG 26 25 (.un .not)] [0,1,5,26])
 (.cond (.t 26)
 (.seq
 (.ae [a8 4 F_] [4])
 .ret)
 .skip)))
 (.ae [aa 15 5,
 bg 16 15 1 (.bin .add),
 aa 5 16] [0,1,5])))
def g57L0:aw:=.loop [0,1,5] g57B0
theorem g57L0e: cl AP g57L0 st=after (cl AP g57L0) (cl AP g57B0 (norm (restrict [0,1,5] st))):=aF
def g57:aH:=⟨2,27,[.t 4],
 (.seq
 (.ae [a8 4 F_] [0,1])
 (.seq
 (.seq
 (.ae [aa 6 0,
 aG 7 6 .len,
 aa 8 1,
 aG 9 8 .len,
 aV 10 7 9 (.bin .neq)] [0,1,10])
 (.cond (.t 10)
 (.seq
 (.ae [a8 4 F_] [4])
 .ret)
 .skip))
 (.seq
 (.seq
 (.ae [a8 5 (k_ 0)] [0,1,5])
 (.block 0
 g57L0))
 (.seq
 (.ae [a8 4 T_] [4])
 .ret)))),none,false⟩
def g59B0:aw:=
 (.seq
 (.seq
 (.ae [aa 5 4,
 aa 6 0,
 aG 7 6 .len,
 aV 8 5 7 (.bin .lss)] [0,3,4,8])
 (.cond (.t 8)
 .skip
 (.exit 0)))
 (.seq
 (.block 1
 (.ae [aa 11 3,
 aa 12 0,
 aa 13 4,
 aV 14 12 13 (.aE 5),
 aG 15 14 (.aN 5 true),
 bD 16 [.t 11,.t 15,k_ 3] (.aI 99 [0]),
 aa 3 16] [0,3,4]))
 (.ae [aa 9 4,
 bg 10 9 1 (.bin .add),
 aa 4 10] [0,3,4])))
def g59L0:aw:=.loop [0,3,4] g59B0
theorem g59L0e: cl AP g59L0 st=after (cl AP g59L0) (cl AP g59B0 (norm (restrict [0,3,4] st))):=aF
def g59:aH:=⟨1,18,[.t 2],
 (.seq
 (.ae [a_ 2 [.c (.bB [])] .mv] [0])
 (.seq
 (.ae [a_ 3 [.c (.bB [])] .mv] [0,3])
 (.seq
 (.seq
 (.ae [a8 4 (k_ 0)] [0,3,4])
 (.block 0
 g59L0))
 (.seq
 (.ae [aa 17 3,
 aa 2 17] [2])
 .ret)))),none,false⟩
def g62:aH:=⟨2,9,[.c 4 5 true],
 (.seq
 (.ae [bG 4 ej] [0,1,4])
 (.seq
 (.ae [aa 5 0,
 aa 6 1,
 bD 7 [.c (.bB []),.t 6] (.append 5 64),
 a_ 8 [k_ 4,.t 5,.t 7] (.build ej [(0,1),(1,1),(4,1)]),
 aU 4 8 4 0 5] [4])
 .ret)),none,false⟩
def g63:aH:=⟨1,5,[.c 2 5 true],
 (.seq
 (.ae [bG 2 ej] [0,2])
 (.seq
 (.ae [aa 3 0,
 a_ 4 [k_ 1,.t 3] (.build ej [(0,1),(2,1)]),
 aU 2 4 2 0 5] [2])
 .ret)),none,false⟩
def g67:aH:=⟨0,5,[.t 0],
 (.seq
 (.ae [a_ 0 [.c (.bB [])] .mv] [])
 (.seq
 (.ae [bD 1 [.c (.pv (.str [97]))] (.aB 106),
 bD 2 [.c (.pv (.str [98]))] (.aB 106),
 bD 3 [.c (.pv (.str [99]))] (.aB 106),
 a_ 4 [.t 1,.t 2,.t 3] (.aT 5),
 aa 0 4] [0])
 .ret)),none,false⟩
def g68:aH:=⟨2,35,[.t 4],
 (.seq
 (.ae [a8 4 (k_ 0)] [0,1])
 (.seq
 (.seq
 (.ae [aa 5 0,
 aG 6 5 .aY,
 aS 7 6 1,
 ba 8 7 (.aZ 1 false),
 aa 9 0,
 aG 10 9 .aY,
 aS 11 10 0,
 ba 12 11 (.aZ 1 false),
 aG 13 12 .len,
 aV 14 8 13 (.bin .geq)] [0,1,14])
 (.cond (.t 14)
 (.seq
 (.ae [a8 4 (k_ 0)] [4])
 .ret)
 .skip))
 (.seq
 (.ae [aa 15 0,
 aG 16 15 .aY,
 aS 17 16 1,
 ba 18 17 (.aZ 1 false),
 bg 19 18 1 (.bin .add),
 aG 20 15 .aY,
 aS 21 20 1,
 lP [.t 21,.t 19] (.cU 1)] [0,1])
 (.seq
 (.ae [aa 22 0,
 aG 23 22 .aY,
 aS 24 23 0,
 ba 25 24 (.aZ 1 false),
 aa 26 0,
 aG 27 26 .aY,
 aS 28 27 1,
 ba 29 28 (.aZ 1 false),
 bg 30 29 1 (.bin .sub),
 aV 31 25 30 (.aE 1),
 aG 32 31 (.aN 1 false),
 aa 33 1,
 bK 34 32 33 (.aB 26),
 aa 4 34] [4])
 .ret)))),none,false⟩
def g69:aH:=⟨2,9,[.c 4 5 true],
 (.seq
 (.ae [ba 2 0 (.box 2 5),
 ba 3 1 (.box 3 5),
 bG 4 ej] [2,3,4])
 (.seq
 (.ae [aM 5 2 2 0 5 true,
 aM 6 3 3 0 5 true,
 aV 7 5 6 (.aT 5),
 bD 8 [.c (.pv (.str [45,62])),.t 7] (.aB 62),
 aU 4 8 4 0 5] [4])
 .ret)),none,false⟩
def g71:aH:=⟨2,8,[.c 4 5 true],
 (.seq
 (.ae [bG 4 ej] [0,1,4])
 (.seq
 (.ae [aa 5 0,
 aa 6 1,
 a_ 7 [k_ 3,.t 5,.t 6] (.build ej [(0,1),(3,1),(2,1)]),
 aU 4 7 4 0 5] [4])
 .ret)),none,false⟩
def g72:aH:=⟨1,5,[.c 2 5 true],
 (.seq
 (.ae [bG 2 ej] [0,2])
 (.seq
 (.ae [aa 3 0,
 a_ 4 [k_ 2,.t 3] (.build ej [(0,1),(2,1)]),
 aU 2 4 2 0 5] [2])
 .ret)),none,false⟩
def g77:aH:=⟨1,20,[.t 2],
 (.seq
 (.ae [a8 2 F_] [0])
 (.seq
 (.ae [aa 3 0,
 ba 4 3 (.aB 108),
 aa 5 4,
 aW 6 5 true 0 (.v (.mv)),
 cJ 7 5 true [.t 6,k_ 0] (.v (.index)),
 aW 8 5 true 7 (.aB 109),
 a_ 9 [.t 5,.t 8,F_] .pick,
 aa 10 9,
 aW 11 10 true 0 (.v (.mv)),
 aW 12 10 true 11 (.v (.jx)),
 cJ 13 10 true [.t 12,k_ 12] (.v (.bin .leq)),
 a_ 14 [.t 10,.t 13,F_] .pick,
 aa 15 14,
 aW 16 15 true 0 (.v (.mv)),
 aW 17 15 true 16 (.aB 110),
 aW 18 15 true 17 (.v (.un .not)),
 a_ 19 [.t 15,.t 18,F_] .pick,
 aa 2 19] [2])
 .ret)),none,false⟩
def g78:aH:=⟨1,15,[.t 2],
 (.seq
 (.ae [a8 2 F_] [0])
 (.seq
 (.ae [aa 3 0,
 ba 4 3 (.aB 108),
 aa 5 4,
 aW 6 5 true 0 (.v (.mv)),
 cJ 7 5 true [.t 6,k_ 0] (.v (.index)),
 aW 8 5 true 7 (.aB 111),
 a_ 9 [.t 5,.t 8,F_] .pick,
 aa 10 9,
 aW 11 10 true 0 (.v (.mv)),
 aW 12 10 true 11 (.v (.jx)),
 cJ 13 10 true [.t 12,k_ 12] (.v (.bin .leq)),
 a_ 14 [.t 10,.t 13,F_] .pick,
 aa 2 14] [2])
 .ret)),none,false⟩
def g79:aH:=⟨0,9,[.t 0],
 (.seq
 (.ae [a_ 0 [.c (.bB [])] .mv] [])
 (.seq
 (.ae [bD 4 [.c (.pv (.str [100,97,116,97,32,66,111,111,108,32,61,32,84,114,117,101,32,124,32,70,97,108,115,101,59,32,100,97,116,97,32,79,112,116,105,111,110,32,97,32,61,32,78,111,110,101,32,124,32,83,111,109,101,32,97,59,32,100,97,116,97,32,76,105,115,116,32,97,32,61,32,78,105,108,32,124,32,67,111,110,115,32,97,32,40,76,105,115,116,32,97,41,59,100,97,116,97,32,80,97,105,114,32,97,32,98,32,61,32,80,97,105,114,32,97,32,98,59,32,100,97,116,97,32,78,97,116,32,61,32,90,101,114,111,32,124,32,83,117,99,99,32,78,97,116,59,32,100,97,116,97,32,70,117,110,32,97,32,98,32,61,32,70,117,110,32,40,97,32,45,62,32,98,41,59,32,100,97,116,97,32,84,119,111,32,97,32,61,32,66,111,116,104,32,97,32,97,32,124,32,79,110,101,32,40,79,112,116,105,111,110,32,97,41,59]))] (.aB 112),
 aa 3 4,
 aG 5 3 (.ext 0),
 aG 6 3 (.ext 1),
 bG 1 [bQ,bQ],
 bG 2 [a0,a0],
 aU 1 5 1 0 2,
 aU 2 6 2 0 2] [1])
 (.seq
 (.ae [aS 7 1 0,
 aM 8 7 1 0 1 false,
 aa 0 8] [0])
 .ret))),none,false⟩
def g95B0:aw:=
 (.seq
 (.seq
 (.ae [aa 6 5,
 aa 7 0,
 aG 8 7 .len,
 aV 9 6 8 (.bin .lss)] [0,1,5,9])
 (.cond (.t 9)
 .skip
 (.exit 0)))
 (.seq
 (.block 1
 (.seq
 (.ae [aa 12 0,
 aa 13 5,
 aV 14 12 13 (.aE 1),
 aG 15 14 (.aN 1 false),
 aa 16 1,
 aV 17 15 16 (.bin .eql)] [0,1,5,17])
 (.cond (.t 17)
 (.seq
 (.ae [a8 4 T_] [4])
 .ret)
 .skip)))
 (.ae [aa 10 5,
 bg 11 10 1 (.bin .add),
 aa 5 11] [0,1,5])))
def g95L0:aw:=.loop [0,1,5] g95B0
theorem g95L0e: cl AP g95L0 st=after (cl AP g95L0) (cl AP g95B0 (norm (restrict [0,1,5] st))):=aF
def g95:aH:=⟨2,18,[.t 4],
 (.seq
 (.ae [a8 4 F_] [0,1])
 (.seq
 (.seq
 (.ae [a8 5 (k_ 0)] [0,1,5])
 (.block 0
 g95L0))
 (.seq
 (.ae [a8 4 F_] [4])
 .ret))),none,false⟩
def g96B0:aw:=
 (.seq
 (.ae [aV 13 12 11 (.bin .lss)] [1,10,11,12,13])
 (.seq
 (.cond (.t 13)
 .skip
 (.exit 0))
 (.seq
 (.block 1
 (.seq
 (.ae [aV 14 10 12 (.aE 5),
 aG 15 14 (.aN 5 true),
 bG 5 ej,
 aU 5 15 5 0 5] [1,5,10,11,12])
 (.ae [aM 16 5 5 0 5 true,
 aa 17 1,
 bK 18 16 17 (.aI 96 [])] [1,10,11,12])))
 (.ae [bg 19 12 1 (.bin .add),
 aa 12 19] [1,10,11,12]))))
def g96L0:aw:=.loop [1,10,11,12] g96B0
theorem g96L0e: cl AP g96L0 st=after (cl AP g96L0) (cl AP g96B0 (norm (restrict [1,10,11,12] st))):=aF
def g96:aH:=⟨2,20,[],
 (.seq
 (.ae [ba 2 0 (.box 2 5)] [1,2])
 (.seq
 (.ae [aa 6 1,
 aM 7 2 2 0 5 true,
 bK 8 6 7 .eK] [1,2])
 (.seq
 (.ae [aS 9 2 4,
 aM 10 9 2 4 1 false,
 aG 11 10 .len,
 a8 12 (k_ 0)] [1,10,11,12])
 (.block 0
 g96L0)))),none,false⟩
def g97:aH:=⟨1,18,[],
 (.seq
 (.ae [ba 2 0 (.box 2 5)] [1,2])
 (.seq
 (.ae [aS 3 2 0,
 aM 4 3 2 0 1 false,
 bg 5 4 1 (.bin .eql),
 aa 6 5,
 aW 7 6 true 1 (.aZ 1 false),
 aW 8 6 true 2 (.v (.bh 2)),
 aW 9 6 true 8 (.bj 2 2 1 false),
 cJ 10 6 true [.t 7,.t 9] (.aB 98),
 aW 11 6 true 10 (.v (.un .not)),
 a_ 12 [.t 6,.t 11,F_] .pick] [1,2,12])
 (.cond (.t 12)
 (.ae [ba 13 1 (.aZ 1 false),
 aS 14 2 2,
 aM 15 14 2 2 1 false,
 aG 16 15 (.aT 1),
 bK 17 13 16 (.append 1 8),
 lP [.t 1,.t 17] (.cU 1)] [])
 .skip))),none,false⟩
def g98:aH:=⟨2,9,[.t 4],
 (.seq
 (.ae [a8 4 F_] [0,1])
 (.seq
 (.ae [aa 5 0,
 aa 6 1,
 bK 7 5 6 (.aB 116),
 bg 8 7 0 (.bin .geq),
 aa 4 8] [4])
 .ret)),none,false⟩
def g99B0:aw:=
 (.seq
 (.seq
 (.ae [aa 19 7,
 aa 20 0,
 aG 21 20 .len,
 aV 22 19 21 (.bin .lss)] [0,4,7,22])
 (.cond (.t 22)
 .skip
 (.exit 0)))
 (.seq
 (.block 1
 (.seq
 (.ae [aa 25 0,
 aa 26 7,
 aV 27 25 26 (.aE 5),
 aG 28 27 (.aN 5 true),
 aM 29 4 4 0 5 true,
 bK 30 28 29 (.aB 20)] [0,4,7,30])
 (.cond (.t 30)
 (.seq
 (.ae [aa 31 0,
 aa 6 31] [6])
 .ret)
 .skip)))
 (.ae [aa 23 7,
 bg 24 23 1 (.bin .add),
 aa 7 24] [0,4,7])))
def g99L0:aw:=.loop [0,4,7] g99B0
theorem g99L0e: cl AP g99L0 st=after (cl AP g99L0) (cl AP g99B0 (norm (restrict [0,4,7] st))):=aF
def g99B1:aw:=
 (.seq
 (.seq
 (.ae [aa 36 8,
 aS 37 4 4,
 aM 38 37 4 4 1 false,
 aG 39 38 .len,
 aV 40 36 39 (.bin .lss)] [0,2,4,8,40])
 (.cond (.t 40)
 .skip
 (.exit 2)))
 (.seq
 (.block 3
 (.ae [aa 43 0,
 aS 44 4 4,
 aM 45 44 4 4 1 false,
 aa 46 8,
 aV 47 45 46 (.aE 5),
 aG 48 47 (.aN 5 true),
 aa 49 2,
 bD 50 [.t 43,.t 48,.t 49] (.aI 99 [0]),
 aa 0 50] [0,2,4,8]))
 (.ae [aa 41 8,
 bg 42 41 1 (.bin .add),
 aa 8 42] [0,2,4,8])))
def g99L1:aw:=.loop [0,2,4,8] g99B1
theorem g99L1e: cl AP g99L1 st=after (cl AP g99L1) (cl AP g99B1 (norm (restrict [0,2,4,8] st))):=aF
def g99:aH:=⟨3,52,[.t 6],
 (.seq
 (.ae [ba 4 1 (.box 4 5),
 a_ 6 [.c (.bB [])] .mv] [0,2,4])
 (.seq
 (.seq
 (.ae [aS 9 4 0,
 aM 10 9 4 0 1 false,
 aa 11 2,
 aV 12 10 11 (.bin .eql),
 aa 13 12,
 aW 14 13 true 4 (.v (.bh 4)),
 aW 15 13 true 14 (.bj 4 4 1 false),
 aW 16 13 true 15 (.v (.len)),
 cJ 17 13 true [.t 16,k_ 0] (.v (.bin .eql)),
 a_ 18 [.t 13,.t 17,F_] .pick] [0,2,4,18])
 (.cond (.t 18)
 (.seq
 (.seq
 (.ae [a8 7 (k_ 0)] [0,4,7])
 (.block 0
 g99L0))
 (.seq
 (.ae [aa 32 0,
 aM 33 4 4 0 5 true,
 aG 34 33 (.aT 5),
 bK 35 32 34 (.append 5 64),
 aa 6 35] [6])
 .ret))
 .skip))
 (.seq
 (.seq
 (.ae [a8 8 (k_ 0)] [0,2,4,8])
 (.block 2
 g99L1))
 (.seq
 (.ae [aa 51 0,
 aa 6 51] [6])
 .ret)))),none,false⟩
def g106:aH:=⟨1,5,[.c 2 5 true],
 (.seq
 (.ae [bG 2 ej] [0,2])
 (.seq
 (.ae [aa 3 0,
 a_ 4 [k_ 5,.t 3] (.build ej [(0,1),(1,1)]),
 aU 2 4 2 0 5] [2])
 .ret)),none,false⟩
def g108B0:aw:=
 (.seq
 (.seq
 (.ae [aa 4 3,
 aa 5 0,
 aG 6 5 .jx,
 aV 7 4 6 (.bin .lss)] [0,3,7])
 (.cond (.t 7)
 .skip
 (.exit 0)))
 (.seq
 (.block 1
 (.seq
 (.ae [aa 10 0,
 aa 11 3,
 aV 12 10 11 .index,
 ba 13 12 (.aB 117),
 aG 14 13 (.un .not)] [0,3,14])
 (.cond (.t 14)
 (.seq
 (.ae [a8 2 F_] [2])
 .ret)
 .skip)))
 (.ae [aa 8 3,
 bg 9 8 1 (.bin .add),
 aa 3 9] [0,3])))
def g108L0:aw:=.loop [0,3] g108B0
theorem g108L0e: cl AP g108L0 st=after (cl AP g108L0) (cl AP g108B0 (norm (restrict [0,3] st))):=aF
def g108:aH:=⟨1,17,[.t 2],
 (.seq
 (.ae [a8 2 F_] [0])
 (.seq
 (.seq
 (.ae [a8 3 (k_ 0)] [0,3])
 (.block 0
 g108L0))
 (.seq
 (.ae [aa 15 0,
 a_ 16 [.t 15,.c (.pv (.str []))] (.bin .neq),
 aa 2 16] [2])
 .ret))),none,false⟩
def g109:aH:=⟨1,9,[.t 2],
 (.seq
 (.ae [a8 2 F_] [0])
 (.seq
 (.ae [aa 3 0,
 a_ 4 [.t 3,.c (.pv (.int .u8 97))] (.bin .geq),
 aa 5 4,
 aW 6 5 true 0 (.v (.mv)),
 cJ 7 5 true [.t 6,.c (.pv (.int .u8 122))] (.v (.bin .leq)),
 a_ 8 [.t 5,.t 7,F_] .pick,
 aa 2 8] [2])
 .ret)),none,false⟩
def g110B0:aw:=
 (.seq
 (.seq
 (.ae [aa 6 4,
 aa 7 3,
 aG 8 7 .len,
 aV 9 6 8 (.bin .lss)] [0,3,4,9])
 (.cond (.t 9)
 .skip
 (.exit 0)))
 (.seq
 (.block 1
 (.seq
 (.ae [aa 12 3,
 aa 13 4,
 aV 14 12 13 (.aE 1),
 aG 15 14 (.aN 1 false),
 aa 16 0,
 aV 17 15 16 (.bin .eql)] [0,3,4,17])
 (.cond (.t 17)
 (.seq
 (.ae [a8 2 T_] [2])
 .ret)
 .skip)))
 (.ae [aa 10 4,
 bg 11 10 1 (.bin .add),
 aa 4 11] [0,3,4])))
def g110L0:aw:=.loop [0,3,4] g110B0
theorem g110L0e: cl AP g110L0 st=after (cl AP g110L0) (cl AP g110B0 (norm (restrict [0,3,4] st))):=aF
def g110:aH:=⟨1,18,[.t 2],
 (.seq
 (.ae [a8 2 F_] [0])
 (.seq
 (.ae [a_ 5 [.c (.pv (.str [100,97,116,97])),.c (.pv (.str [108,101,116])),.c (.pv (.str [114,101,99])),.c (.pv (.str [105,110])),.c (.pv (.str [99,97,115,101])),.c (.pv (.str [111,102])),.c (.pv (.str [101,110,100]))] (.aT 1),
 aa 3 5] [0,3])
 (.seq
 (.seq
 (.ae [a8 4 (k_ 0)] [0,3,4])
 (.block 0
 g110L0))
 (.seq
 (.ae [a8 2 F_] [2])
 .ret)))),none,false⟩
def g111:aH:=⟨1,9,[.t 2],
 (.seq
 (.ae [a8 2 F_] [0])
 (.seq
 (.ae [aa 3 0,
 a_ 4 [.t 3,.c (.pv (.int .u8 65))] (.bin .geq),
 aa 5 4,
 aW 6 5 true 0 (.v (.mv)),
 cJ 7 5 true [.t 6,.c (.pv (.int .u8 90))] (.v (.bin .leq)),
 a_ 8 [.t 5,.t 7,F_] .pick,
 aa 2 8] [2])
 .ret)),none,false⟩
def g112B0:aw:=
 (.seq
 (.seq
 (.ae [aa 20 7,
 aG 21 20 .aY,
 aS 22 21 2,
 ba 23 22 (.aZ 1 false),
 aG 24 23 (.un .not),
 aa 25 24,
 aW 26 25 true 7 (.v (.mv)),
 aW 27 25 true 26 (.v (.aY)),
 aW 28 25 true 27 (.v (.bh 1)),
 aW 29 25 true 28 (.aZ 1 false),
 aW 30 25 true 4 (.v (.mv)),
 aW 31 25 true 30 (.v (.len)),
 cJ 32 25 true [.t 29,.t 31] (.v (.bin .lss)),
 a_ 33 [.t 25,.t 32,F_] .pick] [2,3,4,5,6,7,33])
 (.cond (.t 33)
 .skip
 (.exit 0)))
 (.block 1
 (.seq
 (.ae [aa 34 7,
 bD 35 [.t 34,.c (.pv (.str [100,97,116,97]))] (.aI 120 [])] [2,3,4,5,6,7,35])
 (.cond (.t 35)
 (.ae [aS 36 6 0,
 aM 37 36 6 0 1 false,
 aa 38 7,
 ba 39 38 (.aI 121 []),
 aG 40 39 (.aT 4),
 bK 41 37 40 (.append 4 72),
 aS 42 6 0,
 aU 42 41 6 0 1] [2,3,4,5,6,7])
 (.ae [aS 43 6 1,
 aM 44 43 6 1 1 false,
 aa 45 7,
 ba 46 45 (.aI 122 []),
 aG 47 46 (.aT 20),
 bK 48 44 47 (.append 20 256),
 aS 49 6 1,
 aU 49 48 6 1 1] [2,3,4,5,6,7])))))
def g112L0:aw:=.loop [2,3,4,5,6,7] g112B0
theorem g112L0e: cl AP g112L0 st=after (cl AP g112L0) (cl AP g112B0 (norm (restrict [2,3,4,5,6,7] st))):=aF
def g112:aH:=⟨1,69,[.c 2 2 true,.c 3 2 true],
 (.seq
 (.ae [bG 2 [bQ,bQ],
 bG 3 [a0,a0]] [0,2,3])
 (.seq
 (.ae [aa 9 0,
 ba 10 9 (.aB 118),
 aa 8 10,
 aG 11 8 (.ext 0),
 aG 12 8 (.ext 1),
 bG 5 [a0,a0],
 aa 4 11,
 aU 5 12 5 0 2] [2,3,4,5])
 (.seq
 (.seq
 (.ae [aS 13 5 0,
 aM 14 13 5 0 1 false,
 bg 15 14 0 (.bin .neq)] [2,3,4,5,15])
 (.cond (.t 15)
 (.seq
 (.ae [a_ 16 [] (.build [bQ,bQ] []),
 aM 17 5 5 0 2 true,
 aU 2 16 2 0 2,
 aU 3 17 3 0 2] [2,3])
 .ret)
 .skip))
 (.seq
 (.ae [bG 6 [bQ,bQ]] [2,3,4,5,6])
 (.seq
 (.ae [aa 18 4,
 bD 19 [.t 18,k_ 0] (.aI 119 []),
 aa 7 19] [2,3,4,5,6,7])
 (.seq
 (.block 0
 g112L0)
 (.seq
 (.seq
 (.ae [aa 50 7,
 aG 51 50 .aY,
 aS 52 51 2,
 ba 53 52 (.aZ 1 false)] [2,3,5,6,7,53])
 (.cond (.t 53)
 (.seq
 (.ae [a_ 54 [] (.build [bQ,bQ] []),
 aa 55 7,
 aG 56 55 .aY,
 aS 57 56 3,
 ba 58 57 (.aZ 1 false),
 a_ 59 [k_ 3,.t 58] (.build [a0,a0] [(0,1),(1,1)]),
 aU 2 54 2 0 2,
 aU 3 59 3 0 2] [2,3])
 .ret)
 .skip))
 (.seq
 (.seq
 (.ae [aM 60 6 6 0 2 true,
 ba 61 60 (.aB 123),
 aU 5 61 5 0 2] [2,3,5,6])
 (.seq
 (.ae [aS 62 5 0,
 aM 63 62 5 0 1 false,
 bg 64 63 0 (.bin .neq)] [2,3,5,6,64])
 (.cond (.t 64)
 (.seq
 (.ae [a_ 65 [] (.build [bQ,bQ] []),
 aM 66 5 5 0 2 true,
 aU 2 65 2 0 2,
 aU 3 66 3 0 2] [2,3])
 .ret)
 .skip)))
 (.seq
 (.ae [aM 67 6 6 0 2 true,
 aM 68 5 5 0 2 true,
 aU 2 67 2 0 2,
 aU 3 68 3 0 2] [2,3])
 .ret))))))))),none,true⟩
def g116B0:aw:=
 (.seq
 (.ae [aV 9 8 7 (.bin .lss)] [0,1,7,8,9])
 (.seq
 (.cond (.t 9)
 .skip
 (.exit 0))
 (.seq
 (.block 1
 (.seq
 (.ae [aa 10 8,
 aa 5 10] [0,1,5,7,8])
 (.seq
 (.ae [aa 11 1,
 aa 12 0,
 aa 13 5,
 aV 14 12 13 (.aE 1),
 aG 15 14 (.aN 1 false),
 aV 16 11 15 (.bin .eql)] [0,1,5,7,8,16])
 (.cond (.t 16)
 (.seq
 (.ae [aa 17 5,
 aa 4 17] [4])
 .ret)
 .skip))))
 (.ae [bg 18 8 1 (.bin .add),
 aa 8 18] [0,1,7,8]))))
def g116L0:aw:=.loop [0,1,7,8] g116B0
theorem g116L0e: cl AP g116L0 st=after (cl AP g116L0) (cl AP g116B0 (norm (restrict [0,1,7,8] st))):=aF
def g116:aH:=⟨2,19,[.t 4],
 (.seq
 (.ae [a8 4 (k_ 0)] [0,1])
 (.seq
 (.seq
 (.ae [aa 6 0,
 aG 7 6 .len,
 a8 8 (k_ 0)] [0,1,7,8])
 (.block 0
 g116L0))
 (.seq
 (.ae [a8 4 (k_ (-1))] [4])
 .ret))),none,false⟩
def g117:aH:=⟨1,17,[.t 2],
 (.seq
 (.ae [a8 2 F_] [0])
 (.seq
 (.ae [aa 3 0,
 ba 4 3 (.aB 109),
 aa 5 4,
 aW 6 5 false 0 (.v (.mv)),
 aW 7 5 false 6 (.aB 111),
 a_ 8 [.t 5,T_,.t 7] .pick,
 aa 9 8,
 aW 10 9 false 0 (.v (.mv)),
 aW 11 9 false 10 (.aB 124),
 a_ 12 [.t 9,T_,.t 11] .pick,
 aa 13 12,
 aW 14 13 false 0 (.v (.mv)),
 cJ 15 13 false [.t 14,.c (.pv (.int .u8 95))] (.v (.bin .eql)),
 a_ 16 [.t 13,T_,.t 15] .pick,
 aa 2 16] [2])
 .ret)),none,false⟩
def g118B1:aw:=
 (.seq
 (.seq
 (.ae [aa 42 5,
 aa 43 0,
 aG 44 43 .jx,
 aV 45 42 44 (.bin .lss),
 aa 46 45,
 aW 47 46 true 0 (.v (.mv)),
 aW 48 46 true 5 (.v (.mv)),
 cJ 49 46 true [.t 47,.t 48] (.v (.index)),
 cJ 50 46 true [.t 49,.c (.pv (.int .u8 10))] (.v (.bin .neq)),
 a_ 51 [.t 46,.t 50,F_] .pick] [0,3,4,5,51])
 (.cond (.t 51)
 .skip
 (.exit 3)))
 (.block 4
 (.ae [aa 52 5,
 bg 53 52 1 (.bin .add),
 aa 5 53] [0,3,4,5])))
def g118L1:aw:=.loop [0,3,4,5] g118B1
theorem g118L1e: cl AP g118L1 st=after (cl AP g118L1) (cl AP g118B1 (norm (restrict [0,3,4,5] st))):=aF
def g118B2:aw:=
 (.seq
 (.seq
 (.ae [aa 57 7,
 aa 58 0,
 aG 59 58 .jx,
 aV 60 57 59 (.bin .lss),
 aa 61 60,
 aW 62 61 true 0 (.v (.mv)),
 aW 63 61 true 7 (.v (.mv)),
 cJ 64 61 true [.t 62,.t 63] (.v (.index)),
 aW 65 61 true 64 (.aB 117),
 a_ 66 [.t 61,.t 65,F_] .pick] [0,3,4,5,7,66])
 (.cond (.t 66)
 .skip
 (.exit 5)))
 (.block 6
 (.ae [aa 67 7,
 bg 68 67 1 (.bin .add),
 aa 7 68] [0,3,4,5,7])))
def g118L2:aw:=.loop [0,3,4,5,7] g118B2
theorem g118L2e: cl AP g118L2 st=after (cl AP g118L2) (cl AP g118B2 (norm (restrict [0,3,4,5,7] st))):=aF
def g118B0:aw:=
 (.seq
 (.seq
 (.ae [aa 13 5,
 aa 14 0,
 aG 15 14 .jx,
 aV 16 13 15 (.bin .lss)] [0,3,4,5,16])
 (.cond (.t 16)
 .skip
 (.exit 0)))
 (.block 1
 (.seq
 (.ae [aa 17 0,
 aa 18 5,
 aV 19 17 18 .index,
 aa 6 19] [0,3,4,5,6])
 (.seq
 (.ae [aa 20 5,
 bg 21 20 1 (.bin .add),
 aa 7 21] [0,3,4,5,6,7])
 (.seq
 (.block 2
 (.seq
 (.ae [aa 23 6,
 a_ 24 [.t 23,.c (.pv (.int .u8 32))] (.bin .eql),
 aa 25 24,
 aW 26 25 false 6 (.v (.mv)),
 cJ 27 25 false [.t 26,.c (.pv (.int .u8 9))] (.v (.bin .eql)),
 a_ 28 [.t 25,T_,.t 27] .pick,
 aa 29 28,
 aW 30 29 false 6 (.v (.mv)),
 cJ 31 29 false [.t 30,.c (.pv (.int .u8 13))] (.v (.bin .eql)),
 a_ 32 [.t 29,T_,.t 31] .pick,
 aa 33 32,
 aW 34 33 false 6 (.v (.mv)),
 cJ 35 33 false [.t 34,.c (.pv (.int .u8 10))] (.v (.bin .eql)),
 a_ 36 [.t 33,T_,.t 35] .pick,
 aa 22 36] [0,3,4,5,6,7,22])
 (.cond (.t 22)
 (.seq
 (.ae [aa 37 5,
 bg 38 37 1 (.bin .add),
 aa 5 38] [0,3,4,5])
 (.exit 1))
 (.seq
 (.ae [aa 40 6,
 a_ 41 [.t 40,.c (.pv (.int .u8 35))] (.bin .eql),
 aa 39 41] [0,3,4,5,6,7,39])
 (.cond (.t 39)
 (.seq
 (.block 3
 g118L1)
 (.exit 1))
 (.seq
 (.ae [aa 55 6,
 ba 56 55 (.aB 117),
 aa 54 56] [0,3,4,5,6,7,54])
 (.cond (.t 54)
 (.block 5
 g118L2)
 (.seq
 (.ae [aa 70 6,
 a_ 71 [.t 70,.c (.pv (.int .u8 45))] (.bin .eql),
 aa 72 71,
 aW 73 72 true 7 (.v (.mv)),
 aW 74 72 true 0 (.v (.mv)),
 aW 75 72 true 74 (.v (.jx)),
 cJ 76 72 true [.t 73,.t 75] (.v (.bin .lss)),
 a_ 77 [.t 72,.t 76,F_] .pick,
 aa 78 77,
 aW 79 78 true 0 (.v (.mv)),
 aW 80 78 true 7 (.v (.mv)),
 cJ 81 78 true [.t 79,.t 80] (.v (.index)),
 cJ 82 78 true [.t 81,.c (.pv (.int .u8 62))] (.v (.bin .eql)),
 a_ 83 [.t 78,.t 82,F_] .pick,
 aa 69 83] [0,3,4,5,7,69])
 (.cond (.t 69)
 (.ae [aa 84 7,
 bg 85 84 1 (.bin .add),
 aa 7 85] [0,3,4,5,7])
 .skip)))))))))
 (.seq
 (.ae [aa 86 0,
 aa 87 5,
 aa 88 7,
 a_ 89 [.t 86,.t 87,.t 88] (.slice true 0 true true false),
 ba 90 89 (.aB 125),
 aa 8 90] [0,3,4,5,7,8])
 (.seq
 (.seq
 (.ae [aa 91 8,
 bg 92 91 0 (.bin .eql)] [0,3,4,5,7,8,92])
 (.cond (.t 92)
 (.seq
 (.ae [aa 93 5,
 a_ 94 [k_ 2,.t 93] (.build [a0,a0] [(0,1),(1,1)]),
 a_ 2 [.c (.bB [])] .mv,
 aU 3 94 3 0 2] [2,3])
 .ret)
 .skip))
 (.seq
 (.ae [aa 95 4,
 aa 96 8,
 aa 97 0,
 aa 98 5,
 aa 99 7,
 a_ 100 [.t 97,.t 98,.t 99] (.slice true 0 true true false),
 aa 101 5,
 a_ 102 [.t 96,.t 100,.t 101] (.build [a0,dN,a0] [(0,1),(1,1),(2,1)]),
 aG 103 102 (.aT 3),
 bK 104 95 103 (.append 3 32),
 aa 4 104] [0,3,4,7])
 (.ae [aa 105 7,
 aa 5 105] [0,3,4,5])))))))))
def g118L0:aw:=.loop [0,3,4,5] g118B0
theorem g118L0e: cl AP g118L0 st=after (cl AP g118L0) (cl AP g118B0 (norm (restrict [0,3,4,5] st))):=aF
def g118:aH:=⟨1,108,[.t 2,.c 3 2 true],
 (.seq
 (.ae [a_ 2 [.c (.bB [])] .mv,
 bG 3 [a0,a0]] [0,3])
 (.seq
 (.seq
 (.ae [aa 9 0,
 aG 10 9 .jx,
 bg 11 10 4000 (.bin .gtr)] [0,3,11])
 (.cond (.t 11)
 (.seq
 (.ae [a_ 12 [k_ 1] (.build [a0,a0] [(0,1)]),
 a_ 2 [.c (.bB [])] .mv,
 aU 3 12 3 0 2] [2,3])
 .ret)
 .skip))
 (.seq
 (.ae [a_ 4 [.c (.bB [])] .mv] [0,3,4])
 (.seq
 (.seq
 (.ae [a8 5 (k_ 0)] [0,3,4,5])
 (.block 0
 g118L0))
 (.seq
 (.ae [aa 106 4,
 a_ 107 [] (.build [a0,a0] []),
 aa 2 106,
 aU 3 107 3 0 2] [2,3])
 .ret))))),none,false⟩
def g119:aH:=⟨2,19,[.t 4],
 (.seq
 (.ae [a_ 4 [.c (.dk)] .mv] [0,1])
 (.seq
 (.seq
 (.ae [aa 5 1,
 bg 6 5 0 (.bin .lss),
 aa 7 6,
 aW 8 7 false 1 (.v (.mv)),
 aW 9 7 false 0 (.v (.mv)),
 aW 10 7 false 9 (.v (.len)),
 cJ 11 7 false [.t 8,.t 10] (.v (.bin .gtr)),
 a_ 12 [.t 7,T_,.t 11] .pick] [0,1,12])
 (.cond (.t 12)
 (.ae [aa 13 0,
 aG 14 13 .len,
 aa 1 14] [0,1])
 .skip))
 (.seq
 (.ae [aa 15 0,
 aa 16 1,
 aV 17 15 16 (.build [bQ,a0,.bool false,a0] [(0,1),(1,1)]),
 ba 18 17 (.lS 4),
 aa 4 18] [4])
 .ret))),none,false⟩
def g120:aH:=⟨2,65,[.t 4],
 (.seq
 (.ae [a8 4 F_] [0,1])
 (.seq
 (.ae [aa 5 0,
 aG 6 5 .aY,
 aS 7 6 2,
 ba 8 7 (.aZ 1 false),
 aG 9 8 (.un .not),
 aa 10 9,
 aW 11 10 true 0 (.v (.mv)),
 aW 12 10 true 11 (.v (.aY)),
 aW 13 10 true 12 (.v (.bh 1)),
 aW 14 10 true 13 (.aZ 1 false),
 aW 15 10 true 0 (.v (.mv)),
 aW 16 10 true 15 (.v (.aY)),
 aW 17 10 true 16 (.v (.bh 0)),
 aW 18 10 true 17 (.aZ 1 false),
 aW 19 10 true 18 (.v (.len)),
 cJ 20 10 true [.t 14,.t 19] (.v (.bin .lss)),
 a_ 21 [.t 10,.t 20,F_] .pick,
 aa 22 21,
 aW 23 22 true 0 (.v (.mv)),
 aW 24 22 true 23 (.v (.aY)),
 aW 25 22 true 24 (.v (.bh 0)),
 aW 26 22 true 25 (.aZ 1 false),
 aW 27 22 true 0 (.v (.mv)),
 aW 28 22 true 27 (.v (.aY)),
 aW 29 22 true 28 (.v (.bh 1)),
 aW 30 22 true 29 (.aZ 1 false),
 cJ 31 22 true [.t 26,.t 30] (.v (.aE 3)),
 aW 32 22 true 31 (.v (.bh 0)),
 aW 33 22 true 32 (.v (.aN 1 false)),
 cJ 34 22 true [.t 33,k_ 5] (.v (.bin .eql)),
 aW 35 22 true 34 (.v (.mv)),
 aW 36 35 false 0 (.v (.mv)),
 aW 37 35 false 36 (.v (.aY)),
 aW 38 35 false 37 (.v (.bh 0)),
 aW 39 35 false 38 (.aZ 1 false),
 aW 40 35 false 0 (.v (.mv)),
 aW 41 35 false 40 (.v (.aY)),
 aW 42 35 false 41 (.v (.bh 1)),
 aW 43 35 false 42 (.aZ 1 false),
 cJ 44 35 false [.t 39,.t 43] (.v (.aE 3)),
 aW 45 35 false 44 (.v (.bh 0)),
 aW 46 35 false 45 (.v (.aN 1 false)),
 cJ 47 35 false [.t 46,k_ 4] (.v (.bin .eql)),
 cJ 48 22 true [.t 35,T_,.t 47] (.v (.pick)),
 a_ 49 [.t 22,.t 48,F_] .pick,
 aa 50 49,
 aW 51 50 true 0 (.v (.mv)),
 aW 52 50 true 51 (.v (.aY)),
 aW 53 50 true 52 (.v (.bh 0)),
 aW 54 50 true 53 (.aZ 1 false),
 aW 55 50 true 0 (.v (.mv)),
 aW 56 50 true 55 (.v (.aY)),
 aW 57 50 true 56 (.v (.bh 1)),
 aW 58 50 true 57 (.aZ 1 false),
 cJ 59 50 true [.t 54,.t 58] (.v (.aE 3)),
 aW 60 50 true 59 (.v (.bh 1)),
 aW 61 50 true 60 (.v (.aN 1 false)),
 aW 62 50 true 1 (.v (.mv)),
 cJ 63 50 true [.t 61,.t 62] (.v (.bin .eql)),
 a_ 64 [.t 50,.t 63,F_] .pick,
 aa 4 64] [4])
 .ret)),none,false⟩
def g121B0:aw:=
 (.seq
 (.seq
 (.ae [aa 13 0,
 bD 14 [.t 13,k_ 1] (.aI 129 [])] [0,2,3,14])
 (.cond (.t 14)
 .skip
 (.exit 0)))
 (.block 1
 (.ae [aS 15 3 2,
 aM 16 15 3 2 1 false,
 aa 17 0,
 bD 18 [.t 17,k_ 1] (.aI 128 []),
 aG 19 18 (.aT 1),
 bK 20 16 19 (.append 1 16),
 aS 21 3 2,
 aU 21 20 3 2 1] [0,2,3])))
def g121L0:aw:=.loop [0,2,3] g121B0
theorem g121L0e: cl AP g121L0 st=after (cl AP g121L0) (cl AP g121B0 (norm (restrict [0,2,3] st))):=aF
def g121B2:aw:=
 (.seq
 (.seq
 (.ae [aa 34 0,
 ba 35 34 (.aI 130 [])] [0,2,3,4,35])
 (.cond (.t 35)
 .skip
 (.exit 4)))
 (.block 5
 (.ae [aS 36 4 2,
 aM 37 36 4 2 1 false,
 aa 38 0,
 ba 39 38 (.aI 131 []),
 aG 40 39 (.aT 5),
 bK 41 37 40 (.append 5 64),
 aS 42 4 2,
 aU 42 41 4 2 1] [0,2,3,4])))
def g121L2:aw:=.loop [0,2,3,4] g121B2
theorem g121L2e: cl AP g121L2 st=after (cl AP g121L2) (cl AP g121B2 (norm (restrict [0,2,3,4] st))):=aF
def g121B1:aw:=
 (.seq
 (.seq
 (.ae [aa 24 0,
 aG 25 24 .aY,
 aS 26 25 2,
 ba 27 26 (.aZ 1 false),
 aG 28 27 (.un .not)] [0,2,3,28])
 (.cond (.t 28)
 .skip
 (.exit 2)))
 (.block 3
 (.seq
 (.ae [aa 29 0,
 ba 30 29 (.aI 126 []),
 aa 31 0,
 bD 32 [.t 31,k_ 2] (.aI 128 []),
 aV 33 30 32 (.build [a0,dN,bQ] [(0,1),(1,1)]),
 bG 4 [a0,dN,bQ],
 aU 4 33 4 0 3] [0,2,3,4])
 (.seq
 (.block 4
 g121L2)
 (.seq
 (.ae [aS 43 3 3,
 aM 44 43 3 3 1 false,
 aM 45 4 4 0 3 true,
 aG 46 45 (.aT 3),
 bK 47 44 46 (.append 3 48),
 aS 48 3 3,
 aU 48 47 3 3 1] [0,2,3])
 (.seq
 (.ae [aa 49 0,
 bD 50 [.t 49,.c (.pv (.str [124]))] (.aI 132 []),
 aG 51 50 (.un .not)] [0,2,3,51])
 (.cond (.t 51)
 (.exit 2)
 .skip)))))))
def g121L1:aw:=.loop [0,2,3] g121B1
theorem g121L1e: cl AP g121L1 st=after (cl AP g121L1) (cl AP g121B1 (norm (restrict [0,2,3] st))):=aF
def g121:aH:=⟨1,55,[.c 2 4 true],
 (.seq
 (.ae [bG 2 FF] [0,2])
 (.seq
 (.ae [aa 5 0,
 ba 6 5 (.aI 126 []),
 aG 7 6 (.build FF [(0,1)]),
 bG 3 FF,
 aU 3 7 3 0 4] [0,2,3])
 (.seq
 (.ae [aa 8 0,
 bD 9 [.t 8,.c (.pv (.str [100,97,116,97]))] (.aI 127 [])] [0,2,3])
 (.seq
 (.ae [aa 10 0,
 bD 11 [.t 10,k_ 2] (.aI 128 []),
 aS 12 3 1,
 aU 12 11 3 1 1] [0,2,3])
 (.seq
 (.block 0
 g121L0)
 (.seq
 (.ae [aa 22 0,
 bD 23 [.t 22,.c (.pv (.str [61]))] (.aI 127 [])] [0,2,3])
 (.seq
 (.block 2
 g121L1)
 (.seq
 (.ae [aa 52 0,
 bD 53 [.t 52,.c (.pv (.str [59]))] (.aI 127 [])] [2,3])
 (.seq
 (.ae [aM 54 3 3 0 4 true,
 aU 2 54 2 0 4] [2])
 .ret))))))))),none,false⟩
def g122:aH:=⟨1,34,[.c 2 20 true],
 (.seq
 (.ae [bG 2 [a0,.bool false,dN,.bool false,a0,dN,a0,a0,bQ,a0,a0,dN,a0,bQ,bQ,a0,dN,a0,a0,bQ]] [0,2])
 (.seq
 (.ae [aa 4 0,
 ba 5 4 (.aI 126 []),
 aG 6 5 (.build [a0,.bool false,dN,.bool false,a0,dN,a0,a0,bQ,a0,a0,dN,a0,bQ,bQ,a0,dN,a0,a0,bQ] [(0,1)]),
 bG 3 [a0,.bool false,dN,.bool false,a0,dN,a0,a0,bQ,a0,a0,dN,a0,bQ,bQ,a0,dN,a0,a0,bQ],
 aU 3 6 3 0 20] [0,2,3])
 (.seq
 (.ae [aa 7 0,
 bD 8 [.t 7,.c (.pv (.str [108,101,116]))] (.aI 127 [])] [0,2,3])
 (.seq
 (.ae [aa 9 0,
 bD 10 [.t 9,.c (.pv (.str [114,101,99]))] (.aI 132 []),
 aS 11 3 1,
 aU 11 10 3 1 1] [0,2,3])
 (.seq
 (.ae [aa 12 0,
 bD 13 [.t 12,k_ 1] (.aI 128 []),
 aS 14 3 2,
 aU 14 13 3 2 1] [0,2,3])
 (.seq
 (.seq
 (.ae [aa 15 0,
 bD 16 [.t 15,.c (.pv (.str [58]))] (.aI 132 [])] [0,2,3,16])
 (.cond (.t 16)
 (.seq
 (.ae [aS 17 3 3,
 lP [.t 17,T_] (.cT 3 3 1)] [0,2,3])
 (.ae [aa 18 0,
 ba 19 18 (.aI 133 []),
 aS 20 3 4,
 aU 20 19 3 4 5] [0,2,3]))
 .skip))
 (.seq
 (.ae [aa 21 0,
 bD 22 [.t 21,.c (.pv (.str [61]))] (.aI 127 [])] [0,2,3])
 (.seq
 (.seq
 (.ae [aa 23 0,
 aG 24 23 .aY,
 aS 25 24 2,
 ba 26 25 (.aZ 1 false),
 aG 27 26 (.un .not)] [0,2,3,27])
 (.cond (.t 27)
 (.ae [aa 28 0,
 ba 29 28 (.aI 134 []),
 aS 30 3 9,
 aU 30 29 3 9 11] [0,2,3])
 .skip))
 (.seq
 (.ae [aa 31 0,
 bD 32 [.t 31,.c (.pv (.str [59]))] (.aI 127 [])] [2,3])
 (.seq
 (.ae [aM 33 3 3 0 20 true,
 aU 2 33 2 0 20] [2])
 .ret)))))))))),none,false⟩
def g123B1:aw:=
 (.seq
 (.seq
 (.ae [aa 43 5,
 aS 44 4 3,
 aM 45 44 4 3 1 false,
 aG 46 45 .len,
 aV 47 43 46 (.bin .lss)] [1,2,3,4,5,47])
 (.cond (.t 47)
 .skip
 (.exit 2)))
 (.seq
 (.block 3
 (.seq
 (.ae [aS 50 4 3,
 aM 51 50 4 3 1 false,
 aa 52 5,
 aV 53 51 52 (.aE 3),
 aS 54 53 2,
 aG 55 54 (.aN 1 false),
 aG 56 55 .len,
 bg 57 56 4 (.bin .gtr)] [1,2,3,4,5,57])
 (.cond (.t 57)
 (.seq
 (.ae [aS 58 4 3,
 aM 59 58 4 3 1 false,
 aa 60 5,
 aV 61 59 60 (.aE 3),
 aS 62 61 0,
 aG 63 62 (.aN 1 false),
 a_ 64 [k_ 5,.t 63] (.build [a0,a0] [(0,1),(1,1)]),
 aU 2 64 2 0 2] [2])
 .ret)
 .skip)))
 (.ae [aa 48 5,
 bg 49 48 1 (.bin .add),
 aa 5 49] [1,2,3,4,5])))
def g123L1:aw:=.loop [1,2,3,4,5] g123B1
theorem g123L1e: cl AP g123L1 st=after (cl AP g123L1) (cl AP g123B1 (norm (restrict [1,2,3,4,5] st))):=aF
def g123B0:aw:=
 (.seq
 (.seq
 (.ae [aa 14 3,
 aS 15 1 0,
 aM 16 15 1 0 1 false,
 aG 17 16 .len,
 aV 18 14 17 (.bin .lss)] [1,2,3,18])
 (.cond (.t 18)
 .skip
 (.exit 0)))
 (.seq
 (.block 1
 (.seq
 (.ae [aS 21 1 0,
 aM 22 21 1 0 1 false,
 aa 23 3,
 aV 24 22 23 (.aE 4),
 aG 25 24 (.aN 4 true),
 bG 4 FF,
 aU 4 25 4 0 4] [1,2,3,4])
 (.seq
 (.seq
 (.ae [aa 26 3,
 bg 27 26 8 (.bin .geq),
 aa 28 27,
 aW 29 28 false 4 (.v (.bh 2)),
 aW 30 28 false 29 (.bj 4 2 1 false),
 aW 31 28 false 30 (.v (.len)),
 cJ 32 28 false [.t 31,k_ 4] (.v (.bin .gtr)),
 a_ 33 [.t 28,T_,.t 32] .pick,
 aa 34 33,
 aW 35 34 false 4 (.v (.bh 3)),
 aW 36 34 false 35 (.bj 4 3 1 false),
 aW 37 34 false 36 (.v (.len)),
 cJ 38 34 false [.t 37,k_ 6] (.v (.bin .gtr)),
 a_ 39 [.t 34,T_,.t 38] .pick] [1,2,3,4,39])
 (.cond (.t 39)
 (.seq
 (.ae [aS 40 4 0,
 aM 41 40 4 0 1 false,
 a_ 42 [k_ 5,.t 41] (.build [a0,a0] [(0,1),(1,1)]),
 aU 2 42 2 0 2] [2])
 .ret)
 .skip))
 (.seq
 (.ae [a8 5 (k_ 0)] [1,2,3,4,5])
 (.block 2
 g123L1)))))
 (.ae [aa 19 3,
 bg 20 19 1 (.bin .add),
 aa 3 20] [1,2,3])))
def g123L0:aw:=.loop [1,2,3] g123B0
theorem g123L0e: cl AP g123L0 st=after (cl AP g123L0) (cl AP g123B0 (norm (restrict [1,2,3] st))):=aF
def g123B4:aw:=
 (.seq
 (.seq
 (.ae [aa 94 9,
 aS 95 7 3,
 aM 96 95 7 3 1 false,
 aa 97 8,
 aV 98 96 97 (.aE 3),
 aS 99 98 2,
 aG 100 99 (.aN 1 false),
 aG 101 100 .len,
 aV 102 94 101 (.bin .lss)] [1,2,6,7,8,9,102])
 (.cond (.t 102)
 .skip
 (.exit 8)))
 (.seq
 (.block 9
 (.seq
 (.ae [aS 105 7 3,
 aM 106 105 7 3 1 false,
 aa 107 8,
 aV 108 106 107 (.aE 3),
 aS 109 108 2,
 aG 110 109 (.aN 1 false),
 aa 111 9,
 aV 112 110 111 (.aE 5),
 aG 113 112 (.aN 5 true),
 ba 114 113 (.aB 52),
 bg 115 114 40 (.bin .gtr)] [1,2,6,7,8,9,115])
 (.cond (.t 115)
 (.seq
 (.ae [aS 116 7 0,
 aM 117 116 7 0 1 false,
 a_ 118 [k_ 4,.t 117] (.build [a0,a0] [(0,1),(1,1)]),
 aU 2 118 2 0 2] [2])
 .ret)
 .skip)))
 (.ae [aa 103 9,
 bg 104 103 1 (.bin .add),
 aa 9 104] [1,2,6,7,8,9])))
def g123L4:aw:=.loop [1,2,6,7,8,9] g123B4
theorem g123L4e: cl AP g123L4 st=after (cl AP g123L4) (cl AP g123B4 (norm (restrict [1,2,6,7,8,9] st))):=aF
def g123B3:aw:=
 (.seq
 (.seq
 (.ae [aa 87 8,
 aS 88 7 3,
 aM 89 88 7 3 1 false,
 aG 90 89 .len,
 aV 91 87 90 (.bin .lss)] [1,2,6,7,8,91])
 (.cond (.t 91)
 .skip
 (.exit 6)))
 (.seq
 (.block 7
 (.seq
 (.ae [a8 9 (k_ 0)] [1,2,6,7,8,9])
 (.block 8
 g123L4)))
 (.ae [aa 92 8,
 bg 93 92 1 (.bin .add),
 aa 8 93] [1,2,6,7,8])))
def g123L3:aw:=.loop [1,2,6,7,8] g123B3
theorem g123L3e: cl AP g123L3 st=after (cl AP g123L3) (cl AP g123B3 (norm (restrict [1,2,6,7,8] st))):=aF
def g123B2:aw:=
 (.seq
 (.seq
 (.ae [aa 75 6,
 aS 76 1 0,
 aM 77 76 1 0 1 false,
 aG 78 77 .len,
 aV 79 75 78 (.bin .lss)] [1,2,6,79])
 (.cond (.t 79)
 .skip
 (.exit 4)))
 (.seq
 (.block 5
 (.seq
 (.ae [aS 82 1 0,
 aM 83 82 1 0 1 false,
 aa 84 6,
 aV 85 83 84 (.aE 4),
 aG 86 85 (.aN 4 true),
 bG 7 FF,
 aU 7 86 7 0 4] [1,2,6,7])
 (.seq
 (.ae [a8 8 (k_ 0)] [1,2,6,7,8])
 (.block 6
 g123L3))))
 (.ae [aa 80 6,
 bg 81 80 1 (.bin .add),
 aa 6 81] [1,2,6])))
def g123L2:aw:=.loop [1,2,6] g123B2
theorem g123L2e: cl AP g123L2 st=after (cl AP g123L2) (cl AP g123B2 (norm (restrict [1,2,6] st))):=aF
def g123B5:aw:=
 (.seq
 (.seq
 (.ae [aa 119 10,
 aS 120 1 1,
 aM 121 120 1 1 1 false,
 aG 122 121 .len,
 aV 123 119 122 (.bin .lss)] [1,2,10,123])
 (.cond (.t 123)
 .skip
 (.exit 10)))
 (.seq
 (.block 11
 (.seq
 (.ae [aS 126 1 1,
 aM 127 126 1 1 1 false,
 aa 128 10,
 aV 129 127 128 (.aE 20),
 aG 130 129 (.aN 20 true),
 bG 11 [a0,.bool false,dN,.bool false,a0,dN,a0,a0,bQ,a0,a0,dN,a0,bQ,bQ,a0,dN,a0,a0,bQ],
 aU 11 130 11 0 20] [1,2,10,11])
 (.seq
 (.seq
 (.ae [aS 131 11 3,
 aM 132 131 11 3 1 false,
 aa 133 132,
 aW 134 133 true 11 (.v (.bh 4)),
 aW 135 133 true 134 (.bj 11 4 5 true),
 aW 136 133 true 135 (.aB 52),
 cJ 137 133 true [.t 136,k_ 40] (.v (.bin .gtr)),
 a_ 138 [.t 133,.t 137,F_] .pick,
 aa 139 138,
 aW 140 139 false 11 (.v (.bh 9)),
 aW 141 139 false 140 (.bj 11 9 11 true),
 aW 142 139 false 141 (.aB 135),
 a_ 143 [.t 139,T_,.t 142] .pick] [1,2,10,11,143])
 (.cond (.t 143)
 (.seq
 (.ae [aS 144 11 0,
 aM 145 144 11 0 1 false,
 a_ 146 [k_ 4,.t 145] (.build [a0,a0] [(0,1),(1,1)]),
 aU 2 146 2 0 2] [2])
 .ret)
 .skip))
 (.seq
 (.ae [aS 148 11 9,
 aM 149 148 11 9 11 true,
 ba 150 149 (.aB 136),
 aa 147 150,
 aG 151 147 (.ext 0),
 aG 152 147 (.ext 1),
 aa 12 151,
 aa 13 152] [1,2,10,12,13])
 (.seq
 (.ae [aa 153 13] [1,2,10,12,153])
 (.cond (.t 153)
 (.seq
 (.ae [aa 154 12,
 a_ 155 [k_ 5,.t 154] (.build [a0,a0] [(0,1),(1,1)]),
 aU 2 155 2 0 2] [2])
 .ret)
 .skip))))))
 (.ae [aa 124 10,
 bg 125 124 1 (.bin .add),
 aa 10 125] [1,2,10])))
def g123L5:aw:=.loop [1,2,10] g123B5
theorem g123L5e: cl AP g123L5 st=after (cl AP g123L5) (cl AP g123B5 (norm (restrict [1,2,10] st))):=aF
def g123:aH:=⟨1,157,[.c 2 2 true],
 (.seq
 (.ae [ba 1 0 (.box 1 2),
 bG 2 [a0,a0]] [1,2])
 (.seq
 (.seq
 (.ae [a8 3 (k_ 0)] [1,2,3])
 (.block 0
 g123L0))
 (.seq
 (.seq
 (.ae [aS 65 1 1,
 aM 66 65 1 1 1 false,
 aG 67 66 .len,
 bg 68 67 16 (.bin .gtr)] [1,2,68])
 (.cond (.t 68)
 (.seq
 (.ae [aS 69 1 1,
 aM 70 69 1 1 1 false,
 bg 71 70 16 (.aE 20),
 aS 72 71 0,
 aG 73 72 (.aN 1 false),
 a_ 74 [k_ 5,.t 73] (.build [a0,a0] [(0,1),(1,1)]),
 aU 2 74 2 0 2] [2])
 .ret)
 .skip))
 (.seq
 (.seq
 (.ae [a8 6 (k_ 0)] [1,2,6])
 (.block 4
 g123L2))
 (.seq
 (.seq
 (.ae [a8 10 (k_ 0)] [1,2,10])
 (.block 10
 g123L5))
 (.seq
 (.ae [a_ 156 [] (.build [a0,a0] []),
 aU 2 156 2 0 2] [2])
 .ret)))))),none,false⟩
def g124:aH:=⟨1,9,[.t 2],
 (.seq
 (.ae [a8 2 F_] [0])
 (.seq
 (.ae [aa 3 0,
 a_ 4 [.t 3,.c (.pv (.int .u8 48))] (.bin .geq),
 aa 5 4,
 aW 6 5 true 0 (.v (.mv)),
 cJ 7 5 true [.t 6,.c (.pv (.int .u8 57))] (.v (.bin .leq)),
 a_ 8 [.t 5,.t 7,F_] .pick,
 aa 2 8] [2])
 .ret)),none,false⟩
def g125:aH:=⟨1,18,[.t 2],
 (.seq
 (.ae [a8 2 (k_ 0)] [0])
 (.seq
 (.block 0
 (.seq
 (.ae [aa 4 0,
 ba 5 4 (.aB 110),
 aa 3 5] [0,3])
 (.cond (.t 3)
 (.seq
 (.ae [a8 2 (k_ 4)] [2])
 .ret)
 (.seq
 (.ae [aa 7 0,
 ba 8 7 (.aB 77),
 aa 6 8] [0,6])
 (.cond (.t 6)
 (.seq
 (.ae [a8 2 (k_ 1)] [2])
 .ret)
 (.seq
 (.ae [aa 10 0,
 ba 11 10 (.aB 78),
 aa 9 11] [0,9])
 (.cond (.t 9)
 (.seq
 (.ae [a8 2 (k_ 2)] [2])
 .ret)
 (.seq
 (.ae [aa 13 0,
 ba 14 13 (.aB 137),
 aa 12 14] [0,12])
 (.cond (.t 12)
 (.seq
 (.ae [a8 2 (k_ 3)] [2])
 .ret)
 (.seq
 (.ae [aa 16 0,
 ba 17 16 (.aB 138),
 aa 15 17] [15])
 (.cond (.t 15)
 (.seq
 (.ae [a8 2 (k_ 5)] [2])
 .ret)
 .skip)))))))))))
 (.seq
 (.ae [a8 2 (k_ 0)] [2])
 .ret))),none,false⟩
def g126:aH:=⟨1,24,[.t 2],
 (.seq
 (.ae [a8 2 (k_ 0)] [0])
 (.seq
 (.seq
 (.ae [aa 3 0,
 aG 4 3 .aY,
 aS 5 4 1,
 ba 6 5 (.aZ 1 false),
 aa 7 0,
 aG 8 7 .aY,
 aS 9 8 0,
 ba 10 9 (.aZ 1 false),
 aG 11 10 .len,
 aV 12 6 11 (.bin .lss)] [0,12])
 (.cond (.t 12)
 (.seq
 (.ae [aa 13 0,
 aG 14 13 .aY,
 aS 15 14 0,
 ba 16 15 (.aZ 1 false),
 aa 17 0,
 aG 18 17 .aY,
 aS 19 18 1,
 ba 20 19 (.aZ 1 false),
 aV 21 16 20 (.aE 3),
 aS 22 21 2,
 aG 23 22 (.aN 1 false),
 aa 2 23] [2])
 .ret)
 .skip))
 (.seq
 (.ae [a8 2 (k_ 0)] [2])
 .ret))),none,false⟩
def g127:aH:=⟨2,10,[],
 (.seq
 (.ae [aa 4 0,
 aa 5 1,
 bK 6 4 5 (.aI 132 []),
 aG 7 6 (.un .not)] [0,7])
 (.cond (.t 7)
 (.ae [aa 8 0,
 ba 9 8 (.aI 139 [])] [])
 .skip)),none,false⟩
def g128:aH:=⟨2,30,[.t 4],
 (.seq
 (.ae [a_ 4 [.c (.pv (.str []))] .mv] [0,1])
 (.seq
 (.seq
 (.ae [aa 5 0,
 aa 6 1,
 bK 7 5 6 (.aI 129 []),
 aG 8 7 (.un .not)] [0,8])
 (.cond (.t 8)
 (.seq
 (.ae [aa 9 0,
 ba 10 9 (.aI 139 [])] [])
 (.seq
 (.ae [a_ 4 [.c (.pv (.str []))] .mv] [4])
 .ret))
 .skip))
 (.seq
 (.ae [aa 11 0,
 aG 12 11 .aY,
 aS 13 12 1,
 ba 14 13 (.aZ 1 false),
 bg 15 14 1 (.bin .add),
 aG 16 11 .aY,
 aS 17 16 1,
 lP [.t 17,.t 15] (.cU 1)] [0])
 (.seq
 (.ae [aa 18 0,
 aG 19 18 .aY,
 aS 20 19 0,
 ba 21 20 (.aZ 1 false),
 aa 22 0,
 aG 23 22 .aY,
 aS 24 23 1,
 ba 25 24 (.aZ 1 false),
 bg 26 25 1 (.bin .sub),
 aV 27 21 26 (.aE 3),
 aS 28 27 1,
 aG 29 28 (.aN 1 false),
 aa 4 29] [4])
 .ret)))),none,false⟩
def g129:aH:=⟨2,37,[.t 4],
 (.seq
 (.ae [a8 4 F_] [0,1])
 (.seq
 (.ae [aa 5 0,
 aG 6 5 .aY,
 aS 7 6 2,
 ba 8 7 (.aZ 1 false),
 aG 9 8 (.un .not),
 aa 10 9,
 aW 11 10 true 0 (.v (.mv)),
 aW 12 10 true 11 (.v (.aY)),
 aW 13 10 true 12 (.v (.bh 1)),
 aW 14 10 true 13 (.aZ 1 false),
 aW 15 10 true 0 (.v (.mv)),
 aW 16 10 true 15 (.v (.aY)),
 aW 17 10 true 16 (.v (.bh 0)),
 aW 18 10 true 17 (.aZ 1 false),
 aW 19 10 true 18 (.v (.len)),
 cJ 20 10 true [.t 14,.t 19] (.v (.bin .lss)),
 a_ 21 [.t 10,.t 20,F_] .pick,
 aa 22 21,
 aW 23 22 true 0 (.v (.mv)),
 aW 24 22 true 23 (.v (.aY)),
 aW 25 22 true 24 (.v (.bh 0)),
 aW 26 22 true 25 (.aZ 1 false),
 aW 27 22 true 0 (.v (.mv)),
 aW 28 22 true 27 (.v (.aY)),
 aW 29 22 true 28 (.v (.bh 1)),
 aW 30 22 true 29 (.aZ 1 false),
 cJ 31 22 true [.t 26,.t 30] (.v (.aE 3)),
 aW 32 22 true 31 (.v (.bh 0)),
 aW 33 22 true 32 (.v (.aN 1 false)),
 aW 34 22 true 1 (.v (.mv)),
 cJ 35 22 true [.t 33,.t 34] (.v (.bin .eql)),
 a_ 36 [.t 22,.t 35,F_] .pick,
 aa 4 36] [4])
 .ret)),none,false⟩
def g130:aH:=⟨1,13,[.t 2],
 (.seq
 (.ae [a8 2 F_] [0])
 (.seq
 (.ae [aa 3 0,
 bD 4 [.t 3,k_ 1] (.aI 129 []),
 aa 5 4,
 aW 6 5 false 0 (.v (.mv)),
 cJ 7 5 false [.t 6,k_ 2] (.aI 129 []),
 a_ 8 [.t 5,T_,.t 7] .pick,
 aa 9 8,
 aW 10 9 false 0 (.v (.mv)),
 cJ 11 9 false [.t 10,.c (.pv (.str [40]))] (.aI 120 []),
 a_ 12 [.t 9,T_,.t 11] .pick,
 aa 2 12] [2])
 .ret)),none,false⟩
def g131:aH:=⟨1,28,[.c 2 5 true],
 (.seq
 (.ae [bG 2 ej] [0,2])
 (.seq
 (.block 0
 (.seq
 (.ae [aa 5 0,
 bD 6 [.t 5,k_ 1] (.aI 129 []),
 aa 4 6] [0,2,4])
 (.cond (.t 4)
 (.seq
 (.ae [aa 7 0,
 bD 8 [.t 7,k_ 1] (.aI 128 []),
 ba 9 8 (.aB 106),
 aU 2 9 2 0 5] [2])
 .ret)
 (.seq
 (.ae [aa 11 0,
 bD 12 [.t 11,k_ 2] (.aI 129 []),
 aa 10 12] [0,2,10])
 (.cond (.t 10)
 (.seq
 (.ae [aa 13 0,
 bD 14 [.t 13,k_ 2] (.aI 128 []),
 bD 15 [.t 14,.c (.bB [])] (.aI 62 []),
 aU 2 15 2 0 5] [2])
 .ret)
 .skip)))))
 (.seq
 (.ae [aa 16 0,
 bD 17 [.t 16,.c (.pv (.str [40]))] (.aI 127 [])] [0,2])
 (.seq
 (.seq
 (.ae [aa 18 0,
 aG 19 18 .aY,
 aS 20 19 2,
 ba 21 20 (.aZ 1 false)] [0,2,21])
 (.cond (.t 21)
 (.seq
 (.ae [a_ 22 [] (.build ej []),
 aU 2 22 2 0 5] [2])
 .ret)
 .skip))
 (.seq
 (.ae [aa 23 0,
 ba 24 23 (.aI 133 []),
 bG 3 ej,
 aU 3 24 3 0 5] [0,2,3])
 (.seq
 (.ae [aa 25 0,
 bD 26 [.t 25,.c (.pv (.str [41]))] (.aI 127 [])] [2,3])
 (.seq
 (.ae [aM 27 3 3 0 5 true,
 aU 2 27 2 0 5] [2])
 .ret))))))),none,false⟩
def g132:aH:=⟨2,15,[.t 4],
 (.seq
 (.ae [a8 4 F_] [0,1])
 (.seq
 (.seq
 (.ae [aa 5 0,
 aa 6 1,
 bK 7 5 6 (.aI 120 [])] [0,7])
 (.cond (.t 7)
 (.seq
 (.ae [aa 8 0,
 aG 9 8 .aY,
 aS 10 9 1,
 ba 11 10 (.aZ 1 false),
 bg 12 11 1 (.bin .add),
 aG 13 8 .aY,
 aS 14 13 1,
 lP [.t 14,.t 12] (.cU 1)] [])
 (.seq
 (.ae [a8 4 T_] [4])
 .ret))
 .skip))
 (.seq
 (.ae [a8 4 F_] [4])
 .ret))),none,false⟩
def g133B0:aw:=
 (.seq
 (.seq
 (.ae [aa 9 0,
 ba 10 9 (.aI 130 [])] [0,2,3,10])
 (.cond (.t 10)
 .skip
 (.exit 0)))
 (.block 1
 (.ae [aS 11 3 4,
 aM 12 11 3 4 1 false,
 aa 13 0,
 ba 14 13 (.aI 131 []),
 aG 15 14 (.aT 5),
 bK 16 12 15 (.append 5 64),
 aS 17 3 4,
 aU 17 16 3 4 1] [0,2,3])))
def g133L0:aw:=.loop [0,2,3] g133B0
theorem g133L0e: cl AP g133L0 st=after (cl AP g133L0) (cl AP g133B0 (norm (restrict [0,2,3] st))):=aF
def g133:aH:=⟨1,27,[.c 2 5 true],
 (.seq
 (.ae [bG 2 ej] [0,2])
 (.seq
 (.ae [bG 3 ej] [0,2,3])
 (.seq
 (.seq
 (.ae [aa 4 0,
 bD 5 [.t 4,k_ 2] (.aI 129 [])] [0,2,3,5])
 (.cond (.t 5)
 (.seq
 (.ae [aa 6 0,
 bD 7 [.t 6,k_ 2] (.aI 128 []),
 bD 8 [.t 7,.c (.bB [])] (.aI 62 []),
 aU 3 8 3 0 5] [0,2,3])
 (.block 0
 g133L0))
 (.ae [aa 18 0,
 ba 19 18 (.aI 131 []),
 aU 3 19 3 0 5] [0,2,3])))
 (.seq
 (.seq
 (.ae [aa 20 0,
 bD 21 [.t 20,.c (.pv (.str [45,62]))] (.aI 132 [])] [0,2,3,21])
 (.cond (.t 21)
 (.seq
 (.ae [aM 22 3 3 0 5 true,
 aa 23 0,
 ba 24 23 (.aI 133 []),
 bK 25 22 24 (.aB 69),
 aU 2 25 2 0 5] [2])
 .ret)
 .skip))
 (.seq
 (.ae [aM 26 3 3 0 5 true,
 aU 2 26 2 0 5] [2])
 .ret))))),none,false⟩
def g134B0:aw:=
 (.seq
 (.seq
 (.ae [aa 69 0,
 aG 70 69 .aY,
 aS 71 70 2,
 ba 72 71 (.aZ 1 false),
 aG 73 72 (.un .not),
 aa 74 73,
 aW 75 74 true 0 (.v (.mv)),
 aW 76 74 true 75 (.v (.aY)),
 aW 77 74 true 76 (.v (.bh 1)),
 aW 78 74 true 77 (.aZ 1 false),
 aW 79 74 true 0 (.v (.mv)),
 aW 80 74 true 79 (.v (.aY)),
 aW 81 74 true 80 (.v (.bh 0)),
 aW 82 74 true 81 (.aZ 1 false),
 aW 83 74 true 82 (.v (.len)),
 cJ 84 74 true [.t 78,.t 83] (.v (.bin .lss)),
 a_ 85 [.t 74,.t 84,F_] .pick,
 aa 86 85,
 aW 87 86 true 0 (.v (.mv)),
 aW 88 86 true 87 (.v (.aY)),
 aW 89 86 true 88 (.v (.bh 0)),
 aW 90 86 true 89 (.aZ 1 false),
 aW 91 86 true 0 (.v (.mv)),
 aW 92 86 true 91 (.v (.aY)),
 aW 93 86 true 92 (.v (.bh 1)),
 aW 94 86 true 93 (.aZ 1 false),
 cJ 95 86 true [.t 90,.t 94] (.v (.aE 3)),
 aW 96 86 true 95 (.v (.aN 3 true)),
 aW 97 86 true 96 (.aB 142),
 a_ 98 [.t 86,.t 97,F_] .pick] [0,2,8,98])
 (.cond (.t 98)
 .skip
 (.exit 1)))
 (.block 2
 (.seq
 (.ae [aa 99 0,
 ba 100 99 (.aI 141 []),
 bG 9 ek,
 aU 9 100 9 0 11] [0,2,8,9])
 (.ae [aS 101 8 1,
 aM 102 101 8 1 1 false,
 aM 103 8 8 0 11 true,
 aM 104 9 9 0 11 true,
 aV 105 103 104 (.aT 11),
 a_ 106 [k_ 5,.t 102,.t 105] (.build ek [(0,1),(1,1),(4,1)]),
 aU 8 106 8 0 11] [0,2,8]))))
def g134L0:aw:=.loop [0,2,8] g134B0
theorem g134L0e: cl AP g134L0 st=after (cl AP g134L0) (cl AP g134B0 (norm (restrict [0,2,8] st))):=aF
def g134:aH:=⟨1,108,[.c 2 11 true],
 (.seq
 (.ae [bG 2 ek] [0,2])
 (.seq
 (.ae [aa 10 0,
 ba 11 10 (.aI 126 []),
 aa 3 11] [0,2,3])
 (.seq
 (.block 0
 (.seq
 (.ae [aa 13 0,
 bD 14 [.t 13,.c (.pv (.str [92]))] (.aI 132 []),
 aa 12 14] [0,2,3,12])
 (.cond (.t 12)
 (.seq
 (.ae [aa 15 0,
 bD 16 [.t 15,k_ 1] (.aI 128 []),
 aa 4 16] [0,2,3,4])
 (.seq
 (.ae [aa 17 0,
 bD 18 [.t 17,.c (.pv (.str [46]))] (.aI 127 [])] [0,2,3,4])
 (.seq
 (.seq
 (.ae [aa 19 0,
 aG 20 19 .aY,
 aS 21 20 2,
 ba 22 21 (.aZ 1 false)] [0,2,3,4,22])
 (.cond (.t 22)
 (.seq
 (.ae [a_ 23 [] (.build ek []),
 aU 2 23 2 0 11] [2])
 .ret)
 .skip))
 (.seq
 (.ae [aa 24 3,
 aa 25 4,
 aa 26 0,
 ba 27 26 (.aI 134 []),
 aG 28 27 (.aT 11),
 a_ 29 [k_ 4,.t 24,.t 25,.t 28] (.build ek [(0,1),(1,1),(2,1),(4,1)]),
 aU 2 29 2 0 11] [2])
 .ret))))
 (.seq
 (.ae [aa 31 0,
 bD 32 [.t 31,.c (.pv (.str [108,101,116]))] (.aI 132 []),
 aa 30 32] [0,2,3,30])
 (.cond (.t 30)
 (.seq
 (.ae [a8 5 (k_ 6)] [0,2,3,5])
 (.seq
 (.seq
 (.ae [aa 33 0,
 bD 34 [.t 33,.c (.pv (.str [114,101,99]))] (.aI 132 [])] [0,2,3,5,34])
 (.cond (.t 34)
 (.ae [a8 5 (k_ 7)] [0,2,3,5])
 .skip))
 (.seq
 (.ae [aa 35 0,
 bD 36 [.t 35,k_ 1] (.aI 128 []),
 aa 6 36] [0,2,3,5,6])
 (.seq
 (.ae [aa 37 0,
 bD 38 [.t 37,.c (.pv (.str [61]))] (.aI 127 [])] [0,2,3,5,6])
 (.seq
 (.seq
 (.ae [aa 39 0,
 aG 40 39 .aY,
 aS 41 40 2,
 ba 42 41 (.aZ 1 false)] [0,2,3,5,6,42])
 (.cond (.t 42)
 (.seq
 (.ae [a_ 43 [] (.build ek []),
 aU 2 43 2 0 11] [2])
 .ret)
 .skip))
 (.seq
 (.ae [aa 44 0,
 ba 45 44 (.aI 134 []),
 bG 7 ek,
 aU 7 45 7 0 11] [0,2,3,5,6,7])
 (.seq
 (.ae [aa 46 0,
 bD 47 [.t 46,.c (.pv (.str [105,110]))] (.aI 127 [])] [0,2,3,5,6,7])
 (.seq
 (.seq
 (.ae [aa 48 0,
 aG 49 48 .aY,
 aS 50 49 2,
 ba 51 50 (.aZ 1 false)] [0,2,3,5,6,7,51])
 (.cond (.t 51)
 (.seq
 (.ae [a_ 52 [] (.build ek []),
 aU 2 52 2 0 11] [2])
 .ret)
 .skip))
 (.seq
 (.ae [aa 53 5,
 aa 54 3,
 aa 55 6,
 aM 56 7 7 0 11 true,
 aa 57 0,
 ba 58 57 (.aI 134 []),
 aV 59 56 58 (.aT 11),
 a_ 60 [.t 53,.t 54,.t 55,.t 59] (.build ek [(0,1),(1,1),(2,1),(4,1)]),
 aU 2 60 2 0 11] [2])
 .ret)))))))))
 (.seq
 (.ae [aa 62 0,
 bD 63 [.t 62,.c (.pv (.str [99,97,115,101]))] (.aI 132 []),
 aa 61 63] [0,2,3,61])
 (.cond (.t 61)
 (.seq
 (.ae [aa 64 0,
 aa 65 3,
 bK 66 64 65 (.aI 140 []),
 aU 2 66 2 0 11] [2])
 .ret)
 .skip)))))))
 (.seq
 (.ae [aa 67 0,
 ba 68 67 (.aI 141 []),
 bG 8 ek,
 aU 8 68 8 0 11] [0,2,8])
 (.seq
 (.block 1
 g134L0)
 (.seq
 (.ae [aM 107 8 8 0 11 true,
 aU 2 107 2 0 11] [2])
 .ret)))))),none,false⟩
def g135:aH:=⟨1,10,[.t 2],
 (.seq
 (.ae [ba 1 0 (.box 1 11),
 a8 2 F_] [1])
 (.seq
 (.ae [aM 3 1 1 0 11 true,
 ba 4 3 (.aB 143),
 bg 5 4 40 (.bin .gtr),
 aa 6 5,
 aW 7 6 false 1 (.bj 1 0 11 true),
 aW 8 6 false 7 (.aB 144),
 a_ 9 [.t 6,T_,.t 8] .pick,
 aa 2 9] [2])
 .ret)),none,false⟩
def g136B0:aw:=
 (.seq
 (.seq
 (.ae [aa 9 4,
 aS 10 1 5,
 aM 11 10 1 5 1 false,
 aG 12 11 .len,
 aV 13 9 12 (.bin .lss)] [1,4,13])
 (.cond (.t 13)
 .skip
 (.exit 0)))
 (.seq
 (.block 1
 (.seq
 (.ae [aS 16 1 5,
 aM 17 16 1 5 1 false,
 aa 18 4,
 aV 19 17 18 (.aE 14),
 aS 20 19 2,
 aG 21 20 (.aN 1 false),
 aG 22 21 .len,
 bg 23 22 4 (.bin .gtr)] [1,4,23])
 (.cond (.t 23)
 (.seq
 (.ae [aS 24 1 5,
 aM 25 24 1 5 1 false,
 aa 26 4,
 aV 27 25 26 (.aE 14),
 aS 28 27 0,
 aG 29 28 (.aN 1 false),
 aa 2 29,
 a8 3 T_] [2,3])
 .ret)
 .skip)))
 (.ae [aa 14 4,
 bg 15 14 1 (.bin .add),
 aa 4 15] [1,4])))
def g136L0:aw:=.loop [1,4] g136B0
theorem g136L0e: cl AP g136L0 st=after (cl AP g136L0) (cl AP g136B0 (norm (restrict [1,4] st))):=aF
def g136B1:aw:=
 (.seq
 (.seq
 (.ae [aa 32 6,
 aa 33 5,
 aG 34 33 .len,
 aV 35 32 34 (.bin .lss)] [5,6,35])
 (.cond (.t 35)
 .skip
 (.exit 2)))
 (.seq
 (.block 3
 (.seq
 (.ae [aa 39 5,
 aa 40 6,
 aV 41 39 40 (.aE 11),
 aG 42 41 (.aN 11 true),
 ba 43 42 (.aB 136),
 aa 38 43,
 aG 44 38 (.ext 0),
 aG 45 38 (.ext 1),
 aa 7 44,
 aa 8 45] [5,6,7,8])
 (.seq
 (.ae [aa 46 8] [5,6,7,46])
 (.cond (.t 46)
 (.seq
 (.ae [aa 47 7,
 aa 2 47,
 a8 3 T_] [2,3])
 .ret)
 .skip))))
 (.ae [aa 36 6,
 bg 37 36 1 (.bin .add),
 aa 6 37] [5,6])))
def g136L1:aw:=.loop [5,6] g136B1
theorem g136L1e: cl AP g136L1 st=after (cl AP g136L1) (cl AP g136B1 (norm (restrict [5,6] st))):=aF
def g136:aH:=⟨1,48,[.t 2,.t 3],
 (.seq
 (.ae [ba 1 0 (.box 1 11),
 a8 2 (k_ 0),
 a8 3 F_] [1])
 (.seq
 (.seq
 (.ae [a8 4 (k_ 0)] [1,4])
 (.block 0
 g136L0))
 (.seq
 (.ae [aM 30 1 1 0 11 true,
 ba 31 30 (.aB 145),
 aa 5 31] [5])
 (.seq
 (.seq
 (.ae [a8 6 (k_ 0)] [5,6])
 (.block 2
 g136L1))
 (.seq
 (.ae [a8 2 (k_ 0),
 a8 3 F_] [2,3])
 .ret))))),none,false⟩
def g137B0:aw:=
 (.seq
 (.seq
 (.ae [aa 21 3,
 aa 22 0,
 aG 23 22 .jx,
 aV 24 21 23 (.bin .lss)] [0,3,24])
 (.cond (.t 24)
 .skip
 (.exit 0)))
 (.seq
 (.block 1
 (.seq
 (.ae [aa 27 0,
 aa 28 3,
 aV 29 27 28 .index,
 ba 30 29 (.aB 124),
 aG 31 30 (.un .not)] [0,3,31])
 (.cond (.t 31)
 (.seq
 (.ae [a8 2 F_] [2])
 .ret)
 .skip)))
 (.ae [aa 25 3,
 bg 26 25 1 (.bin .add),
 aa 3 26] [0,3])))
def g137L0:aw:=.loop [0,3] g137B0
theorem g137L0e: cl AP g137L0 st=after (cl AP g137L0) (cl AP g137B0 (norm (restrict [0,3] st))):=aF
def g137:aH:=⟨1,32,[.t 2],
 (.seq
 (.ae [a8 2 F_] [0])
 (.seq
 (.seq
 (.ae [aa 4 0,
 a_ 5 [.t 4,.c (.pv (.str []))] (.bin .eql),
 aa 6 5,
 aW 7 6 false 0 (.v (.mv)),
 aW 8 6 false 7 (.v (.jx)),
 cJ 9 6 false [.t 8,k_ 9] (.v (.bin .gtr)),
 a_ 10 [.t 6,T_,.t 9] .pick,
 aa 11 10,
 aW 12 11 false 0 (.v (.mv)),
 cJ 13 11 false [.t 12,k_ 0] (.v (.index)),
 cJ 14 11 false [.t 13,.c (.pv (.int .u8 48))] (.v (.bin .eql)),
 aW 15 11 false 14 (.v (.mv)),
 aW 16 15 true 0 (.v (.mv)),
 aW 17 15 true 16 (.v (.jx)),
 cJ 18 15 true [.t 17,k_ 1] (.v (.bin .gtr)),
 cJ 19 11 false [.t 15,.t 18,F_] (.v (.pick)),
 a_ 20 [.t 11,T_,.t 19] .pick] [0,20])
 (.cond (.t 20)
 (.seq
 (.ae [a8 2 F_] [2])
 .ret)
 .skip))
 (.seq
 (.seq
 (.ae [a8 3 (k_ 0)] [0,3])
 (.block 0
 g137L0))
 (.seq
 (.ae [a8 2 T_] [2])
 .ret)))),none,false⟩
def g138B0:aw:=
 (.seq
 (.seq
 (.ae [aa 6 3,
 bg 7 6 11 (.bin .lss)] [0,3,7])
 (.cond (.t 7)
 .skip
 (.exit 0)))
 (.seq
 (.block 1
 (.seq
 (.ae [aa 10 0,
 aa 11 3,
 aa 12 3,
 bg 13 12 1 (.bin .add),
 a_ 14 [.c (.pv (.str [92,46,61,59,58,124,40,41,123,125,63])),.t 11,.t 13] (.slice true 0 true true false),
 aV 15 10 14 (.bin .eql)] [0,3,15])
 (.cond (.t 15)
 (.seq
 (.ae [a8 2 T_] [2])
 .ret)
 .skip)))
 (.ae [aa 8 3,
 bg 9 8 1 (.bin .add),
 aa 3 9] [0,3])))
def g138L0:aw:=.loop [0,3] g138B0
theorem g138L0e: cl AP g138L0 st=after (cl AP g138L0) (cl AP g138B0 (norm (restrict [0,3] st))):=aF
def g138:aH:=⟨1,16,[.t 2],
 (.seq
 (.ae [a8 2 F_] [0])
 (.seq
 (.seq
 (.ae [aa 4 0,
 a_ 5 [.t 4,.c (.pv (.str [45,62]))] (.bin .eql)] [0,5])
 (.cond (.t 5)
 (.seq
 (.ae [a8 2 T_] [2])
 .ret)
 .skip))
 (.seq
 (.seq
 (.ae [a8 3 (k_ 0)] [0,3])
 (.block 0
 g138L0))
 (.seq
 (.ae [a8 2 F_] [2])
 .ret)))),none,false⟩
def g139:aH:=⟨1,63,[],
 (.seq
 (.seq
 (.ae [aa 3 0,
 aG 4 3 .aY,
 aS 5 4 2,
 ba 6 5 (.aZ 1 false)] [0,6])
 (.cond (.t 6)
 .ret
 .skip))
 (.seq
 (.ae [aa 7 0,
 aG 8 7 .aY,
 aS 9 8 2,
 lP [.t 9,T_] (.cU 1)] [0])
 (.block 0
 (.seq
 (.ae [aa 11 0,
 aG 12 11 .aY,
 aS 13 12 1,
 ba 14 13 (.aZ 1 false),
 aa 15 0,
 aG 16 15 .aY,
 aS 17 16 0,
 ba 18 17 (.aZ 1 false),
 aG 19 18 .len,
 aV 20 14 19 (.bin .lss),
 aa 10 20] [0,10])
 (.cond (.t 10)
 (.ae [aa 21 0,
 aa 22 0,
 aG 23 22 .aY,
 aS 24 23 0,
 ba 25 24 (.aZ 1 false),
 aa 26 0,
 aG 27 26 .aY,
 aS 28 27 1,
 ba 29 28 (.aZ 1 false),
 aV 30 25 29 (.aE 3),
 aS 31 30 2,
 aG 32 31 (.aN 1 false),
 aG 33 21 .aY,
 aS 34 33 3,
 lP [.t 34,.t 32] (.cU 1)] [])
 (.seq
 (.ae [aa 36 0,
 aG 37 36 .aY,
 aS 38 37 0,
 ba 39 38 (.aZ 1 false),
 aG 40 39 .len,
 bg 41 40 0 (.bin .gtr),
 aa 35 41] [0,35])
 (.cond (.t 35)
 (.seq
 (.ae [aa 42 0,
 aG 43 42 .aY,
 aS 44 43 0,
 ba 45 44 (.aZ 1 false),
 aa 46 0,
 aG 47 46 .aY,
 aS 48 47 0,
 ba 49 48 (.aZ 1 false),
 aG 50 49 .len,
 bg 51 50 1 (.bin .sub),
 aV 52 45 51 (.aE 3),
 aG 53 52 (.aN 3 true),
 bG 2 [a0,dN,a0],
 aU 2 53 2 0 3] [0,2])
 (.ae [aa 54 0,
 aS 55 2 2,
 aM 56 55 2 2 1 false,
 aS 57 2 1,
 aM 58 57 2 1 1 false,
 aG 59 58 .jx,
 aV 60 56 59 (.bin .add),
 aG 61 54 .aY,
 aS 62 61 3,
 lP [.t 62,.t 60] (.cU 1)] []))
 .skip))))))),none,false⟩
def g140B1:aw:=
 (.seq
 (.seq
 (.ae [aa 19 0,
 bD 20 [.t 19,k_ 1] (.aI 129 [])] [0,4,5,6,20])
 (.cond (.t 20)
 .skip
 (.exit 2)))
 (.block 3
 (.ae [aS 21 6 2,
 aM 22 21 6 2 1 false,
 aa 23 0,
 bD 24 [.t 23,k_ 1] (.aI 128 []),
 aG 25 24 (.aT 1),
 bK 26 22 25 (.append 1 16),
 aS 27 6 2,
 aU 27 26 6 2 1] [0,4,5,6])))
def g140L1:aw:=.loop [0,4,5,6] g140B1
theorem g140L1e: cl AP g140L1 st=after (cl AP g140L1) (cl AP g140B1 (norm (restrict [0,4,5,6] st))):=aF
def g140B0:aw:=
 (.block 1
 (.seq
 (.ae [aa 14 0,
 ba 15 14 (.aI 126 []),
 aa 16 0,
 bD 17 [.t 16,k_ 2] (.aI 128 []),
 aV 18 15 17 (.build [a0,dN,bQ,a0,a0,dN,a0,bQ,bQ,a0,dN,a0,a0,bQ] [(0,1),(1,1)]),
 bG 6 [a0,dN,bQ,a0,a0,dN,a0,bQ,bQ,a0,dN,a0,a0,bQ],
 aU 6 18 6 0 14] [0,4,5,6])
 (.seq
 (.block 2
 g140L1)
 (.seq
 (.ae [aa 28 0,
 bD 29 [.t 28,.c (.pv (.str [46]))] (.aI 127 [])] [0,4,5,6])
 (.seq
 (.seq
 (.ae [aa 30 0,
 aG 31 30 .aY,
 aS 32 31 2,
 ba 33 32 (.aZ 1 false)] [0,4,5,6,33])
 (.cond (.t 33)
 (.seq
 (.ae [a_ 34 [] (.build ek []),
 aU 4 34 4 0 11] [4])
 .ret)
 .skip))
 (.seq
 (.ae [aa 35 0,
 ba 36 35 (.aI 134 []),
 aS 37 6 3,
 aU 37 36 6 3 11] [0,4,5,6])
 (.seq
 (.ae [aS 38 5 5,
 aM 39 38 5 5 1 false,
 aM 40 6 6 0 14 true,
 aG 41 40 (.aT 14),
 bK 42 39 41 (.append 14 200),
 aS 43 5 5,
 aU 43 42 5 5 1] [0,4,5])
 (.seq
 (.ae [aa 44 0,
 bD 45 [.t 44,.c (.pv (.str [124]))] (.aI 132 []),
 aG 46 45 (.un .not)] [0,4,5,46])
 (.cond (.t 46)
 (.exit 0)
 .skip)))))))))
def g140L0:aw:=.loop [0,4,5] g140B0
theorem g140L0e: cl AP g140L0 st=after (cl AP g140L0) (cl AP g140B0 (norm (restrict [0,4,5] st))):=aF
def g140:aH:=⟨2,50,[.c 4 11 true],
 (.seq
 (.ae [bG 4 ek] [0,1,4])
 (.seq
 (.ae [aa 7 1,
 aa 8 0,
 ba 9 8 (.aI 134 []),
 aG 10 9 (.aT 11),
 a_ 11 [k_ 8,.t 7,.t 10] (.build ek [(0,1),(1,1),(4,1)]),
 bG 5 ek,
 aU 5 11 5 0 11] [0,4,5])
 (.seq
 (.ae [aa 12 0,
 bD 13 [.t 12,.c (.pv (.str [111,102]))] (.aI 127 [])] [0,4,5])
 (.seq
 (.block 0
 g140L0)
 (.seq
 (.ae [aa 47 0,
 bD 48 [.t 47,.c (.pv (.str [101,110,100]))] (.aI 127 [])] [4,5])
 (.seq
 (.ae [aM 49 5 5 0 11 true,
 aU 4 49 4 0 11] [4])
 .ret)))))),none,false⟩
def g141:aH:=⟨1,68,[.c 2 11 true],
 (.seq
 (.ae [bG 2 ek] [0,2])
 (.seq
 (.ae [aa 7 0,
 ba 8 7 (.aI 126 []),
 aa 3 8] [0,2,3])
 (.seq
 (.block 0
 (.seq
 (.ae [aa 10 0,
 bD 11 [.t 10,k_ 1] (.aI 129 []),
 aa 9 11] [0,2,3,9])
 (.cond (.t 9)
 (.seq
 (.ae [aa 12 3,
 aa 13 0,
 bD 14 [.t 13,k_ 1] (.aI 128 []),
 a_ 15 [k_ 1,.t 12,.t 14] (.build ek [(0,1),(1,1),(2,1)]),
 aU 2 15 2 0 11] [2])
 .ret)
 (.seq
 (.ae [aa 17 0,
 bD 18 [.t 17,k_ 2] (.aI 129 []),
 aa 16 18] [0,2,3,16])
 (.cond (.t 16)
 (.seq
 (.ae [aa 19 3,
 aa 20 0,
 bD 21 [.t 20,k_ 2] (.aI 128 []),
 a_ 22 [k_ 2,.t 19,.t 21] (.build ek [(0,1),(1,1),(2,1)]),
 aU 2 22 2 0 11] [2])
 .ret)
 (.seq
 (.ae [aa 24 0,
 bD 25 [.t 24,k_ 3] (.aI 129 []),
 aa 23 25] [0,2,3,23])
 (.cond (.t 23)
 (.seq
 (.ae [aa 26 3,
 aa 27 0,
 bD 28 [.t 27,k_ 3] (.aI 128 []),
 ba 29 28 (.aB 146),
 a_ 30 [k_ 3,.t 26,.t 29] (.build ek [(0,1),(1,1),(3,1)]),
 aU 2 30 2 0 11] [2])
 .ret)
 (.seq
 (.ae [aa 32 0,
 bD 33 [.t 32,.c (.pv (.str [63]))] (.aI 132 []),
 aa 31 33] [0,2,3,31])
 (.cond (.t 31)
 (.seq
 (.ae [aa 34 3,
 a_ 35 [k_ 10,.t 34] (.build ek [(0,1),(1,1)]),
 aU 2 35 2 0 11] [2])
 .ret)
 (.seq
 (.ae [aa 37 0,
 bD 38 [.t 37,.c (.pv (.str [123]))] (.aI 132 []),
 aa 36 38] [0,2,3,36])
 (.cond (.t 36)
 (.seq
 (.ae [aa 39 0,
 ba 40 39 (.aI 134 []),
 bG 4 ek,
 aU 4 40 4 0 11] [0,2,3,4])
 (.seq
 (.ae [aa 41 0,
 bD 42 [.t 41,.c (.pv (.str [125]))] (.aI 127 [])] [2,3,4])
 (.seq
 (.ae [aa 43 3,
 aM 44 4 4 0 11 true,
 aG 45 44 (.aT 11),
 a_ 46 [k_ 11,.t 43,.t 45] (.build ek [(0,1),(1,1),(4,1)]),
 aU 2 46 2 0 11] [2])
 .ret)))
 .skip)))))))))))
 (.seq
 (.ae [aa 47 0,
 bD 48 [.t 47,.c (.pv (.str [40]))] (.aI 127 [])] [0,2,3])
 (.seq
 (.seq
 (.ae [aa 49 0,
 aG 50 49 .aY,
 aS 51 50 2,
 ba 52 51 (.aZ 1 false)] [0,2,3,52])
 (.cond (.t 52)
 (.seq
 (.ae [a_ 53 [] (.build ek []),
 aU 2 53 2 0 11] [2])
 .ret)
 .skip))
 (.seq
 (.ae [aa 54 0,
 ba 55 54 (.aI 134 []),
 bG 5 ek,
 aU 5 55 5 0 11] [0,2,3,5])
 (.seq
 (.seq
 (.ae [aa 56 0,
 bD 57 [.t 56,.c (.pv (.str [58]))] (.aI 132 [])] [0,2,3,5,57])
 (.cond (.t 57)
 (.seq
 (.ae [aa 58 0,
 ba 59 58 (.aI 133 []),
 bG 6 ej,
 aU 6 59 6 0 5] [0,2,3,5,6])
 (.ae [aa 60 3,
 aM 61 5 5 0 11 true,
 aG 62 61 (.aT 11),
 aM 63 6 6 0 5 true,
 a_ 64 [k_ 9,.t 60,.t 62,.t 63] (.build ek [(0,1),(1,1),(4,1),(6,5)]),
 aU 5 64 5 0 11] [0,2,5]))
 .skip))
 (.seq
 (.ae [aa 65 0,
 bD 66 [.t 65,.c (.pv (.str [41]))] (.aI 127 [])] [2,5])
 (.seq
 (.ae [aM 67 5 5 0 11 true,
 aU 2 67 2 0 11] [2])
 .ret))))))))),none,false⟩
def g142:aH:=⟨1,24,[.t 2],
 (.seq
 (.ae [ba 1 0 (.box 1 3),
 a8 2 F_] [1])
 (.seq
 (.seq
 (.ae [aS 3 1 0,
 aM 4 3 1 0 1 false] [1,4])
 (.block 0
 (.seq
 (.seq
 (.ae [bg 6 4 1 (.bin .eql),
 aa 5 6] [1,4,5])
 (.cond (.t 5)
 .skip
 (.seq
 (.ae [bg 7 4 2 (.bin .eql),
 aa 5 7] [1,4,5])
 (.cond (.t 5)
 .skip
 (.ae [bg 8 4 3 (.bin .eql),
 aa 5 8] [1,4,5])))))
 (.cond (.t 5)
 (.seq
 (.ae [a8 2 T_] [2])
 .ret)
 (.seq
 (.ae [bg 10 4 5 (.bin .eql),
 aa 9 10] [1,9])
 (.cond (.t 9)
 (.seq
 (.ae [aS 11 1 1,
 aM 12 11 1 1 1 false,
 a_ 13 [.t 12,.c (.pv (.str [63]))] (.bin .eql),
 aa 14 13,
 aW 15 14 false 1 (.v (.bh 1)),
 aW 16 14 false 15 (.bj 1 1 1 false),
 cJ 17 14 false [.t 16,.c (.pv (.str [40]))] (.v (.bin .eql)),
 a_ 18 [.t 14,T_,.t 17] .pick,
 aa 19 18,
 aW 20 19 false 1 (.v (.bh 1)),
 aW 21 19 false 20 (.bj 1 1 1 false),
 cJ 22 19 false [.t 21,.c (.pv (.str [123]))] (.v (.bin .eql)),
 a_ 23 [.t 19,T_,.t 22] .pick,
 aa 2 23] [2])
 .ret)
 .skip))))))
 (.seq
 (.ae [a8 2 F_] [2])
 .ret))),none,false⟩
def g143B0:aw:=
 (.seq
 (.seq
 (.ae [aa 8 5,
 aa 9 4,
 aG 10 9 .len,
 aV 11 8 10 (.bin .lss)] [3,4,5,11])
 (.cond (.t 11)
 .skip
 (.exit 0)))
 (.seq
 (.block 1
 (.ae [aa 14 3,
 aa 15 4,
 aa 16 5,
 aV 17 15 16 (.aE 11),
 aG 18 17 (.aN 11 true),
 ba 19 18 (.aB 143),
 a_ 20 [k_ 1,.t 19] (.bin .add),
 aV 21 14 20 .mx,
 aa 3 21] [3,4,5]))
 (.ae [aa 12 5,
 bg 13 12 1 (.bin .add),
 aa 5 13] [3,4,5])))
def g143L0:aw:=.loop [3,4,5] g143B0
theorem g143L0e: cl AP g143L0 st=after (cl AP g143L0) (cl AP g143B0 (norm (restrict [3,4,5] st))):=aF
def g143:aH:=⟨1,23,[.t 2],
 (.seq
 (.ae [ba 1 0 (.box 1 11),
 a8 2 (k_ 0)] [1])
 (.seq
 (.ae [a8 3 (k_ 0)] [1,3])
 (.seq
 (.ae [aM 6 1 1 0 11 true,
 ba 7 6 (.aB 145),
 aa 4 7] [3,4])
 (.seq
 (.seq
 (.ae [a8 5 (k_ 0)] [3,4,5])
 (.block 0
 g143L0))
 (.seq
 (.ae [aa 22 3,
 aa 2 22] [2])
 .ret))))),none,false⟩
def g144B0:aw:=
 (.seq
 (.seq
 (.ae [aa 16 4,
 aa 17 3,
 aG 18 17 .len,
 aV 19 16 18 (.bin .lss)] [3,4,19])
 (.cond (.t 19)
 .skip
 (.exit 0)))
 (.seq
 (.block 1
 (.seq
 (.ae [aa 22 3,
 aa 23 4,
 aV 24 22 23 (.aE 11),
 aG 25 24 (.aN 11 true),
 ba 26 25 (.aB 144)] [3,4,26])
 (.cond (.t 26)
 (.seq
 (.ae [a8 2 T_] [2])
 .ret)
 .skip)))
 (.ae [aa 20 4,
 bg 21 20 1 (.bin .add),
 aa 4 21] [3,4])))
def g144L0:aw:=.loop [3,4] g144B0
theorem g144L0e: cl AP g144L0 st=after (cl AP g144L0) (cl AP g144B0 (norm (restrict [3,4] st))):=aF
def g144:aH:=⟨1,27,[.t 2],
 (.seq
 (.ae [ba 1 0 (.box 1 11),
 a8 2 F_] [1])
 (.seq
 (.seq
 (.ae [aS 5 1 0,
 aM 6 5 1 0 1 false,
 bg 7 6 9 (.bin .eql),
 aa 8 7,
 aW 9 8 true 1 (.v (.bh 6)),
 aW 10 8 true 9 (.bj 1 6 5 true),
 aW 11 8 true 10 (.aB 52),
 cJ 12 8 true [.t 11,k_ 40] (.v (.bin .gtr)),
 a_ 13 [.t 8,.t 12,F_] .pick] [1,13])
 (.cond (.t 13)
 (.seq
 (.ae [a8 2 T_] [2])
 .ret)
 .skip))
 (.seq
 (.ae [aM 14 1 1 0 11 true,
 ba 15 14 (.aB 145),
 aa 3 15] [3])
 (.seq
 (.seq
 (.ae [a8 4 (k_ 0)] [3,4])
 (.block 0
 g144L0))
 (.seq
 (.ae [a8 2 F_] [2])
 .ret))))),none,false⟩
def g145B0:aw:=
 (.seq
 (.seq
 (.ae [aa 8 4,
 aS 9 1 5,
 aM 10 9 1 5 1 false,
 aG 11 10 .len,
 aV 12 8 11 (.bin .lss)] [1,3,4,12])
 (.cond (.t 12)
 .skip
 (.exit 0)))
 (.seq
 (.block 1
 (.ae [aa 15 3,
 aS 16 1 5,
 aM 17 16 1 5 1 false,
 aa 18 4,
 aV 19 17 18 (.aE 14),
 aS 20 19 3,
 ba 21 20 (.aZ 11 true),
 aG 22 21 (.aT 11),
 bK 23 15 22 (.c_ 11 152 true),
 aa 3 23] [1,3,4]))
 (.ae [aa 13 4,
 bg 14 13 1 (.bin .add),
 aa 4 14] [1,3,4])))
def g145L0:aw:=.loop [1,3,4] g145B0
theorem g145L0e: cl AP g145L0 st=after (cl AP g145L0) (cl AP g145B0 (norm (restrict [1,3,4] st))):=aF
def g145:aH:=⟨1,25,[.t 2],
 (.seq
 (.ae [ba 1 0 (.box 1 11),
 a_ 2 [.c (.bB [])] .mv] [1])
 (.seq
 (.ae [aS 5 1 4,
 aM 6 5 1 4 1 false,
 bD 7 [.c (.bB []),.t 6] (.c_ 11 152 true),
 aa 3 7] [1,3])
 (.seq
 (.seq
 (.ae [a8 4 (k_ 0)] [1,3,4])
 (.block 0
 g145L0))
 (.seq
 (.ae [aa 24 3,
 aa 2 24] [2])
 .ret)))),none,true⟩
def g146B0:aw:=
 (.seq
 (.seq
 (.ae [aa 5 4,
 aa 6 0,
 aG 7 6 .jx,
 aV 8 5 7 (.bin .lss)] [0,3,4,8])
 (.cond (.t 8)
 .skip
 (.exit 0)))
 (.seq
 (.block 1
 (.ae [aa 11 3,
 a_ 12 [k_ 10,.t 11] (.bin .mul),
 aa 13 0,
 aa 14 4,
 aV 15 13 14 .index,
 a_ 16 [.t 15,.c (.pv (.int .u8 48))] (.bin .sub),
 aG 17 16 (.conv .i64),
 aV 18 12 17 (.bin .add),
 aa 3 18] [0,3,4]))
 (.ae [aa 9 4,
 bg 10 9 1 (.bin .add),
 aa 4 10] [0,3,4])))
def g146L0:aw:=.loop [0,3,4] g146B0
theorem g146L0e: cl AP g146L0 st=after (cl AP g146L0) (cl AP g146B0 (norm (restrict [0,3,4] st))):=aF
def g146:aH:=⟨1,20,[.t 2],
 (.seq
 (.ae [a8 2 (k_ 0)] [0])
 (.seq
 (.ae [a8 3 (k_ 0)] [0,3])
 (.seq
 (.seq
 (.ae [a8 4 (k_ 0)] [0,3,4])
 (.block 0
 g146L0))
 (.seq
 (.ae [aa 19 3,
 aa 2 19] [2])
 .ret)))),none,false⟩
def g162:aH:=⟨1,13,[.t 2],
 (.seq
 (.ae [a8 2 F_] [0])
 (.seq
 (.ae [aa 3 0,
 aG 4 3 .aY,
 aS 5 4 1,
 ba 6 5 (.aZ 1 false),
 aa 7 0,
 aG 8 7 .aY,
 aS 9 8 0,
 ba 10 9 (.aZ 1 false),
 aG 11 10 .len,
 aV 12 6 11 (.bin .geq),
 aa 2 12] [2])
 .ret)),none,false⟩
def g175:aH:=⟨1,8,[.t 2],
 (.seq
 (.ae [a_ 2 [.c (.pv (.str []))] .mv] [0])
 (.seq
 (.ae [a_ 3 [.c (.pv (.str [120])),.c (.pv (.str [121])),.c (.pv (.str [122])),.c (.pv (.str [102])),.c (.pv (.str [103])),.c (.pv (.str [118,49])),.c (.pv (.str [118,50])),.c (.pv (.str [105,100]))] (.aT 1),
 aa 4 0,
 bD 5 [.t 4,k_ 8] (.aI 68 []),
 aV 6 3 5 (.aE 1),
 aG 7 6 (.aN 1 false),
 aa 2 7] [2])
 .ret)),none,false⟩
def g176:aH:=⟨1,5,[.c 2 6 true],
 (.seq
 (.ae [ba 1 0 (.box 1 5),
 bG 2 pL] [1,2])
 (.seq
 (.ae [aM 3 1 1 0 5 true,
 aG 4 3 (.build pL [(1,5)]),
 aU 2 4 2 0 6] [2])
 .ret)),none,false⟩
def g179:aH:=⟨3,14,[.t 6],
 (.seq
 (.ae [ba 5 2 (.box 5 6),
 a_ 6 [.c (.bB [])] .mv] [0,1,5])
 (.seq
 (.ae [aa 7 0,
 bD 8 [.c (.bB []),.t 7] (.append 7 88),
 aa 9 1,
 aM 10 5 5 0 6 true,
 aV 11 9 10 (.build [dN,a0,a0,dN,a0,a0,bQ] [(0,1),(1,6)]),
 aG 12 11 (.aT 7),
 bK 13 8 12 (.append 7 88),
 aa 6 13] [6])
 .ret)),none,false⟩
def g181B0:aw:=
 (.seq
 (.seq
 (.ae [aa 10 6,
 bg 11 10 0 (.bin .geq)] [0,1,4,6,11])
 (.cond (.t 11)
 .skip
 (.exit 0)))
 (.seq
 (.block 1
 (.seq
 (.ae [aa 14 0,
 aa 15 6,
 aV 16 14 15 (.aE 7),
 aS 17 16 0,
 aG 18 17 (.aN 1 false),
 aa 19 1,
 aV 20 18 19 (.bin .eql)] [0,1,4,6,20])
 (.cond (.t 20)
 (.seq
 (.ae [aa 21 0,
 aa 22 6,
 aV 23 21 22 (.aE 7),
 aS 24 23 1,
 aG 25 24 (.aN 6 true),
 aU 4 25 4 0 6,
 a8 5 T_] [4,5])
 .ret)
 .skip)))
 (.ae [aa 12 6,
 bg 13 12 1 (.bin .sub),
 aa 6 13] [0,1,4,6])))
def g181L0:aw:=.loop [0,1,4,6] g181B0
theorem g181L0e: cl AP g181L0 st=after (cl AP g181L0) (cl AP g181B0 (norm (restrict [0,1,4,6] st))):=aF
def g181:aH:=⟨2,27,[.c 4 6 true,.t 5],
 (.seq
 (.ae [bG 4 pL,
 a8 5 F_] [0,1,4])
 (.seq
 (.seq
 (.ae [aa 7 0,
 aG 8 7 .len,
 bg 9 8 1 (.bin .sub),
 aa 6 9] [0,1,4,6])
 (.block 0
 g181L0))
 (.seq
 (.ae [a_ 26 [] (.build pL []),
 aU 4 26 4 0 6,
 a8 5 F_] [4,5])
 .ret))),none,false⟩
def g185B0:aw:=
 (.seq
 (.ae [aV 41 40 39 (.bin .lss)] [0,2,38,39,40,41])
 (.seq
 (.cond (.t 41)
 .skip
 (.exit 1))
 (.seq
 (.block 2
 (.seq
 (.ae [aV 42 38 40 (.aE 5),
 aG 43 42 (.aN 5 true),
 bG 10 ej,
 aU 10 43 10 0 5] [0,2,10,38,39,40])
 (.seq
 (.ae [aa 44 0,
 aM 45 10 10 0 5 true,
 aa 46 2,
 bD 47 [.t 44,.t 45,.t 46] (.aB 185),
 aa 11 47] [0,2,11,38,39,40])
 (.seq
 (.ae [aa 48 11,
 bg 49 48 0 (.bin .neq)] [0,2,11,38,39,40,49])
 (.cond (.t 49)
 (.seq
 (.ae [aa 50 11,
 aa 6 50] [6])
 .ret)
 .skip)))))
 (.ae [bg 51 40 1 (.bin .add),
 aa 40 51] [0,2,38,39,40]))))
def g185L0:aw:=.loop [0,2,38,39,40] g185B0
theorem g185L0e: cl AP g185L0 st=after (cl AP g185L0) (cl AP g185B0 (norm (restrict [0,2,38,39,40] st))):=aF
def g185:aH:=⟨3,52,[.t 6],
 (.seq
 (.ae [ba 4 1 (.box 4 5),
 a8 6 (k_ 0)] [0,2,4])
 (.seq
 (.seq
 (.ae [aS 12 4 0,
 aM 13 12 4 0 1 false] [0,2,4,13])
 (.block 0
 (.seq
 (.ae [bg 15 13 5 (.bin .eql),
 aa 14 15] [0,2,4,13,14])
 (.cond (.t 14)
 (.seq
 (.ae [aa 16 2,
 aS 17 4 1,
 aM 18 17 4 1 1 false,
 bK 19 16 18 (.aB 214),
 aG 20 19 (.un .not)] [0,2,4,20])
 (.cond (.t 20)
 (.seq
 (.ae [a8 6 (k_ 7)] [6])
 .ret)
 .skip))
 (.seq
 (.ae [bg 22 13 4 (.bin .eql),
 aa 21 22] [0,2,4,21])
 (.cond (.t 21)
 (.seq
 (.ae [aa 24 0,
 aS 25 4 1,
 aM 26 25 4 1 1 false,
 bK 27 24 26 (.aB 215),
 aa 23 27,
 aG 28 23 (.ext 0),
 aG 29 23 (.ext 1),
 aa 7 28,
 aa 8 29] [0,2,4,7,8])
 (.seq
 (.seq
 (.ae [aa 30 8,
 aG 31 30 (.un .not)] [0,2,4,7,31])
 (.cond (.t 31)
 (.seq
 (.ae [a8 6 (k_ 7)] [6])
 .ret)
 .skip))
 (.seq
 (.ae [aa 32 7,
 aS 33 4 4,
 aM 34 33 4 4 1 false,
 aG 35 34 .len,
 aV 36 32 35 (.bin .neq)] [0,2,4,36])
 (.cond (.t 36)
 (.seq
 (.ae [a8 6 (k_ 8)] [6])
 .ret)
 .skip))))
 .skip))))))
 (.seq
 (.seq
 (.ae [aS 37 4 4,
 aM 38 37 4 4 1 false,
 aG 39 38 .len,
 a8 40 (k_ 0)] [0,2,38,39,40])
 (.block 1
 g185L0))
 (.seq
 (.ae [a8 6 (k_ 0)] [6])
 .ret)))),none,false⟩
def g188B1:aw:=
 (.seq
 (.ae [aV 39 38 37 (.bin .lss)] [0,2,3,4,6,7,22,23,24,36,37,38,39])
 (.seq
 (.cond (.t 39)
 .skip
 (.exit 2))
 (.seq
 (.block 3
 (.seq
 (.ae [aa 40 38,
 aV 41 36 38 (.aE 1),
 aG 42 41 (.aN 1 false),
 aa 8 40,
 aa 9 42] [0,2,3,4,6,7,8,9,22,23,24,36,37,38])
 (.ae [aa 43 7,
 aa 44 43,
 aW 45 44 false 6 (.v (.bh 2)),
 aW 46 44 false 45 (.bj 6 2 1 false),
 aW 47 44 false 8 (.v (.mv)),
 cJ 48 44 false [.t 46,.t 47] (.v (.slice false 1 false true false)),
 aW 49 44 false 9 (.v (.mv)),
 cJ 50 44 false [.t 48,.t 49] (.aB 214),
 a_ 51 [.t 44,T_,.t 50] .pick,
 aa 7 51] [0,2,3,4,6,7,22,23,24,36,37,38])))
 (.ae [bg 52 38 1 (.bin .add),
 aa 38 52] [0,2,3,4,6,7,22,23,24,36,37,38]))))
def g188L1:aw:=.loop [0,2,3,4,6,7,22,23,24,36,37,38] g188B1
theorem g188L1e: cl AP g188L1 st=after (cl AP g188L1) (cl AP g188B1 (norm (restrict [0,2,3,4,6,7,22,23,24,36,37,38] st))):=aF
def g188B2:aw:=
 (.seq
 (.ae [aV 61 60 59 (.bin .lss)] [0,2,3,4,22,23,24,58,59,60,61])
 (.seq
 (.cond (.t 61)
 .skip
 (.exit 4))
 (.seq
 (.block 5
 (.seq
 (.ae [aV 62 58 60 (.aE 3),
 aG 63 62 (.aN 3 true),
 bG 11 [a0,dN,bQ],
 aU 11 63 11 0 3] [0,2,3,4,11,22,23,24,58,59,60])
 (.seq
 (.seq
 (.ae [aa 64 4,
 aS 65 11 1,
 aM 66 65 11 1 1 false,
 bK 67 64 66 (.ix .str false (.bool false))] [0,2,3,4,11,22,23,24,58,59,60,67])
 (.cond (.t 67)
 (.seq
 (.ae [aS 68 11 0,
 aM 69 68 11 0 1 false,
 a_ 70 [k_ 6,.t 69] (.build [a0,a0] [(0,1),(1,1)]),
 aU 2 70 2 0 2] [2])
 .ret)
 .skip))
 (.ae [aa 71 4,
 aS 72 11 1,
 aM 73 72 11 1 1 false,
 lP [.t 71,.t 73,T_] (.mC .str)] [0,2,3,4,22,23,24,58,59,60]))))
 (.ae [bg 74 60 1 (.bin .add),
 aa 60 74] [0,2,3,4,22,23,24,58,59,60]))))
def g188L2:aw:=.loop [0,2,3,4,22,23,24,58,59,60] g188B2
theorem g188L2e: cl AP g188L2 st=after (cl AP g188L2) (cl AP g188B2 (norm (restrict [0,2,3,4,22,23,24,58,59,60] st))):=aF
def g188B0:aw:=
 (.seq
 (.ae [aV 25 24 23 (.bin .lss)] [0,2,3,4,22,23,24,25])
 (.seq
 (.cond (.t 25)
 .skip
 (.exit 0))
 (.seq
 (.block 1
 (.seq
 (.ae [aV 26 22 24 (.aE 4),
 aG 27 26 (.aN 4 true),
 bG 6 FF,
 aU 6 27 6 0 4] [0,2,3,4,6,22,23,24])
 (.seq
 (.ae [aa 28 3,
 aS 29 6 1,
 aM 30 29 6 1 1 false,
 bK 31 28 30 (.ix .str false (.bool false)),
 aa 7 31] [0,2,3,4,6,7,22,23,24])
 (.seq
 (.ae [aa 32 3,
 aS 33 6 1,
 aM 34 33 6 1 1 false,
 lP [.t 32,.t 34,T_] (.mC .str)] [0,2,3,4,6,7,22,23,24])
 (.seq
 (.seq
 (.ae [aS 35 6 2,
 aM 36 35 6 2 1 false,
 aG 37 36 .len,
 a8 38 (k_ 0)] [0,2,3,4,6,7,22,23,24,36,37,38])
 (.block 2
 g188L1))
 (.seq
 (.seq
 (.ae [aa 53 7] [0,2,3,4,6,22,23,24,53])
 (.cond (.t 53)
 (.seq
 (.ae [aS 54 6 0,
 aM 55 54 6 0 1 false,
 a_ 56 [k_ 6,.t 55] (.build [a0,a0] [(0,1),(1,1)]),
 aU 2 56 2 0 2] [2])
 .ret)
 .skip))
 (.seq
 (.ae [aS 57 6 3,
 aM 58 57 6 3 1 false,
 aG 59 58 .len,
 a8 60 (k_ 0)] [0,2,3,4,22,23,24,58,59,60])
 (.block 4
 g188L2))))))))
 (.ae [bg 75 24 1 (.bin .add),
 aa 24 75] [0,2,3,4,22,23,24]))))
def g188L0:aw:=.loop [0,2,3,4,22,23,24] g188B0
theorem g188L0e: cl AP g188L0 st=after (cl AP g188L0) (cl AP g188B0 (norm (restrict [0,2,3,4,22,23,24] st))):=aF
def g188B5:aw:=
 (.seq
 (.ae [aV 93 92 91 (.bin .lss)] [0,2,13,15,76,77,78,83,84,85,90,91,92,93])
 (.seq
 (.cond (.t 93)
 .skip
 (.exit 10))
 (.seq
 (.block 11
 (.seq
 (.ae [aV 94 90 92 (.aE 5),
 aG 95 94 (.aN 5 true),
 bG 17 ej,
 aU 17 95 17 0 5] [0,2,13,15,17,76,77,78,83,84,85,90,91,92])
 (.seq
 (.ae [aa 96 0,
 aM 97 17 17 0 5 true,
 aS 98 13 2,
 aM 99 98 13 2 1 false,
 bD 100 [.t 96,.t 97,.t 99] (.aB 185),
 aa 18 100] [0,2,13,15,18,76,77,78,83,84,85,90,91,92])
 (.seq
 (.ae [aa 101 18,
 bg 102 101 0 (.bin .neq)] [0,2,13,15,18,76,77,78,83,84,85,90,91,92,102])
 (.cond (.t 102)
 (.seq
 (.ae [aa 103 18,
 aS 104 15 0,
 aM 105 104 15 0 1 false,
 aV 106 103 105 (.build [a0,a0] [(0,1),(1,1)]),
 aU 2 106 2 0 2] [2])
 .ret)
 .skip)))))
 (.ae [bg 107 92 1 (.bin .add),
 aa 92 107] [0,2,13,15,76,77,78,83,84,85,90,91,92]))))
def g188L5:aw:=.loop [0,2,13,15,76,77,78,83,84,85,90,91,92] g188B5
theorem g188L5e: cl AP g188L5 st=after (cl AP g188L5) (cl AP g188B5 (norm (restrict [0,2,13,15,76,77,78,83,84,85,90,91,92] st))):=aF
def g188B4:aw:=
 (.seq
 (.ae [aV 86 85 84 (.bin .lss)] [0,2,13,76,77,78,83,84,85,86])
 (.seq
 (.cond (.t 86)
 .skip
 (.exit 8))
 (.seq
 (.block 9
 (.seq
 (.ae [aV 87 83 85 (.aE 3),
 aG 88 87 (.aN 3 true),
 bG 15 [a0,dN,bQ],
 aU 15 88 15 0 3] [0,2,13,15,76,77,78,83,84,85])
 (.seq
 (.ae [aS 89 15 2,
 aM 90 89 15 2 1 false,
 aG 91 90 .len,
 a8 92 (k_ 0)] [0,2,13,15,76,77,78,83,84,85,90,91,92])
 (.block 10
 g188L5))))
 (.ae [bg 108 85 1 (.bin .add),
 aa 85 108] [0,2,13,76,77,78,83,84,85]))))
def g188L4:aw:=.loop [0,2,13,76,77,78,83,84,85] g188B4
theorem g188L4e: cl AP g188L4 st=after (cl AP g188L4) (cl AP g188B4 (norm (restrict [0,2,13,76,77,78,83,84,85] st))):=aF
def g188B3:aw:=
 (.seq
 (.ae [aV 79 78 77 (.bin .lss)] [0,2,76,77,78,79])
 (.seq
 (.cond (.t 79)
 .skip
 (.exit 6))
 (.seq
 (.block 7
 (.seq
 (.ae [aV 80 76 78 (.aE 4),
 aG 81 80 (.aN 4 true),
 bG 13 FF,
 aU 13 81 13 0 4] [0,2,13,76,77,78])
 (.seq
 (.ae [aS 82 13 3,
 aM 83 82 13 3 1 false,
 aG 84 83 .len,
 a8 85 (k_ 0)] [0,2,13,76,77,78,83,84,85])
 (.block 8
 g188L4))))
 (.ae [bg 109 78 1 (.bin .add),
 aa 78 109] [0,2,76,77,78]))))
def g188L3:aw:=.loop [0,2,76,77,78] g188B3
theorem g188L3e: cl AP g188L3 st=after (cl AP g188L3) (cl AP g188B3 (norm (restrict [0,2,76,77,78] st))):=aF
def g188:aH:=⟨1,111,[.c 2 2 true],
 (.seq
 (.ae [bG 2 [a0,a0]] [0,2])
 (.seq
 (.ae [bD 19 [] .ki,
 lP [.t 19,.c (.pv (.str [73,110,116])),T_] (.mC .str),
 aa 20 19,
 bD 21 [] .ki,
 aa 3 20,
 aa 4 21] [0,2,3,4])
 (.seq
 (.seq
 (.ae [aa 22 0,
 aG 23 22 .len,
 a8 24 (k_ 0)] [0,2,3,4,22,23,24])
 (.block 0
 g188L0))
 (.seq
 (.seq
 (.ae [aa 76 0,
 aG 77 76 .len,
 a8 78 (k_ 0)] [0,2,76,77,78])
 (.block 6
 g188L3))
 (.seq
 (.ae [a_ 110 [] (.build [a0,a0] []),
 aU 2 110 2 0 2] [2])
 .ret))))),none,false⟩
def g190B1:aw:=
 (.seq
 (.ae [aV 22 21 20 (.bin .lss)] [1,7,11,12,13,19,20,21,22])
 (.seq
 (.cond (.t 22)
 .skip
 (.exit 2))
 (.seq
 (.block 3
 (.seq
 (.ae [aa 23 21,
 aV 24 19 21 (.aE 3),
 aG 25 24 (.aN 3 true),
 bG 10 [a0,dN,bQ],
 aa 9 23,
 aU 10 25 10 0 3] [1,7,9,10,11,12,13,19,20,21])
 (.seq
 (.ae [aS 26 10 1,
 aM 27 26 10 1 1 false,
 aa 28 1,
 aV 29 27 28 (.bin .eql)] [1,7,9,11,12,13,19,20,21,29])
 (.cond (.t 29)
 (.seq
 (.ae [aa 30 7,
 aa 31 9,
 aa 4 30,
 aa 5 31,
 a8 6 T_] [4,5,6])
 .ret)
 .skip))))
 (.ae [bg 32 21 1 (.bin .add),
 aa 21 32] [1,7,11,12,13,19,20,21]))))
def g190L1:aw:=.loop [1,7,11,12,13,19,20,21] g190B1
theorem g190L1e: cl AP g190L1 st=after (cl AP g190L1) (cl AP g190B1 (norm (restrict [1,7,11,12,13,19,20,21] st))):=aF
def g190B0:aw:=
 (.seq
 (.ae [aV 14 13 12 (.bin .lss)] [1,11,12,13,14])
 (.seq
 (.cond (.t 14)
 .skip
 (.exit 0))
 (.seq
 (.block 1
 (.seq
 (.ae [aa 15 13,
 aV 16 11 13 (.aE 4),
 aG 17 16 (.aN 4 true),
 bG 8 FF,
 aa 7 15,
 aU 8 17 8 0 4] [1,7,8,11,12,13])
 (.seq
 (.ae [aS 18 8 3,
 aM 19 18 8 3 1 false,
 aG 20 19 .len,
 a8 21 (k_ 0)] [1,7,11,12,13,19,20,21])
 (.block 2
 g190L1))))
 (.ae [bg 33 13 1 (.bin .add),
 aa 13 33] [1,11,12,13]))))
def g190L0:aw:=.loop [1,11,12,13] g190B0
theorem g190L0e: cl AP g190L0 st=after (cl AP g190L0) (cl AP g190B0 (norm (restrict [1,11,12,13] st))):=aF
def g190:aH:=⟨2,34,[.t 4,.t 5,.t 6],
 (.seq
 (.ae [a8 4 (k_ 0),
 a8 5 (k_ 0),
 a8 6 F_] [0,1])
 (.seq
 (.seq
 (.ae [aa 11 0,
 aG 12 11 .len,
 a8 13 (k_ 0)] [1,11,12,13])
 (.block 0
 g190L0))
 (.seq
 (.ae [a8 4 (k_ 0),
 a8 5 (k_ 0),
 a8 6 F_] [4,5,6])
 .ret))),none,false⟩
def g191B1:aw:=
 (.seq
 (.seq
 (.ae [aa 15 8,
 aa 16 0,
 aa 17 7,
 aV 18 16 17 (.aE 4),
 aS 19 18 3,
 aG 20 19 (.aN 1 false),
 aG 21 20 .len,
 aV 22 15 21 (.bin .lss)] [0,1,7,8,22])
 (.cond (.t 22)
 .skip
 (.exit 2)))
 (.seq
 (.block 3
 (.seq
 (.ae [aa 25 0,
 aa 26 7,
 aV 27 25 26 (.aE 4),
 aS 28 27 3,
 aG 29 28 (.aN 1 false),
 aa 30 8,
 aV 31 29 30 (.aE 3),
 aS 32 31 1,
 aG 33 32 (.aN 1 false),
 aa 34 1,
 aV 35 33 34 (.bin .eql)] [0,1,7,8,35])
 (.cond (.t 35)
 (.seq
 (.ae [aa 36 7,
 aa 37 8,
 aa 4 36,
 aa 5 37,
 a8 6 T_] [4,5,6])
 .ret)
 .skip)))
 (.ae [aa 23 8,
 bg 24 23 1 (.bin .add),
 aa 8 24] [0,1,7,8])))
def g191L1:aw:=.loop [0,1,7,8] g191B1
theorem g191L1e: cl AP g191L1 st=after (cl AP g191L1) (cl AP g191B1 (norm (restrict [0,1,7,8] st))):=aF
def g191B0:aw:=
 (.seq
 (.seq
 (.ae [aa 9 7,
 aa 10 0,
 aG 11 10 .len,
 aV 12 9 11 (.bin .lss)] [0,1,7,12])
 (.cond (.t 12)
 .skip
 (.exit 0)))
 (.seq
 (.block 1
 (.seq
 (.ae [a8 8 (k_ 0)] [0,1,7,8])
 (.block 2
 g191L1)))
 (.ae [aa 13 7,
 bg 14 13 1 (.bin .add),
 aa 7 14] [0,1,7])))
def g191L0:aw:=.loop [0,1,7] g191B0
theorem g191L0e: cl AP g191L0 st=after (cl AP g191L0) (cl AP g191B0 (norm (restrict [0,1,7] st))):=aF
def g191:aH:=⟨2,38,[.t 4,.t 5,.t 6],
 (.seq
 (.ae [a8 4 (k_ 0),
 a8 5 (k_ 0),
 a8 6 F_] [0,1])
 (.seq
 (.seq
 (.ae [a8 7 (k_ 0)] [0,1,7])
 (.block 0
 g191L0))
 (.seq
 (.ae [a8 4 (k_ 0),
 a8 5 (k_ 0),
 a8 6 F_] [4,5,6])
 .ret))),none,false⟩
def g193B0:aw:=
 (.seq
 (.seq
 (.ae [aa 39 11,
 bg 40 39 0 (.bin .geq)] [0,4,6,9,10,11,40])
 (.cond (.t 40)
 .skip
 (.exit 0)))
 (.seq
 (.block 1
 (.ae [aa 43 10,
 aa 44 11,
 aV 45 43 44 (.aE 5),
 aG 46 45 (.aN 5 true),
 aa 47 0,
 aa 48 6,
 aV 49 47 48 (.aE 4),
 aS 50 49 2,
 aG 51 50 (.aN 1 false),
 bK 52 46 51 (.aB 198),
 aM 53 9 9 0 5 true,
 bK 54 52 53 (.aB 69),
 aU 9 54 9 0 5] [0,4,6,9,10,11]))
 (.ae [aa 41 11,
 bg 42 41 1 (.bin .sub),
 aa 11 42] [0,4,6,9,10,11])))
def g193L0:aw:=.loop [0,4,6,9,10,11] g193B0
theorem g193L0e: cl AP g193L0 st=after (cl AP g193L0) (cl AP g193B0 (norm (restrict [0,4,6,9,10,11] st))):=aF
def g193:aH:=⟨2,63,[.c 4 6 true,.t 5],
 (.seq
 (.ae [bG 4 pL,
 a8 5 F_] [0,1,4])
 (.seq
 (.ae [aa 13 0,
 aa 14 1,
 bK 15 13 14 (.aB 191),
 aa 12 15,
 aG 16 12 (.ext 0),
 aG 17 12 (.ext 1),
 aG 18 12 (.ext 2),
 aa 6 16,
 aa 7 17,
 aa 8 18] [0,4,6,7,8])
 (.seq
 (.seq
 (.ae [aa 19 8,
 aG 20 19 (.un .not)] [0,4,6,7,20])
 (.cond (.t 20)
 (.seq
 (.ae [a_ 21 [] (.build pL []),
 aU 4 21 4 0 6,
 a8 5 F_] [4,5])
 .ret)
 .skip))
 (.seq
 (.ae [aa 22 0,
 aa 23 6,
 aV 24 22 23 (.aE 4),
 aG 25 24 (.aN 4 true),
 ba 26 25 (.aB 221),
 bG 9 ej,
 aU 9 26 9 0 5] [0,4,6,7,9])
 (.seq
 (.ae [aa 27 0,
 aa 28 6,
 aV 29 27 28 (.aE 4),
 aS 30 29 3,
 aG 31 30 (.aN 1 false),
 aa 32 7,
 aV 33 31 32 (.aE 3),
 aS 34 33 2,
 aG 35 34 (.aN 1 false),
 aa 10 35] [0,4,6,9,10])
 (.seq
 (.seq
 (.ae [aa 36 10,
 aG 37 36 .len,
 bg 38 37 1 (.bin .sub),
 aa 11 38] [0,4,6,9,10,11])
 (.block 0
 g193L0))
 (.seq
 (.ae [aa 55 0,
 aa 56 6,
 aV 57 55 56 (.aE 4),
 aS 58 57 2,
 aG 59 58 (.aN 1 false),
 aG 60 59 .len,
 aM 61 9 9 0 5 true,
 aV 62 60 61 (.build pL [(0,1),(1,5)]),
 aU 4 62 4 0 6,
 a8 5 T_] [4,5])
 .ret))))))),none,false⟩
def g194:aH:=⟨1,29,[.c 2 5 true,.c 3 5 true,.t 4],
 (.seq
 (.ae [ba 1 0 (.box 1 5),
 bG 2 ej,
 bG 3 ej,
 a8 4 F_] [1,2,3])
 (.seq
 (.seq
 (.ae [aS 5 1 0,
 aM 6 5 1 0 1 false,
 bg 7 6 4 (.bin .eql),
 aa 8 7,
 aW 9 8 true 1 (.v (.bh 1)),
 aW 10 8 true 9 (.bj 1 1 1 false),
 cJ 11 8 true [.t 10,.c (.pv (.str [45,62]))] (.v (.bin .eql)),
 a_ 12 [.t 8,.t 11,F_] .pick,
 aa 13 12,
 aW 14 13 true 1 (.v (.bh 4)),
 aW 15 13 true 14 (.bj 1 4 1 false),
 aW 16 13 true 15 (.v (.len)),
 cJ 17 13 true [.t 16,k_ 2] (.v (.bin .eql)),
 a_ 18 [.t 13,.t 17,F_] .pick] [1,2,3,18])
 (.cond (.t 18)
 (.seq
 (.ae [aS 19 1 4,
 aM 20 19 1 4 1 false,
 bg 21 20 0 (.aE 5),
 aG 22 21 (.aN 5 true),
 aS 23 1 4,
 aM 24 23 1 4 1 false,
 bg 25 24 1 (.aE 5),
 aG 26 25 (.aN 5 true),
 aU 2 22 2 0 5,
 aU 3 26 3 0 5,
 a8 4 T_] [2,3,4])
 .ret)
 .skip))
 (.seq
 (.ae [a_ 27 [] (.build ej []),
 a_ 28 [] (.build ej []),
 aU 2 27 2 0 5,
 aU 3 28 3 0 5,
 a8 4 F_] [2,3,4])
 .ret))),none,false⟩
def g195B1:aw:=
 (.seq
 (.ae [aV 27 26 25 (.bin .lss)] [3,17,18,19,24,25,26,27])
 (.seq
 (.cond (.t 27)
 .skip
 (.exit 2))
 (.seq
 (.block 3
 (.seq
 (.ae [aV 28 24 26 (.aE 1),
 aG 29 28 (.aN 1 false),
 aa 7 29] [3,7,17,18,19,24,25,26])
 (.seq
 (.ae [aa 30 3,
 aa 31 7,
 bK 32 30 31 (.aB 214),
 aG 33 32 (.un .not)] [3,7,17,18,19,24,25,26,33])
 (.cond (.t 33)
 (.ae [aa 34 3,
 aa 35 7,
 aG 36 35 (.aT 1),
 bK 37 34 36 (.append 1 16),
 aa 3 37] [3,17,18,19,24,25,26])
 .skip))))
 (.ae [bg 38 26 1 (.bin .add),
 aa 26 38] [3,17,18,19,24,25,26]))))
def g195L1:aw:=.loop [3,17,18,19,24,25,26] g195B1
theorem g195L1e: cl AP g195L1 st=after (cl AP g195L1) (cl AP g195B1 (norm (restrict [3,17,18,19,24,25,26] st))):=aF
def g195B0:aw:=
 (.seq
 (.ae [aV 20 19 18 (.bin .lss)] [3,17,18,19,20])
 (.seq
 (.cond (.t 20)
 .skip
 (.exit 0))
 (.seq
 (.block 1
 (.seq
 (.ae [aV 21 17 19 (.aE 5),
 aG 22 21 (.aN 5 true),
 bG 5 ej,
 aU 5 22 5 0 5] [3,5,17,18,19])
 (.seq
 (.ae [aM 23 5 5 0 5 true,
 ba 24 23 (.aB 195),
 aG 25 24 .len,
 a8 26 (k_ 0)] [3,17,18,19,24,25,26])
 (.block 2
 g195L1))))
 (.ae [bg 39 19 1 (.bin .add),
 aa 19 39] [3,17,18,19]))))
def g195L0:aw:=.loop [3,17,18,19] g195B0
theorem g195L0e: cl AP g195L0 st=after (cl AP g195L0) (cl AP g195B0 (norm (restrict [3,17,18,19] st))):=aF
def g195:aH:=⟨1,41,[.t 2],
 (.seq
 (.ae [ba 1 0 (.box 1 5),
 a_ 2 [.c (.bB [])] .mv] [1])
 (.seq
 (.ae [a_ 3 [.c (.bB [])] .mv] [1,3])
 (.seq
 (.seq
 (.ae [aS 8 1 0,
 aM 9 8 1 0 1 false,
 bg 10 9 5 (.bin .eql)] [1,3,10])
 (.cond (.t 10)
 (.seq
 (.ae [aa 11 3,
 aS 12 1 1,
 aM 13 12 1 1 1 false,
 aG 14 13 (.aT 1),
 bK 15 11 14 (.append 1 16),
 aa 2 15] [2])
 .ret)
 .skip))
 (.seq
 (.seq
 (.ae [aS 16 1 4,
 aM 17 16 1 4 1 false,
 aG 18 17 .len,
 a8 19 (k_ 0)] [3,17,18,19])
 (.block 0
 g195L0))
 (.seq
 (.ae [aa 40 3,
 aa 2 40] [2])
 .ret))))),none,false⟩
def g196:aH:=⟨1,5,[.t 2],
 (.seq
 (.ae [ba 1 0 (.box 1 5),
 a_ 2 [.c (.bB [])] .mv] [1])
 (.seq
 (.ae [aM 3 1 1 0 5 true,
 bD 4 [.c (.bB []),.t 3] (.aI 222 [0]),
 aa 2 4] [2])
 .ret)),none,false⟩
def g198B0:aw:=
 (.seq
 (.seq
 (.ae [aa 22 7,
 aS 23 2 4,
 aM 24 23 2 4 1 false,
 aG 25 24 .len,
 aV 26 22 25 (.bin .lss)] [1,2,4,6,7,26])
 (.cond (.t 26)
 .skip
 (.exit 0)))
 (.seq
 (.block 1
 (.ae [aS 29 6 4,
 aM 30 29 6 4 1 false,
 aS 31 2 4,
 aM 32 31 2 4 1 false,
 aa 33 7,
 aV 34 32 33 (.aE 5),
 aG 35 34 (.aN 5 true),
 aa 36 1,
 bK 37 35 36 (.aB 198),
 aG 38 37 (.aT 5),
 bK 39 30 38 (.append 5 64),
 aS 40 6 4,
 aU 40 39 6 4 1] [1,2,4,6,7]))
 (.ae [aa 27 7,
 bg 28 27 1 (.bin .add),
 aa 7 28] [1,2,4,6,7])))
def g198L0:aw:=.loop [1,2,4,6,7] g198B0
theorem g198L0e: cl AP g198L0 st=after (cl AP g198L0) (cl AP g198B0 (norm (restrict [1,2,4,6,7] st))):=aF
def g198:aH:=⟨2,42,[.c 4 5 true],
 (.seq
 (.ae [ba 2 0 (.box 2 5),
 bG 4 ej] [1,2,4])
 (.seq
 (.seq
 (.ae [aS 8 2 0,
 aM 9 8 2 0 1 false,
 bg 10 9 5 (.bin .eql)] [1,2,4,10])
 (.cond (.t 10)
 (.seq
 (.seq
 (.ae [aa 11 1,
 aS 12 2 1,
 aM 13 12 2 1 1 false,
 bK 14 11 13 (.aB 216),
 aa 5 14] [2,4,5])
 (.seq
 (.ae [aa 15 5,
 bg 16 15 0 (.bin .geq)] [2,4,5,16])
 (.cond (.t 16)
 (.seq
 (.ae [aa 17 5,
 ba 18 17 (.aB 72),
 aU 4 18 4 0 5] [4])
 .ret)
 .skip)))
 (.seq
 (.ae [aM 19 2 2 0 5 true,
 aU 4 19 4 0 5] [4])
 .ret))
 .skip))
 (.seq
 (.ae [aM 20 2 2 0 5 true,
 bG 6 ej,
 aU 6 20 6 0 5] [1,2,4,6])
 (.seq
 (.ae [aS 21 6 4,
 lP [.t 21,.c (.bB [])] (.cT 6 4 1)] [1,2,4,6])
 (.seq
 (.seq
 (.ae [a8 7 (k_ 0)] [1,2,4,6,7])
 (.block 0
 g198L0))
 (.seq
 (.ae [aM 41 6 6 0 5 true,
 aU 4 41 4 0 5] [4])
 .ret)))))),none,false⟩
def g201B0:aw:=
 (.seq
 (.seq
 (.ae [aa 7 4,
 aa 8 0,
 aG 9 8 .len,
 aV 10 7 9 (.bin .lss)] [0,3,4,10])
 (.cond (.t 10)
 .skip
 (.exit 0)))
 (.seq
 (.block 1
 (.seq
 (.ae [aa 14 0,
 aa 15 4,
 bg 16 15 1 (.bin .add),
 aV 17 14 16 (.slice false 7 true false false),
 aa 18 0,
 aa 19 4,
 aV 20 18 19 (.aE 7),
 aS 21 20 0,
 aG 22 21 (.aN 1 false),
 bK 23 17 22 (.aB 181),
 aa 13 23,
 aG 24 13 (.ext 0),
 aG 25 13 (.ext 1),
 bG 5 pL,
 aU 5 24 5 0 6,
 aa 6 25] [0,3,4,6])
 (.seq
 (.ae [aa 26 6,
 aG 27 26 (.un .not)] [0,3,4,27])
 (.cond (.t 27)
 (.ae [aa 28 3,
 aa 29 0,
 aa 30 4,
 aV 31 29 30 (.aE 7),
 aG 32 31 (.aN 7 true),
 aG 33 32 (.aT 7),
 bK 34 28 33 (.append 7 88),
 aa 3 34] [0,3,4])
 .skip))))
 (.ae [aa 11 4,
 bg 12 11 1 (.bin .add),
 aa 4 12] [0,3,4])))
def g201L0:aw:=.loop [0,3,4] g201B0
theorem g201L0e: cl AP g201L0 st=after (cl AP g201L0) (cl AP g201B0 (norm (restrict [0,3,4] st))):=aF
def g201:aH:=⟨1,36,[.t 2],
 (.seq
 (.ae [a_ 2 [.c (.bB [])] .mv] [0])
 (.seq
 (.ae [a_ 3 [.c (.bB [])] .mv] [0,3])
 (.seq
 (.seq
 (.ae [a8 4 (k_ 0)] [0,3,4])
 (.block 0
 g201L0))
 (.seq
 (.ae [aa 35 3,
 aa 2 35] [2])
 .ret)))),none,false⟩
def g207B0:aw:=
 (.seq
 (.seq
 (.ae [aa 43 13,
 aa 44 12,
 aG 45 44 .len,
 aV 46 43 45 (.bin .lss)] [0,2,8,11,12,13,46])
 (.cond (.t 46)
 .skip
 (.exit 0)))
 (.seq
 (.block 1
 (.ae [aa 49 11,
 aa 50 12,
 aa 51 13,
 aV 52 50 51 (.aE 5),
 aG 53 52 (.aN 5 true),
 aa 54 0,
 aa 55 8,
 aV 56 54 55 (.aE 4),
 aS 57 56 2,
 aG 58 57 (.aN 1 false),
 bK 59 53 58 (.aB 198),
 aa 60 2,
 bK 61 59 60 (.aB 48),
 aG 62 61 (.aT 5),
 bK 63 49 62 (.append 5 64),
 aa 11 63] [0,2,8,11,12,13]))
 (.ae [aa 47 13,
 bg 48 47 1 (.bin .add),
 aa 13 48] [0,2,8,11,12,13])))
def g207L0:aw:=.loop [0,2,8,11,12,13] g207B0
theorem g207L0e: cl AP g207L0 st=after (cl AP g207L0) (cl AP g207B0 (norm (restrict [0,2,8,11,12,13] st))):=aF
def g207:aH:=⟨3,65,[.t 6,.t 7],
 (.seq
 (.ae [a_ 6 [.c (.bB [])] .mv,
 a8 7 F_] [0,1,2])
 (.seq
 (.ae [aa 15 0,
 aa 16 1,
 bK 17 15 16 (.aB 191),
 aa 14 17,
 aG 18 14 (.ext 0),
 aG 19 14 (.ext 1),
 aG 20 14 (.ext 2),
 aa 8 18,
 aa 9 19,
 aa 10 20] [0,2,8,9,10])
 (.seq
 (.seq
 (.ae [aa 21 10,
 aG 22 21 (.un .not),
 aa 23 22,
 aW 24 23 false 2 (.v (.mv)),
 aW 25 23 false 24 (.v (.len)),
 aW 26 23 false 0 (.v (.mv)),
 aW 27 23 false 8 (.v (.mv)),
 cJ 28 23 false [.t 26,.t 27] (.v (.aE 4)),
 aW 29 23 false 28 (.v (.bh 2)),
 aW 30 23 false 29 (.v (.aN 1 false)),
 aW 31 23 false 30 (.v (.len)),
 cJ 32 23 false [.t 25,.t 31] (.v (.bin .neq)),
 a_ 33 [.t 23,T_,.t 32] .pick] [0,2,8,9,33])
 (.cond (.t 33)
 (.seq
 (.ae [a_ 6 [.c (.bB [])] .mv,
 a8 7 F_] [6,7])
 .ret)
 .skip))
 (.seq
 (.ae [a_ 11 [.c (.bB [])] .mv] [0,2,8,9,11])
 (.seq
 (.ae [aa 34 0,
 aa 35 8,
 aV 36 34 35 (.aE 4),
 aS 37 36 3,
 aG 38 37 (.aN 1 false),
 aa 39 9,
 aV 40 38 39 (.aE 3),
 aS 41 40 2,
 aG 42 41 (.aN 1 false),
 aa 12 42] [0,2,8,11,12])
 (.seq
 (.seq
 (.ae [a8 13 (k_ 0)] [0,2,8,11,12,13])
 (.block 0
 g207L0))
 (.seq
 (.ae [aa 64 11,
 aa 6 64,
 a8 7 T_] [6,7])
 .ret))))))),none,false⟩
def g208B0:aw:=
 (.seq
 (.seq
 (.ae [aa 11 7,
 aa 12 5,
 aG 13 12 .len,
 aV 14 11 13 (.bin .lss)] [1,2,4,5,6,7,14])
 (.cond (.t 14)
 .skip
 (.exit 0)))
 (.seq
 (.block 1
 (.seq
 (.ae [aa 17 1,
 aa 18 5,
 aa 19 7,
 aV 20 18 19 (.aE 1),
 aG 21 20 (.aN 1 false),
 bK 22 17 21 (.aB 95)] [1,2,4,5,6,7,22])
 (.cond (.t 22)
 (.ae [aa 23 6,
 aa 24 5,
 aa 25 7,
 aV 26 24 25 (.aE 1),
 aG 27 26 (.aN 1 false),
 aa 28 6,
 aG 29 28 .len,
 ba 30 29 (.aB 72),
 aV 31 27 30 (.build pL [(0,1),(1,5)]),
 aG 32 31 (.aT 6),
 bK 33 23 32 (.append 6 72),
 aa 6 33] [1,2,4,5,6,7])
 .skip)))
 (.ae [aa 15 7,
 bg 16 15 1 (.bin .add),
 aa 7 16] [1,2,4,5,6,7])))
def g208L0:aw:=.loop [1,2,4,5,6,7] g208B0
theorem g208L0e: cl AP g208L0 st=after (cl AP g208L0) (cl AP g208B0 (norm (restrict [1,2,4,5,6,7] st))):=aF
def g208:aH:=⟨2,40,[.c 4 6 true],
 (.seq
 (.ae [ba 2 0 (.box 2 5),
 bG 4 pL] [1,2,4])
 (.seq
 (.ae [aM 8 2 2 0 5 true,
 aG 9 8 (.aT 5),
 ba 10 9 (.aB 56),
 aa 5 10] [1,2,4,5])
 (.seq
 (.ae [a_ 6 [.c (.bB [])] .mv] [1,2,4,5,6])
 (.seq
 (.seq
 (.ae [a8 7 (k_ 0)] [1,2,4,5,6,7])
 (.block 0
 g208L0))
 (.seq
 (.ae [aa 34 6,
 aG 35 34 .len,
 aM 36 2 2 0 5 true,
 aa 37 6,
 bK 38 36 37 (.aB 46),
 aV 39 35 38 (.build pL [(0,1),(1,5)]),
 aU 4 39 4 0 6] [4])
 .ret))))),none,false⟩
def g214:aH:=⟨2,9,[.t 4],
 (.seq
 (.ae [a8 4 F_] [0,1])
 (.seq
 (.ae [aa 5 0,
 aa 6 1,
 bK 7 5 6 (.aB 223),
 bg 8 7 0 (.bin .geq),
 aa 4 8] [4])
 .ret)),none,false⟩
def g215B0:aw:=
 (.seq
 (.ae [aV 16 15 14 (.bin .lss)] [1,13,14,15,16])
 (.seq
 (.cond (.t 16)
 .skip
 (.exit 1))
 (.seq
 (.block 2
 (.seq
 (.ae [aV 17 13 15 (.aE 4),
 aG 18 17 (.aN 4 true),
 bG 7 FF,
 aU 7 18 7 0 4] [1,7,13,14,15])
 (.seq
 (.ae [aS 19 7 1,
 aM 20 19 7 1 1 false,
 aa 21 1,
 aV 22 20 21 (.bin .eql)] [1,7,13,14,15,22])
 (.cond (.t 22)
 (.seq
 (.ae [aS 23 7 2,
 aM 24 23 7 2 1 false,
 aG 25 24 .len,
 aa 4 25,
 a8 5 T_] [4,5])
 .ret)
 .skip))))
 (.ae [bg 26 15 1 (.bin .add),
 aa 15 26] [1,13,14,15]))))
def g215L0:aw:=.loop [1,13,14,15] g215B0
theorem g215L0e: cl AP g215L0 st=after (cl AP g215L0) (cl AP g215B0 (norm (restrict [1,13,14,15] st))):=aF
def g215:aH:=⟨2,27,[.t 4,.t 5],
 (.seq
 (.ae [a8 4 (k_ 0),
 a8 5 F_] [0,1])
 (.seq
 (.seq
 (.ae [aa 8 1] [0,1,8])
 (.block 0
 (.seq
 (.ae [a_ 10 [.t 8,.c (.pv (.str [73,110,116]))] (.bin .eql),
 aa 9 10] [0,1,8,9])
 (.cond (.t 9)
 (.seq
 (.ae [a8 4 (k_ 0),
 a8 5 T_] [4,5])
 .ret)
 (.seq
 (.ae [a_ 12 [.t 8,.c (.pv (.str [45,62]))] (.bin .eql),
 aa 11 12] [0,1,11])
 (.cond (.t 11)
 (.seq
 (.ae [a8 4 (k_ 2),
 a8 5 T_] [4,5])
 .ret)
 .skip))))))
 (.seq
 (.seq
 (.ae [aa 13 0,
 aG 14 13 .len,
 a8 15 (k_ 0)] [1,13,14,15])
 (.block 1
 g215L0))
 (.seq
 (.ae [a8 4 (k_ 0),
 a8 5 F_] [4,5])
 .ret)))),none,false⟩
def g216B0:aw:=
 (.seq
 (.seq
 (.ae [aa 6 5,
 aa 7 0,
 aG 8 7 .len,
 aV 9 6 8 (.bin .lss)] [0,1,5,9])
 (.cond (.t 9)
 .skip
 (.exit 0)))
 (.seq
 (.block 1
 (.seq
 (.ae [aa 12 0,
 aa 13 5,
 aV 14 12 13 (.aE 1),
 aG 15 14 (.aN 1 false),
 aa 16 1,
 aV 17 15 16 (.bin .eql)] [0,1,5,17])
 (.cond (.t 17)
 (.seq
 (.ae [aa 18 5,
 aa 4 18] [4])
 .ret)
 .skip)))
 (.ae [aa 10 5,
 bg 11 10 1 (.bin .add),
 aa 5 11] [0,1,5])))
def g216L0:aw:=.loop [0,1,5] g216B0
theorem g216L0e: cl AP g216L0 st=after (cl AP g216L0) (cl AP g216B0 (norm (restrict [0,1,5] st))):=aF
def g216:aH:=⟨2,19,[.t 4],
 (.seq
 (.ae [a8 4 (k_ 0)] [0,1])
 (.seq
 (.seq
 (.ae [a8 5 (k_ 0)] [0,1,5])
 (.block 0
 g216L0))
 (.seq
 (.ae [a8 4 (k_ (-1))] [4])
 .ret))),none,false⟩
def g221B0:aw:=
 (.seq
 (.seq
 (.ae [aa 5 4,
 aS 6 1 2,
 aM 7 6 1 2 1 false,
 aG 8 7 .len,
 aV 9 5 8 (.bin .lss)] [1,2,3,4,9])
 (.cond (.t 9)
 .skip
 (.exit 0)))
 (.seq
 (.block 1
 (.ae [aa 12 3,
 aa 13 4,
 ba 14 13 (.aB 72),
 aG 15 14 (.aT 5),
 bK 16 12 15 (.append 5 64),
 aa 3 16] [1,2,3,4]))
 (.ae [aa 10 4,
 bg 11 10 1 (.bin .add),
 aa 4 11] [1,2,3,4])))
def g221L0:aw:=.loop [1,2,3,4] g221B0
theorem g221L0e: cl AP g221L0 st=after (cl AP g221L0) (cl AP g221B0 (norm (restrict [1,2,3,4] st))):=aF
def g221:aH:=⟨1,21,[.c 2 5 true],
 (.seq
 (.ae [ba 1 0 (.box 1 4),
 bG 2 ej] [1,2])
 (.seq
 (.ae [a_ 3 [.c (.bB [])] .mv] [1,2,3])
 (.seq
 (.seq
 (.ae [a8 4 (k_ 0)] [1,2,3,4])
 (.block 0
 g221L0))
 (.seq
 (.ae [aS 17 1 1,
 aM 18 17 1 1 1 false,
 aa 19 3,
 bK 20 18 19 (.aB 62),
 aU 2 20 2 0 5] [2])
 .ret)))),none,false⟩
def g222B0:aw:=
 (.seq
 (.seq
 (.ae [aa 21 5,
 aS 22 3 4,
 aM 23 22 3 4 1 false,
 aG 24 23 .len,
 aV 25 21 24 (.bin .lss)] [0,3,5,25])
 (.cond (.t 25)
 .skip
 (.exit 0)))
 (.seq
 (.block 1
 (.ae [aa 28 0,
 aS 29 3 4,
 aM 30 29 3 4 1 false,
 aa 31 5,
 aV 32 30 31 (.aE 5),
 aG 33 32 (.aN 5 true),
 bK 34 28 33 (.aI 222 [0]),
 aa 0 34] [0,3,5]))
 (.ae [aa 26 5,
 bg 27 26 1 (.bin .add),
 aa 5 27] [0,3,5])))
def g222L0:aw:=.loop [0,3,5] g222B0
theorem g222L0e: cl AP g222L0 st=after (cl AP g222L0) (cl AP g222B0 (norm (restrict [0,3,5] st))):=aF
def g222:aH:=⟨2,36,[.t 4],
 (.seq
 (.ae [ba 3 1 (.box 3 5),
 a_ 4 [.c (.bB [])] .mv] [0,3])
 (.seq
 (.seq
 (.ae [aS 6 3 0,
 aM 7 6 3 0 1 false,
 bg 8 7 5 (.bin .eql),
 aa 9 8,
 aW 10 9 true 0 (.v (.mv)),
 aW 11 9 true 3 (.v (.bh 1)),
 aW 12 9 true 11 (.bj 3 1 1 false),
 cJ 13 9 true [.t 10,.t 12] (.aB 216),
 cJ 14 9 true [.t 13,k_ 0] (.v (.bin .lss)),
 a_ 15 [.t 9,.t 14,F_] .pick] [0,3,15])
 (.cond (.t 15)
 (.ae [aa 16 0,
 aS 17 3 1,
 aM 18 17 3 1 1 false,
 aG 19 18 (.aT 1),
 bK 20 16 19 (.append 1 16),
 aa 0 20] [0,3])
 .skip))
 (.seq
 (.seq
 (.ae [a8 5 (k_ 0)] [0,3,5])
 (.block 0
 g222L0))
 (.seq
 (.ae [aa 35 0,
 aa 4 35] [4])
 .ret)))),none,false⟩
def g223B0:aw:=
 (.seq
 (.ae [aV 9 8 7 (.bin .lss)] [0,1,7,8,9])
 (.seq
 (.cond (.t 9)
 .skip
 (.exit 0))
 (.seq
 (.block 1
 (.seq
 (.ae [aa 10 8,
 aa 5 10] [0,1,5,7,8])
 (.seq
 (.ae [aa 11 1,
 aa 12 0,
 aa 13 5,
 aV 14 12 13 (.aE 1),
 aG 15 14 (.aN 1 false),
 aV 16 11 15 (.bin .eql)] [0,1,5,7,8,16])
 (.cond (.t 16)
 (.seq
 (.ae [aa 17 5,
 aa 4 17] [4])
 .ret)
 .skip))))
 (.ae [bg 18 8 1 (.bin .add),
 aa 8 18] [0,1,7,8]))))
def g223L0:aw:=.loop [0,1,7,8] g223B0
theorem g223L0e: cl AP g223L0 st=after (cl AP g223L0) (cl AP g223B0 (norm (restrict [0,1,7,8] st))):=aF
def g223:aH:=⟨2,19,[.t 4],
 (.seq
 (.ae [a8 4 (k_ 0)] [0,1])
 (.seq
 (.seq
 (.ae [aa 6 0,
 aG 7 6 .len,
 a8 8 (k_ 0)] [0,1,7,8])
 (.block 0
 g223L0))
 (.seq
 (.ae [a8 4 (k_ (-1))] [4])
 .ret))),none,false⟩
def g238:aH:=⟨2,20,[.t 4,.t 5],
 (.seq
 (.ae [ba 2 0 (.box 2 6),
 ba 3 1 (.box 3 5),
 a_ 4 [.c (.bB [])] .mv,
 a8 5 F_] [2,3])
 (.seq
 (.ae [aS 7 2 0,
 aM 8 7 2 0 1 false,
 bK 9 8 8 (.jg 5 64 true [.int .i64 0,.str [],.int .i64 0,.int .i64 0,.aD []]),
 aa 6 9] [2,3,6])
 (.seq
 (.seq
 (.ae [aS 10 2 1,
 aM 11 10 2 1 5 true,
 aM 12 3 3 0 5 true,
 aa 13 6,
 aS 14 2 0,
 aM 15 14 2 0 1 false,
 bK 16 15 15 (.jg 1 1 false [.bool false]),
 bD 17 [.t 11,.t 12,.t 13,.t 16] (.aI 240 []),
 aG 18 17 (.un .not)] [6,18])
 (.cond (.t 18)
 (.seq
 (.ae [a_ 4 [.c (.bB [])] .mv,
 a8 5 F_] [4,5])
 .ret)
 .skip))
 (.seq
 (.ae [aa 19 6,
 aa 4 19,
 a8 5 T_] [4,5])
 .ret)))),none,false⟩
def g240B0:aw:=
 (.seq
 (.seq
 (.ae [aa 76 9,
 aS 77 4 4,
 aM 78 77 4 4 1 false,
 aG 79 78 .len,
 aV 80 76 79 (.bin .lss)] [2,3,4,5,9,80])
 (.cond (.t 80)
 .skip
 (.exit 0)))
 (.seq
 (.block 1
 (.seq
 (.ae [aS 83 4 4,
 aM 84 83 4 4 1 false,
 aa 85 9,
 aV 86 84 85 (.aE 5),
 aG 87 86 (.aN 5 true),
 aS 88 5 4,
 aM 89 88 5 4 1 false,
 aa 90 9,
 aV 91 89 90 (.aE 5),
 aG 92 91 (.aN 5 true),
 aa 93 2,
 aa 94 3,
 bD 95 [.t 87,.t 92,.t 93,.t 94] (.aI 240 []),
 aG 96 95 (.un .not)] [2,3,4,5,9,96])
 (.cond (.t 96)
 (.seq
 (.ae [a8 8 F_] [8])
 .ret)
 .skip)))
 (.ae [aa 81 9,
 bg 82 81 1 (.bin .add),
 aa 9 82] [2,3,4,5,9])))
def g240L0:aw:=.loop [2,3,4,5,9] g240B0
theorem g240L0e: cl AP g240L0 st=after (cl AP g240L0) (cl AP g240B0 (norm (restrict [2,3,4,5,9] st))):=aF
def g240:aH:=⟨4,97,[.t 8],
 (.seq
 (.ae [ba 4 0 (.box 4 5),
 ba 5 1 (.box 5 5),
 a8 8 F_] [2,3,4,5])
 (.seq
 (.seq
 (.ae [aS 10 4 0,
 aM 11 10 4 0 1 false,
 bg 12 11 2 (.bin .eql),
 aa 13 12,
 aW 14 13 true 4 (.v (.bh 2)),
 aW 15 13 true 14 (.bj 4 2 1 false),
 aW 16 13 true 2 (.v (.mv)),
 aW 17 13 true 16 (.v (.len)),
 cJ 18 13 true [.t 15,.t 17] (.v (.bin .lss)),
 a_ 19 [.t 13,.t 18,F_] .pick] [2,3,4,5,19])
 (.cond (.t 19)
 (.seq
 (.seq
 (.ae [aa 20 3,
 aS 21 4 2,
 aM 22 21 4 2 1 false,
 aV 23 20 22 (.aE 1),
 ba 24 23 (.aZ 1 false)] [2,3,4,5,24])
 (.cond (.t 24)
 (.seq
 (.ae [aa 25 2,
 aS 26 4 2,
 aM 27 26 4 2 1 false,
 aV 28 25 27 (.aE 5),
 ba 29 28 (.aZ 5 true),
 aM 30 5 5 0 5 true,
 bK 31 29 30 (.aB 20),
 aa 8 31] [8])
 .ret)
 .skip))
 (.seq
 (.ae [aa 32 2,
 aS 33 4 2,
 aM 34 33 4 2 1 false,
 aa 35 3,
 aS 36 4 2,
 aM 37 36 4 2 1 false,
 aM 38 5 5 0 5 true,
 aV 39 32 34 (.aE 5),
 lP [.t 39,.t 38] (.cU 5),
 aV 40 35 37 (.aE 1),
 lP [.t 40,T_] (.cU 1)] [])
 (.seq
 (.ae [a8 8 T_] [8])
 .ret)))
 .skip))
 (.seq
 (.seq
 (.ae [aS 41 4 0,
 aM 42 41 4 0 1 false,
 aS 43 5 0,
 aM 44 43 5 0 1 false,
 aV 45 42 44 (.bin .neq),
 aa 46 45,
 aW 47 46 false 4 (.v (.bh 1)),
 aW 48 46 false 47 (.bj 4 1 1 false),
 aW 49 46 false 5 (.v (.bh 1)),
 aW 50 46 false 49 (.bj 5 1 1 false),
 cJ 51 46 false [.t 48,.t 50] (.v (.bin .neq)),
 a_ 52 [.t 46,T_,.t 51] .pick,
 aa 53 52,
 aW 54 53 false 4 (.v (.bh 2)),
 aW 55 53 false 54 (.bj 4 2 1 false),
 aW 56 53 false 5 (.v (.bh 2)),
 aW 57 53 false 56 (.bj 5 2 1 false),
 cJ 58 53 false [.t 55,.t 57] (.v (.bin .neq)),
 a_ 59 [.t 53,T_,.t 58] .pick,
 aa 60 59,
 aW 61 60 false 4 (.v (.bh 3)),
 aW 62 60 false 61 (.bj 4 3 1 false),
 aW 63 60 false 5 (.v (.bh 3)),
 aW 64 60 false 63 (.bj 5 3 1 false),
 cJ 65 60 false [.t 62,.t 64] (.v (.bin .neq)),
 a_ 66 [.t 60,T_,.t 65] .pick,
 aa 67 66,
 aW 68 67 false 4 (.v (.bh 4)),
 aW 69 67 false 68 (.bj 4 4 1 false),
 aW 70 67 false 69 (.v (.len)),
 aW 71 67 false 5 (.v (.bh 4)),
 aW 72 67 false 71 (.bj 5 4 1 false),
 aW 73 67 false 72 (.v (.len)),
 cJ 74 67 false [.t 70,.t 73] (.v (.bin .neq)),
 a_ 75 [.t 67,T_,.t 74] .pick] [2,3,4,5,75])
 (.cond (.t 75)
 (.seq
 (.ae [a8 8 F_] [8])
 .ret)
 .skip))
 (.seq
 (.seq
 (.ae [a8 9 (k_ 0)] [2,3,4,5,9])
 (.block 0
 g240L0))
 (.seq
 (.ae [a8 8 T_] [8])
 .ret))))),none,false⟩
def g247B1:aw:=
 (.seq
 (.seq
 (.ae [aa 171 17,
 aS 172 13 3,
 aM 173 172 13 3 1 false,
 aa 174 15,
 aV 175 173 174 (.aE 3),
 aS 176 175 2,
 aG 177 176 (.aN 1 false),
 aG 178 177 .len,
 aV 179 171 178 (.bin .lss)] [0,1,2,6,13,14,15,16,17,179])
 (.cond (.t 179)
 .skip
 (.exit 3)))
 (.seq
 (.block 4
 (.ae [aS 182 16 2,
 aM 183 182 16 2 1 false,
 aa 184 0,
 ba 185 184 (.aI 175 []),
 aG 186 185 (.aT 1),
 bK 187 183 186 (.append 1 16),
 aS 188 16 2,
 aU 188 187 16 2 1] [0,1,2,6,13,14,15,16,17]))
 (.ae [aa 180 17,
 bg 181 180 1 (.bin .add),
 aa 17 181] [0,1,2,6,13,14,15,16,17])))
def g247L1:aw:=.loop [0,1,2,6,13,14,15,16,17] g247B1
theorem g247L1e: cl AP g247L1 st=after (cl AP g247L1) (cl AP g247B1 (norm (restrict [0,1,2,6,13,14,15,16,17] st))):=aF
def g247B0:aw:=
 (.seq
 (.seq
 (.ae [aa 157 15,
 aS 158 13 3,
 aM 159 158 13 3 1 false,
 aG 160 159 .len,
 aV 161 157 160 (.bin .lss)] [0,1,2,6,13,14,15,161])
 (.cond (.t 161)
 .skip
 (.exit 1)))
 (.seq
 (.block 2
 (.seq
 (.ae [aS 164 13 3,
 aM 165 164 13 3 1 false,
 aa 166 15,
 aV 167 165 166 (.aE 3),
 aS 168 167 1,
 aG 169 168 (.aN 1 false),
 aG 170 169 (.build [a0,dN,bQ,a0,a0,dN,a0,bQ,bQ,a0,dN,a0,a0,bQ] [(1,1)]),
 bG 16 [a0,dN,bQ,a0,a0,dN,a0,bQ,bQ,a0,dN,a0,a0,bQ],
 aU 16 170 16 0 14] [0,1,2,6,13,14,15,16])
 (.seq
 (.seq
 (.ae [a8 17 (k_ 0)] [0,1,2,6,13,14,15,16,17])
 (.block 3
 g247L1))
 (.seq
 (.ae [aa 189 0,
 aa 190 1,
 aa 191 2,
 bg 192 191 1 (.bin .sub),
 bD 193 [.t 189,.t 190,.t 192] (.aI 247 []),
 aS 194 16 3,
 aU 194 193 16 3 11] [0,1,2,6,13,14,15,16])
 (.ae [aS 195 14 5,
 aM 196 195 14 5 1 false,
 aM 197 16 16 0 14 true,
 aG 198 197 (.aT 14),
 bK 199 196 198 (.append 14 200),
 aS 200 14 5,
 aU 200 199 14 5 1] [0,1,2,6,13,14,15])))))
 (.ae [aa 162 15,
 bg 163 162 1 (.bin .add),
 aa 15 163] [0,1,2,6,13,14,15])))
def g247L0:aw:=.loop [0,1,2,6,13,14,15] g247B0
theorem g247L0e: cl AP g247L0 st=after (cl AP g247L0) (cl AP g247B0 (norm (restrict [0,1,2,6,13,14,15] st))):=aF
def g247:aH:=⟨3,202,[.c 6 11 true],
 (.seq
 (.ae [bG 6 ek] [0,1,2,6])
 (.seq
 (.ae [aa 18 0,
 bD 19 [.t 18,k_ 14] (.aI 68 []),
 aa 7 19] [0,1,2,6,7])
 (.seq
 (.seq
 (.ae [aa 20 2,
 bg 21 20 1 (.bin .lss)] [0,1,2,6,7,21])
 (.cond (.t 21)
 (.ae [aa 22 7,
 bg 23 22 5 (.bin .rem),
 aa 7 23] [0,1,2,6,7])
 .skip))
 (.seq
 (.seq
 (.ae [aa 24 7] [0,1,2,6,24])
 (.block 0
 (.seq
 (.seq
 (.ae [bg 26 24 0 (.bin .eql),
 aa 25 26] [0,1,2,6,24,25])
 (.cond (.t 25)
 .skip
 (.ae [bg 27 24 1 (.bin .eql),
 aa 25 27] [0,1,2,6,24,25])))
 (.cond (.t 25)
 (.seq
 (.ae [aa 28 0,
 ba 29 28 (.aI 175 []),
 a_ 30 [k_ 1,.t 29] (.build ek [(0,1),(2,1)]),
 aU 6 30 6 0 11] [6])
 .ret)
 (.seq
 (.ae [bg 32 24 2 (.bin .eql),
 aa 31 32] [0,1,2,6,24,31])
 (.cond (.t 31)
 (.seq
 (.ae [aa 33 0,
 bD 34 [.t 33,k_ 4] (.aI 68 []),
 a_ 35 [k_ 3,.t 34] (.build ek [(0,1),(3,1)]),
 aU 6 35 6 0 11] [6])
 .ret)
 (.seq
 (.ae [bg 37 24 3 (.bin .eql),
 aa 36 37] [0,1,2,6,24,36])
 (.cond (.t 36)
 (.seq
 (.seq
 (.ae [aa 38 1,
 aG 39 38 .len,
 bg 40 39 0 (.bin .gtr)] [0,1,6,40])
 (.cond (.t 40)
 (.seq
 (.ae [aa 41 1,
 aa 42 0,
 aa 43 1,
 aG 44 43 .len,
 bK 45 42 44 (.aI 68 []),
 aV 46 41 45 (.aE 4),
 ba 47 46 (.aZ 4 true),
 bG 8 FF,
 aU 8 47 8 0 4] [0,6,8])
 (.seq
 (.ae [aS 48 8 3,
 aM 49 48 8 3 1 false,
 aa 50 0,
 aS 51 8 3,
 aM 52 51 8 3 1 false,
 aG 53 52 .len,
 bK 54 50 53 (.aI 68 []),
 aV 55 49 54 (.aE 3),
 aS 56 55 1,
 aG 57 56 (.aN 1 false),
 a_ 58 [k_ 2,.t 57] (.build ek [(0,1),(2,1)]),
 aU 6 58 6 0 11] [6])
 .ret))
 .skip))
 (.seq
 (.ae [a_ 59 [k_ 2,.c (.pv (.str [71,111,110,101]))] (.build ek [(0,1),(2,1)]),
 aU 6 59 6 0 11] [6])
 .ret))
 (.seq
 (.ae [bg 61 24 4 (.bin .eql),
 aa 60 61] [0,1,2,6,24,60])
 (.cond (.t 60)
 (.seq
 (.ae [a_ 62 [k_ 10] (.build ek [(0,1)]),
 aU 6 62 6 0 11] [6])
 .ret)
 (.seq
 (.seq
 (.ae [bg 64 24 5 (.bin .eql),
 aa 63 64] [0,1,2,6,24,63])
 (.cond (.t 63)
 .skip
 (.ae [bg 65 24 6 (.bin .eql),
 aa 63 65] [0,1,2,6,24,63])))
 (.cond (.t 63)
 (.seq
 (.ae [aa 66 0,
 ba 67 66 (.aI 175 []),
 aa 68 0,
 aa 69 1,
 aa 70 2,
 bg 71 70 1 (.bin .sub),
 bD 72 [.t 68,.t 69,.t 71] (.aI 247 []),
 aG 73 72 (.aT 11),
 a_ 74 [k_ 4,.t 67,.t 73] (.build ek [(0,1),(2,1),(4,1)]),
 aU 6 74 6 0 11] [6])
 .ret)
 (.seq
 (.seq
 (.ae [bg 76 24 7 (.bin .eql),
 aa 75 76] [0,1,2,6,24,75])
 (.cond (.t 75)
 .skip
 (.seq
 (.ae [bg 77 24 8 (.bin .eql),
 aa 75 77] [0,1,2,6,24,75])
 (.cond (.t 75)
 .skip
 (.ae [bg 78 24 9 (.bin .eql),
 aa 75 78] [0,1,2,6,24,75])))))
 (.cond (.t 75)
 (.seq
 (.ae [aa 79 0,
 aa 80 1,
 aa 81 2,
 bg 82 81 1 (.bin .sub),
 bD 83 [.t 79,.t 80,.t 82] (.aI 247 []),
 bG 9 ek,
 aU 9 83 9 0 11] [0,1,2,6,9])
 (.seq
 (.ae [aM 84 9 9 0 11 true,
 aa 85 0,
 aa 86 1,
 aa 87 2,
 bg 88 87 1 (.bin .sub),
 bD 89 [.t 85,.t 86,.t 88] (.aI 247 []),
 aV 90 84 89 (.aT 11),
 a_ 91 [k_ 5,.t 90] (.build ek [(0,1),(4,1)]),
 aU 6 91 6 0 11] [6])
 .ret))
 (.seq
 (.ae [bg 93 24 10 (.bin .eql),
 aa 92 93] [0,1,2,6,24,92])
 (.cond (.t 92)
 (.seq
 (.ae [aa 94 0,
 bD 95 [.t 94,k_ 2] (.aI 68 []),
 a_ 96 [k_ 6,.t 95] (.bin .add),
 aa 10 96] [0,1,2,6,10])
 (.seq
 (.ae [aa 97 0,
 ba 98 97 (.aI 175 []),
 aa 11 98] [0,1,2,6,10,11])
 (.seq
 (.ae [aa 99 0,
 aa 100 1,
 aa 101 2,
 bg 102 101 1 (.bin .sub),
 bD 103 [.t 99,.t 100,.t 102] (.aI 247 []),
 bG 12 ek,
 aU 12 103 12 0 11] [0,1,2,6,10,11,12])
 (.seq
 (.ae [aa 104 10,
 aa 105 11,
 aM 106 12 12 0 11 true,
 aa 107 0,
 aa 108 1,
 aa 109 2,
 bg 110 109 1 (.bin .sub),
 bD 111 [.t 107,.t 108,.t 110] (.aI 247 []),
 aV 112 106 111 (.aT 11),
 a_ 113 [.t 104,.t 105,.t 112] (.build ek [(0,1),(2,1),(4,1)]),
 aU 6 113 6 0 11] [6])
 .ret))))
 (.seq
 (.ae [bg 115 24 11 (.bin .eql),
 aa 114 115] [0,1,2,6,24,114])
 (.cond (.t 114)
 (.seq
 (.ae [aa 116 0,
 aa 117 1,
 aa 118 2,
 bg 119 118 1 (.bin .sub),
 bD 120 [.t 116,.t 117,.t 119] (.aI 247 []),
 aG 121 120 (.aT 11),
 aa 122 0,
 aa 123 1,
 bD 124 [.t 122,.t 123,.c (.bB []),k_ 2] (.aI 27 []),
 a_ 125 [k_ 9,.t 121,.t 124] (.build ek [(0,1),(4,1),(6,5)]),
 aU 6 125 6 0 11] [6])
 .ret)
 (.seq
 (.ae [bg 127 24 12 (.bin .eql),
 aa 126 127] [0,1,2,6,126])
 (.cond (.t 126)
 (.seq
 (.ae [aa 128 0,
 aa 129 1,
 aa 130 2,
 bg 131 130 1 (.bin .sub),
 bD 132 [.t 128,.t 129,.t 131] (.aI 247 []),
 aG 133 132 (.aT 11),
 a_ 134 [k_ 11,.t 133] (.build ek [(0,1),(4,1)]),
 aU 6 134 6 0 11] [6])
 .ret)
 .skip))))))))))))))))))))
 (.seq
 (.seq
 (.ae [aa 135 1,
 aG 136 135 .len,
 bg 137 136 0 (.bin .eql)] [0,1,2,6,137])
 (.cond (.t 137)
 (.seq
 (.ae [aa 138 0,
 aa 139 1,
 aa 140 2,
 bg 141 140 1 (.bin .sub),
 bD 142 [.t 138,.t 139,.t 141] (.aI 247 []),
 aU 6 142 6 0 11] [6])
 .ret)
 .skip))
 (.seq
 (.ae [aa 143 1,
 aa 144 0,
 aa 145 1,
 aG 146 145 .len,
 bK 147 144 146 (.aI 68 []),
 aV 148 143 147 (.aE 4),
 ba 149 148 (.aZ 4 true),
 bG 13 FF,
 aU 13 149 13 0 4] [0,1,2,6,13])
 (.seq
 (.ae [aa 150 0,
 aa 151 1,
 aa 152 2,
 bg 153 152 1 (.bin .sub),
 bD 154 [.t 150,.t 151,.t 153] (.aI 247 []),
 aG 155 154 (.aT 11),
 a_ 156 [k_ 8,.t 155] (.build ek [(0,1),(4,1)]),
 bG 14 ek,
 aU 14 156 14 0 11] [0,1,2,6,13,14])
 (.seq
 (.seq
 (.ae [a8 15 (k_ 0)] [0,1,2,6,13,14,15])
 (.block 1
 g247L0))
 (.seq
 (.ae [aM 201 14 14 0 11 true,
 aU 6 201 6 0 11] [6])
 .ret))))))))),none,false⟩
def g250:aH:=⟨1,58,[.c 2 11 true,.c 3 2 true],
 (.seq
 (.ae [bG 2 ek,
 bG 3 [a0,a0]] [0,2,3])
 (.seq
 (.ae [aa 11 0,
 ba 12 11 (.aB 118),
 aa 10 12,
 aG 13 10 (.ext 0),
 aG 14 10 (.ext 1),
 bG 5 [a0,a0],
 aa 4 13,
 aU 5 14 5 0 2] [2,3,4,5])
 (.seq
 (.seq
 (.ae [aS 15 5 0,
 aM 16 15 5 0 1 false,
 bg 17 16 0 (.bin .neq)] [2,3,4,5,17])
 (.cond (.t 17)
 (.seq
 (.ae [a_ 18 [] (.build ek []),
 aM 19 5 5 0 2 true,
 aU 2 18 2 0 11,
 aU 3 19 3 0 2] [2,3])
 .ret)
 .skip))
 (.seq
 (.ae [aa 20 4,
 bD 21 [.t 20,k_ 0] (.aI 119 []),
 aa 6 21] [2,3,4,5,6])
 (.seq
 (.ae [aa 22 6,
 ba 23 22 (.aI 134 []),
 bG 7 ek,
 aU 7 23 7 0 11] [2,3,4,5,6,7])
 (.seq
 (.seq
 (.ae [aa 24 6,
 aG 25 24 .aY,
 aS 26 25 1,
 ba 27 26 (.aZ 1 false),
 aa 28 4,
 aG 29 28 .len,
 aV 30 27 29 (.bin .lss)] [2,3,5,6,7,30])
 (.cond (.t 30)
 (.ae [aa 31 6,
 ba 32 31 (.aI 139 [])] [2,3,5,6,7])
 .skip))
 (.seq
 (.seq
 (.ae [aa 33 6,
 aG 34 33 .aY,
 aS 35 34 2,
 ba 36 35 (.aZ 1 false)] [2,3,5,6,7,36])
 (.cond (.t 36)
 (.seq
 (.ae [a_ 37 [] (.build ek []),
 aa 38 6,
 aG 39 38 .aY,
 aS 40 39 3,
 ba 41 40 (.aZ 1 false),
 a_ 42 [k_ 3,.t 41] (.build [a0,a0] [(0,1),(1,1)]),
 aU 2 37 2 0 11,
 aU 3 42 3 0 2] [2,3])
 .ret)
 .skip))
 (.seq
 (.seq
 (.ae [aM 43 7 7 0 11 true,
 ba 44 43 (.aB 135)] [2,3,5,7,44])
 (.cond (.t 44)
 (.seq
 (.ae [a_ 45 [] (.build ek []),
 a_ 46 [k_ 4] (.build [a0,a0] [(0,1)]),
 aU 2 45 2 0 11,
 aU 3 46 3 0 2] [2,3])
 .ret)
 .skip))
 (.seq
 (.seq
 (.ae [aM 48 7 7 0 11 true,
 ba 49 48 (.aB 136),
 aa 47 49,
 aG 50 47 (.ext 0),
 aG 51 47 (.ext 1),
 aa 8 50,
 aa 9 51] [2,3,5,7,8,9])
 (.seq
 (.ae [aa 52 9] [2,3,5,7,8,52])
 (.cond (.t 52)
 (.seq
 (.ae [a_ 53 [] (.build ek []),
 aa 54 8,
 a_ 55 [k_ 5,.t 54] (.build [a0,a0] [(0,1),(1,1)]),
 aU 2 53 2 0 11,
 aU 3 55 3 0 2] [2,3])
 .ret)
 .skip)))
 (.seq
 (.ae [aM 56 7 7 0 11 true,
 aM 57 5 5 0 2 true,
 aU 2 56 2 0 11,
 aU 3 57 3 0 2] [2,3])
 .ret)))))))))),none,false⟩
def g306B0:aw:=
 (.seq
 (.seq
 (.ae [aa 24 9,
 aa 25 8,
 aV 26 24 25 (.bin .lss)] [4,5,6,7,8,9,26])
 (.cond (.t 26)
 .skip
 (.exit 0)))
 (.seq
 (.block 1
 (.seq
 (.ae [a_ 29 [.c (.pv (.str [112])),.c (.pv (.str [113])),.c (.pv (.str [114])),.c (.pv (.str [115]))] (.aT 1),
 aa 30 9,
 aV 31 29 30 (.aE 1),
 aG 32 31 (.aN 1 false),
 aa 33 5,
 bD 34 [.t 33,k_ 4] (.aI 68 []),
 bg 35 34 1 (.bin .eql),
 aV 36 32 35 (.build [a0,.bool false,dN,.bool false,a0,dN,a0,a0,bQ,a0,a0,dN,a0,bQ,bQ,a0,dN,a0,a0,bQ] [(2,1),(1,1)]),
 bG 10 [a0,.bool false,dN,.bool false,a0,dN,a0,a0,bQ,a0,a0,dN,a0,bQ,bQ,a0,dN,a0,a0,bQ],
 aU 10 36 10 0 20] [4,5,6,7,8,9,10])
 (.seq
 (.ae [aa 37 5,
 aS 38 6 0,
 aM 39 38 6 0 1 false,
 bD 40 [] (.aB 67),
 bD 41 [.t 37,.t 39,.t 40,k_ 2] (.aI 27 []),
 bG 11 ej,
 aU 11 41 11 0 5] [4,5,6,7,8,9,10,11])
 (.seq
 (.seq
 (.ae [aa 42 5,
 bD 43 [.t 42,k_ 3] (.aI 68 []),
 bg 44 43 0 (.bin .eql)] [4,5,6,7,8,9,10,11,44])
 (.cond (.t 44)
 (.ae [aa 45 5,
 aS 46 6 0,
 aM 47 46 6 0 1 false,
 bD 48 [.t 45,.t 47,.c (.bB []),k_ 2] (.aI 27 []),
 aU 11 48 11 0 5] [4,5,6,7,8,9,10,11])
 .skip))
 (.seq
 (.ae [aa 49 5,
 bD 50 [.t 49,k_ 2] (.aI 68 []),
 bg 51 50 0 (.bin .eql),
 aS 52 10 3,
 aU 52 51 10 3 1] [4,5,6,7,8,9,10,11])
 (.seq
 (.seq
 (.ae [aS 53 10 3,
 aM 54 53 10 3 1 false] [4,5,6,7,8,9,10,11,54])
 (.cond (.t 54)
 (.ae [aM 55 11 11 0 5 true,
 aS 56 10 4,
 aU 56 55 10 4 5] [4,5,6,7,8,9,10,11])
 .skip))
 (.seq
 (.ae [aa 57 7,
 aa 12 57] [4,5,6,7,8,9,10,11,12])
 (.seq
 (.seq
 (.ae [aS 58 10 1,
 aM 59 58 10 1 1 false] [4,5,6,7,8,9,10,11,12,59])
 (.cond (.t 59)
 (.ae [aa 60 7,
 aS 61 10 2,
 aM 62 61 10 2 1 false,
 aM 63 11 11 0 5 true,
 ba 64 63 (.aB 325),
 ba 65 64 (.aB 176),
 bD 66 [.t 60,.t 62,.t 65] (.aB 179),
 aa 12 66] [4,5,6,7,8,9,10,11,12])
 .skip))
 (.seq
 (.ae [aa 67 5,
 aS 68 6 0,
 aM 69 68 6 0 1 false,
 aa 70 12,
 aM 71 11 11 0 5 true,
 ba 72 71 (.aB 325),
 bD 73 [.t 67,.t 69,.t 70,.t 72,k_ 3] (.aI 326 []),
 aS 74 10 9,
 aU 74 73 10 9 11] [4,5,6,7,8,9,10,11])
 (.seq
 (.ae [aM 76 11 11 0 5 true,
 bD 77 [.t 76,k_ 98] (.aB 327),
 aa 75 77,
 aG 78 75 (.ext 0),
 aG 79 75 (.ext 1),
 bG 13 ej,
 bG 14 pL,
 aU 13 78 13 0 5,
 aU 14 79 14 0 6] [4,5,6,7,8,9,10,14])
 (.seq
 (.seq
 (.ae [aS 80 10 3,
 aM 81 80 10 3 1 false,
 aG 82 81 (.un .not),
 aa 83 82,
 aW 84 83 true 10 (.v (.bh 9)),
 aW 85 83 true 84 (.bj 10 9 11 true),
 cJ 86 83 true [.t 85,k_ 10] (.aB 307),
 aW 87 83 true 86 (.v (.mv)),
 aW 88 87 false 10 (.v (.bh 9)),
 aW 89 87 false 88 (.bj 10 9 11 true),
 cJ 90 87 false [.t 89,k_ 11] (.aB 307),
 cJ 91 83 true [.t 87,T_,.t 90] (.v (.pick)),
 a_ 92 [.t 83,.t 91,F_] .pick] [4,5,6,7,8,9,10,14,92])
 (.cond (.t 92)
 (.ae [bD 93 [] (.aB 34),
 ba 94 93 (.aB 176),
 aU 14 94 14 0 6] [4,5,6,7,8,9,10,14])
 .skip))
 (.seq
 (.ae [aa 95 7,
 aS 96 10 2,
 aM 97 96 10 2 1 false,
 aM 98 14 14 0 6 true,
 bD 99 [.t 95,.t 97,.t 98] (.aB 179),
 aa 7 99] [4,5,6,7,8,9,10])
 (.ae [aS 100 6 1,
 aM 101 100 6 1 1 false,
 aM 102 10 10 0 20 true,
 aG 103 102 (.aT 20),
 bK 104 101 103 (.c_ 20 256 true),
 aS 105 6 1,
 aU 105 104 6 1 1] [4,5,6,7,8,9])))))))))))))
 (.ae [aa 27 9,
 bg 28 27 1 (.bin .add),
 aa 9 28] [4,5,6,7,8,9])))
def g306L0:aw:=.loop [4,5,6,7,8,9] g306B0
theorem g306L0e: cl AP g306L0 st=after (cl AP g306L0) (cl AP g306B0 (norm (restrict [4,5,6,7,8,9] st))):=aF
def g306:aH:=⟨2,107,[.c 4 2 true],
 (.seq
 (.ae [bG 4 [bQ,bQ]] [0,1,4])
 (.seq
 (.ae [aa 15 1,
 aG 16 15 (.build [bQ,a0] [(0,1)]),
 ba 17 16 (.lS 2),
 aa 5 17] [0,4,5])
 (.seq
 (.ae [aa 18 0,
 ba 19 18 (.aB 32),
 aG 20 19 (.build [bQ,bQ] [(0,1)]),
 bG 6 [bQ,bQ],
 aU 6 20 6 0 2] [4,5,6])
 (.seq
 (.ae [a_ 7 [.c (.bB [])] .mv] [4,5,6,7])
 (.seq
 (.ae [aa 21 5,
 bD 22 [.t 21,k_ 4] (.aI 68 []),
 a_ 23 [k_ 1,.t 22] (.bin .add),
 aa 8 23] [4,5,6,7,8])
 (.seq
 (.seq
 (.ae [a8 9 (k_ 0)] [4,5,6,7,8,9])
 (.block 0
 g306L0))
 (.seq
 (.ae [aM 106 6 6 0 2 true,
 aU 4 106 4 0 2] [4])
 .ret))))))),none,true⟩
def g307B0:aw:=
 (.seq
 (.seq
 (.ae [aa 13 6,
 aa 14 5,
 aG 15 14 .len,
 aV 16 13 15 (.bin .lss)] [1,5,6,16])
 (.cond (.t 16)
 .skip
 (.exit 0)))
 (.seq
 (.block 1
 (.seq
 (.ae [aa 19 5,
 aa 20 6,
 aV 21 19 20 (.aE 11),
 aG 22 21 (.aN 11 true),
 aa 23 1,
 bK 24 22 23 (.aB 307)] [1,5,6,24])
 (.cond (.t 24)
 (.seq
 (.ae [a8 4 T_] [4])
 .ret)
 .skip)))
 (.ae [aa 17 6,
 bg 18 17 1 (.bin .add),
 aa 6 18] [1,5,6])))
def g307L0:aw:=.loop [1,5,6] g307B0
theorem g307L0e: cl AP g307L0 st=after (cl AP g307L0) (cl AP g307B0 (norm (restrict [1,5,6] st))):=aF
def g307:aH:=⟨2,25,[.t 4],
 (.seq
 (.ae [ba 2 0 (.box 2 11),
 a8 4 F_] [1,2])
 (.seq
 (.seq
 (.ae [aS 7 2 0,
 aM 8 7 2 0 1 false,
 aa 9 1,
 aV 10 8 9 (.bin .eql)] [1,2,10])
 (.cond (.t 10)
 (.seq
 (.ae [a8 4 T_] [4])
 .ret)
 .skip))
 (.seq
 (.ae [aM 11 2 2 0 11 true,
 ba 12 11 (.aB 145),
 aa 5 12] [1,5])
 (.seq
 (.seq
 (.ae [a8 6 (k_ 0)] [1,5,6])
 (.block 0
 g307L0))
 (.seq
 (.ae [a8 4 F_] [4])
 .ret))))),none,false⟩
def g310:aH:=⟨3,24,[.c 6 2 true],
 (.seq
 (.ae [bG 6 [bQ,bQ]] [0,1,2,6])
 (.seq
 (.ae [aa 9 0,
 aa 10 1,
 bK 11 9 10 (.aI 306 []),
 bG 7 [bQ,bQ],
 aU 7 11 7 0 2] [1,2,6,7])
 (.seq
 (.seq
 (.ae [aa 12 2,
 bD 13 [.t 12,k_ 3] (.aB 26),
 bg 14 13 1 (.bin .eql)] [1,6,7,14])
 (.cond (.t 14)
 (.seq
 (.ae [aa 15 1,
 aG 16 15 .len,
 bg 17 16 3 .mn,
 aa 8 17] [1,6,7,8])
 (.ae [aM 18 7 7 0 2 true,
 aa 19 1,
 aa 20 8,
 aV 21 19 20 (.slice false 1 true false false),
 bK 22 18 21 (.aI 335 []),
 aU 7 22 7 0 2] [6,7]))
 .skip))
 (.seq
 (.ae [aM 23 7 7 0 2 true,
 aU 6 23 6 0 2] [6])
 .ret)))),none,true⟩
def g325:aH:=⟨1,11,[.c 2 5 true],
 (.seq
 (.ae [ba 1 0 (.box 1 5),
 bG 2 ej] [1,2])
 (.seq
 (.ae [aM 6 1 1 0 5 true,
 bD 7 [.t 6,k_ 98] (.aB 327),
 aa 5 7,
 aG 8 5 (.ext 0),
 aG 9 5 (.ext 1),
 bG 3 ej,
 bG 4 pL,
 aU 3 8 3 0 5,
 aU 4 9 4 0 6] [2,3])
 (.seq
 (.ae [aM 10 3 3 0 5 true,
 aU 2 10 2 0 5] [2])
 .ret))),none,false⟩
def g326:aH:=⟨5,144,[.c 10 11 true],
 (.seq
 (.ae [ba 8 3 (.box 8 5),
 bG 10 ek] [0,1,2,4,8,10])
 (.seq
 (.seq
 (.ae [aa 18 4,
 bg 19 18 1 (.bin .lss),
 aa 20 19,
 aW 21 20 false 0 (.v (.mv)),
 cJ 22 20 false [.t 21,k_ 9] (.aI 68 []),
 cJ 23 20 false [.t 22,k_ 0] (.v (.bin .eql)),
 a_ 24 [.t 20,T_,.t 23] .pick] [0,1,2,4,8,10,24])
 (.cond (.t 24)
 (.seq
 (.ae [aa 25 0,
 aa 26 1,
 aa 27 2,
 aM 28 8 8 0 5 true,
 bD 29 [.t 25,.t 26,.t 27,.t 28] (.aI 348 []),
 aU 10 29 10 0 11] [10])
 .ret)
 .skip))
 (.seq
 (.ae [aM 31 8 8 0 5 true,
 ba 32 31 (.aB 194),
 aa 30 32,
 aG 33 30 (.ext 0),
 aG 34 30 (.ext 1),
 aG 35 30 (.ext 2),
 bG 11 ej,
 bG 12 ej,
 aU 11 33 11 0 5,
 aU 12 34 12 0 5,
 aa 13 35] [0,1,2,4,8,10,11,12,13])
 (.seq
 (.ae [aa 36 0,
 bD 37 [.t 36,k_ 10] (.aI 68 []),
 aa 14 37] [0,1,2,4,8,10,11,12,13,14])
 (.seq
 (.block 0
 (.seq
 (.ae [aa 39 13,
 aa 40 39,
 aW 41 40 true 14 (.v (.mv)),
 cJ 42 40 true [.t 41,k_ 7] (.v (.bin .lss)),
 a_ 43 [.t 40,.t 42,F_] .pick,
 aa 38 43] [0,1,2,4,8,10,11,12,14,38])
 (.cond (.t 38)
 (.seq
 (.ae [aa 44 0,
 ba 45 44 (.aI 175 []),
 aa 15 45] [0,1,2,4,10,11,12,15])
 (.seq
 (.ae [aa 46 15,
 aa 47 0,
 aa 48 1,
 aa 49 2,
 aa 50 15,
 aM 51 11 11 0 5 true,
 ba 52 51 (.aB 176),
 bD 53 [.t 49,.t 50,.t 52] (.dW 179),
 aM 54 12 12 0 5 true,
 aa 55 4,
 bg 56 55 1 (.bin .sub),
 bD 57 [.t 47,.t 48,.t 53,.t 54,.t 56] (.aI 326 []),
 aG 58 57 (.aT 11),
 a_ 59 [k_ 4,.t 46,.t 58] (.build ek [(0,1),(2,1),(4,1)]),
 aU 10 59 10 0 11] [10])
 .ret))
 (.seq
 (.ae [aa 61 14,
 bg 62 61 2 (.bin .lss),
 aa 60 62] [0,1,2,4,8,10,14,60])
 (.cond (.t 60)
 (.seq
 (.ae [aa 63 0,
 aa 64 1,
 bD 65 [.t 63,.t 64,.c (.bB []),k_ 1] (.aI 27 []),
 bG 16 ej,
 aU 16 65 16 0 5] [0,1,2,4,8,10,16])
 (.seq
 (.ae [aa 66 0,
 aa 67 1,
 aa 68 2,
 aM 69 16 16 0 5 true,
 aM 70 8 8 0 5 true,
 bK 71 69 70 (.aB 69),
 aa 72 4,
 bg 73 72 1 (.bin .sub),
 bD 74 [.t 66,.t 67,.t 68,.t 71,.t 73] (.aI 326 []),
 bG 17 ek,
 aU 17 74 17 0 11] [0,1,2,4,10,16,17])
 (.seq
 (.ae [aM 75 17 17 0 11 true,
 aa 76 0,
 aa 77 1,
 aa 78 2,
 aM 79 16 16 0 5 true,
 aa 80 4,
 bg 81 80 1 (.bin .sub),
 bD 82 [.t 76,.t 77,.t 78,.t 79,.t 81] (.aI 326 []),
 aV 83 75 82 (.aT 11),
 a_ 84 [k_ 5,.t 83] (.build ek [(0,1),(4,1)]),
 aU 10 84 10 0 11] [10])
 .ret)))
 (.seq
 (.ae [aa 86 14,
 bg 87 86 2 (.bin .eql),
 aa 85 87] [0,1,2,4,8,10,14,85])
 (.cond (.t 85)
 (.seq
 (.ae [aa 88 0,
 aa 89 1,
 aa 90 2,
 aM 91 8 8 0 5 true,
 aa 92 4,
 bD 93 [.t 88,.t 89,.t 90,.t 91,.t 92] (.aI 349 []),
 aU 10 93 10 0 11] [10])
 .ret)
 (.seq
 (.ae [aa 95 14,
 bg 96 95 3 (.bin .eql),
 aa 94 96] [0,1,2,4,8,10,14,94])
 (.cond (.t 94)
 (.seq
 (.ae [aa 97 0,
 aa 98 1,
 aa 99 2,
 aM 100 8 8 0 5 true,
 aa 101 4,
 bD 102 [.t 97,.t 98,.t 99,.t 100,.t 101] (.aI 350 []),
 aU 10 102 10 0 11] [10])
 .ret)
 (.seq
 (.ae [aa 104 14,
 bg 105 104 4 (.bin .eql),
 aa 106 105,
 aW 107 106 true 8 (.bj 8 0 5 true),
 cJ 108 106 true [.t 107,k_ 3] (.aB 351),
 aW 109 106 true 108 (.v (.un .not)),
 a_ 110 [.t 106,.t 109,F_] .pick,
 aa 111 110,
 aW 112 111 true 8 (.bj 8 0 5 true),
 cJ 113 111 true [.t 112,k_ 1] (.aB 351),
 aW 114 111 true 113 (.v (.un .not)),
 a_ 115 [.t 111,.t 114,F_] .pick,
 aa 103 115] [0,1,2,4,8,10,14,103])
 (.cond (.t 103)
 (.seq
 (.ae [aa 116 0,
 aa 117 1,
 aa 118 2,
 aM 119 8 8 0 5 true,
 aa 120 4,
 bg 121 120 1 (.bin .sub),
 bD 122 [.t 116,.t 117,.t 118,.t 119,.t 121] (.aI 326 []),
 aG 123 122 (.aT 11),
 aM 124 8 8 0 5 true,
 a_ 125 [k_ 9,.t 123,.t 124] (.build ek [(0,1),(4,1),(6,5)]),
 aU 10 125 10 0 11] [10])
 .ret)
 (.seq
 (.ae [aa 127 14,
 bg 128 127 5 (.bin .eql),
 aa 126 128] [0,1,2,4,8,10,126])
 (.cond (.t 126)
 (.seq
 (.ae [aa 129 0,
 aa 130 1,
 aa 131 2,
 aM 132 8 8 0 5 true,
 aa 133 4,
 bg 134 133 1 (.bin .sub),
 bD 135 [.t 129,.t 130,.t 131,.t 132,.t 134] (.aI 326 []),
 aG 136 135 (.aT 11),
 a_ 137 [k_ 11,.t 136] (.build ek [(0,1),(4,1)]),
 aU 10 137 10 0 11] [10])
 .ret)
 .skip)))))))))))))
 (.seq
 (.ae [aa 138 0,
 aa 139 1,
 aa 140 2,
 aM 141 8 8 0 5 true,
 aa 142 4,
 bD 143 [.t 138,.t 139,.t 140,.t 141,.t 142] (.aI 352 []),
 aU 10 143 10 0 11] [10])
 .ret)))))),none,false⟩
def g327B0:aw:=
 (.seq
 (.seq
 (.ae [aa 15 9,
 aa 16 6,
 aG 17 16 .len,
 aV 18 15 17 (.bin .lss)] [1,4,5,6,7,8,9,18])
 (.cond (.t 18)
 .skip
 (.exit 0)))
 (.seq
 (.block 1
 (.ae [aa 21 8,
 aa 22 1,
 aa 23 9,
 bK 24 22 23 (.aB 71),
 aG 25 24 (.aT 5),
 bK 26 21 25 (.append 5 64),
 aa 8 26] [1,4,5,6,7,8,9]))
 (.ae [aa 19 9,
 bg 20 19 1 (.bin .add),
 aa 9 20] [1,4,5,6,7,8,9])))
def g327L0:aw:=.loop [1,4,5,6,7,8,9] g327B0
theorem g327L0e: cl AP g327L0 st=after (cl AP g327L0) (cl AP g327B0 (norm (restrict [1,4,5,6,7,8,9] st))):=aF
def g327:aH:=⟨2,34,[.c 4 5 true,.c 5 6 true],
 (.seq
 (.ae [ba 2 0 (.box 2 5),
 bG 4 ej,
 bG 5 pL] [1,2,4,5])
 (.seq
 (.ae [aM 10 2 2 0 5 true,
 ba 11 10 (.aB 196),
 aa 6 11] [1,2,4,5,6])
 (.seq
 (.ae [aM 12 2 2 0 5 true,
 aa 13 6,
 bK 14 12 13 (.aB 198),
 bG 7 ej,
 aU 7 14 7 0 5] [1,4,5,6,7])
 (.seq
 (.ae [a_ 8 [.c (.bB [])] .mv] [1,4,5,6,7,8])
 (.seq
 (.seq
 (.ae [a8 9 (k_ 0)] [1,4,5,6,7,8,9])
 (.block 0
 g327L0))
 (.seq
 (.ae [aM 27 7 7 0 5 true,
 aa 28 8,
 bK 29 27 28 (.aB 48),
 aa 30 6,
 aG 31 30 .len,
 aM 32 7 7 0 5 true,
 aV 33 31 32 (.build pL [(0,1),(1,5)]),
 aU 4 29 4 0 5,
 aU 5 33 5 0 6] [4,5])
 .ret)))))),none,false⟩
def g335B0:aw:=
 (.seq
 (.seq
 (.ae [aa 38 9,
 bg 39 38 0 (.bin .gtr)] [2,4,5,6,7,8,9,39])
 (.cond (.t 39)
 .skip
 (.exit 0)))
 (.seq
 (.block 1
 (.seq
 (.ae [aM 42 8 8 0 11 true,
 ba 43 42 (.aB 145),
 aa 10 43] [2,4,5,6,7,8,9,10])
 (.seq
 (.seq
 (.ae [aa 44 10,
 aG 45 44 .len,
 bg 46 45 0 (.bin .eql)] [2,4,5,6,7,8,9,10,46])
 (.cond (.t 46)
 (.exit 0)
 .skip))
 (.seq
 (.ae [aa 47 5,
 aa 48 10,
 aG 49 48 .len,
 bK 50 47 49 (.aI 68 []),
 aa 11 50] [2,4,5,6,7,8,9,10,11])
 (.ae [aa 51 7,
 aa 52 11,
 aG 53 52 (.aT 1),
 bK 54 51 53 (.append 1 8),
 aa 55 10,
 aa 56 11,
 aV 57 55 56 (.aE 11),
 aG 58 57 (.aN 11 true),
 aa 7 54,
 aU 8 58 8 0 11] [2,4,5,6,7,8,9])))))
 (.ae [aa 40 9,
 bg 41 40 1 (.bin .sub),
 aa 9 41] [2,4,5,6,7,8,9])))
def g335L0:aw:=.loop [2,4,5,6,7,8,9] g335B0
theorem g335L0e: cl AP g335L0 st=after (cl AP g335L0) (cl AP g335B0 (norm (restrict [2,4,5,6,7,8,9] st))):=aF
def g335:aH:=⟨2,85,[.c 4 2 true],
 (.seq
 (.ae [ba 2 0 (.box 2 2),
 bG 4 [bQ,bQ]] [1,2,4])
 (.seq
 (.ae [aa 13 1,
 aG 14 13 (.build [bQ,a0] [(0,1)]),
 ba 15 14 (.lS 2),
 aa 5 15] [2,4,5])
 (.seq
 (.seq
 (.ae [aS 16 2 1,
 aM 17 16 2 1 1 false,
 aG 18 17 .len,
 bg 19 18 0 (.bin .eql),
 aa 20 19,
 aW 21 20 false 5 (.v (.mv)),
 aW 22 20 false 21 (.aI 162 []),
 a_ 23 [.t 20,T_,.t 22] .pick] [2,4,5,23])
 (.cond (.t 23)
 (.seq
 (.ae [aM 24 2 2 0 2 true,
 aU 4 24 4 0 2] [4])
 .ret)
 .skip))
 (.seq
 (.ae [aa 25 5,
 aS 26 2 1,
 aM 27 26 2 1 1 false,
 aG 28 27 .len,
 bK 29 25 28 (.aI 68 []),
 aa 6 29] [2,4,5,6])
 (.seq
 (.ae [a_ 7 [.c (.bB [])] .mv] [2,4,5,6,7])
 (.seq
 (.ae [aS 30 2 1,
 aM 31 30 2 1 1 false,
 aa 32 6,
 aV 33 31 32 (.aE 20),
 aS 34 33 9,
 ba 35 34 (.aZ 11 true),
 bG 8 ek,
 aU 8 35 8 0 11] [2,4,5,6,7,8])
 (.seq
 (.seq
 (.ae [aa 36 5,
 bD 37 [.t 36,k_ 5] (.aI 68 []),
 aa 9 37] [2,4,5,6,7,8,9])
 (.block 0
 g335L0))
 (.seq
 (.ae [aM 59 2 2 0 2 true,
 bG 12 [bQ,bQ],
 aU 12 59 12 0 2] [2,4,5,6,7,12])
 (.seq
 (.seq
 (.de [2])
 (.ae [aS 60 2 1,
 aM 61 60 2 1 1 false,
 bD 62 [.c (.bB []),.t 61] (.c_ 20 256 true),
 aS 63 12 1,
 aU 63 62 12 1 1] [2,4,5,6,7,12]))
 (.seq
 (.ae [aS 65 12 1,
 aM 66 65 12 1 1 false,
 aa 67 6,
 aS 68 2 1,
 aM 69 68 2 1 1 false,
 aa 70 6,
 aV 71 69 70 (.aE 20),
 aS 72 71 9,
 aG 73 72 (.aN 11 true),
 aa 74 7,
 aa 75 5,
 aS 76 2 0,
 aM 77 76 2 0 1 false,
 bD 78 [.t 75,.t 77,k_ 2] (.aI 247 []),
 bD 79 [.t 73,.t 74,.t 78] (.aB 359),
 aa 64 79,
 aG 80 64 (.ext 0),
 aG 81 64 (.ext 1),
 aV 82 66 67 (.aE 20),
 aS 83 82 9,
 lP [.t 83,.t 80] (.cU 11)] [4,12])
 (.seq
 (.ae [aM 84 12 12 0 2 true,
 aU 4 84 4 0 2] [4])
 .ret))))))))))),none,true⟩
def g348B0:aw:=
 (.seq
 (.seq
 (.ae [aa 16 11,
 aa 17 10,
 aG 18 17 .len,
 aV 19 16 18 (.bin .lss)] [0,7,8,9,10,11,19])
 (.cond (.t 19)
 .skip
 (.exit 0)))
 (.seq
 (.block 1
 (.seq
 (.ae [aa 23 10,
 aa 24 11,
 aV 25 23 24 (.aE 7),
 aS 26 25 1,
 aG 27 26 (.aN 6 true),
 aM 28 7 7 0 5 true,
 bK 29 27 28 (.aB 238),
 aa 22 29,
 aG 30 22 (.ext 0),
 aG 31 22 (.ext 1),
 aa 12 30,
 aa 13 31] [0,7,8,9,10,11,13])
 (.seq
 (.ae [aa 32 13] [0,7,8,9,10,11,32])
 (.cond (.t 32)
 (.ae [aa 33 9,
 aa 34 10,
 aa 35 11,
 aV 36 34 35 (.aE 7),
 aS 37 36 0,
 aG 38 37 (.aN 1 false),
 aG 39 38 (.aT 1),
 bK 40 33 39 (.append 1 16),
 aa 9 40] [0,7,8,9,10,11])
 .skip))))
 (.ae [aa 20 11,
 bg 21 20 1 (.bin .add),
 aa 11 21] [0,7,8,9,10,11])))
def g348L0:aw:=.loop [0,7,8,9,10,11] g348B0
theorem g348L0e: cl AP g348L0 st=after (cl AP g348L0) (cl AP g348B0 (norm (restrict [0,7,8,9,10,11] st))):=aF
def g348:aH:=⟨4,69,[.c 8 11 true],
 (.seq
 (.ae [ba 7 3 (.box 7 5),
 bG 8 ek] [0,2,7,8])
 (.seq
 (.ae [a_ 9 [.c (.bB [])] .mv] [0,2,7,8,9])
 (.seq
 (.ae [aa 14 2,
 ba 15 14 (.dW 201),
 aa 10 15] [0,7,8,9,10])
 (.seq
 (.seq
 (.ae [a8 11 (k_ 0)] [0,7,8,9,10,11])
 (.block 0
 g348L0))
 (.seq
 (.seq
 (.ae [aa 41 9,
 aG 42 41 .len,
 bg 43 42 0 (.bin .gtr),
 aa 44 43,
 aW 45 44 true 0 (.v (.mv)),
 cJ 46 44 true [.t 45,k_ 6] (.aI 68 []),
 cJ 47 44 true [.t 46,k_ 0] (.v (.bin .gtr)),
 a_ 48 [.t 44,.t 47,F_] .pick] [0,7,8,9,48])
 (.cond (.t 48)
 (.seq
 (.ae [aa 49 9,
 aa 50 0,
 aa 51 9,
 aG 52 51 .len,
 bK 53 50 52 (.aI 68 []),
 aV 54 49 53 (.aE 1),
 aG 55 54 (.aN 1 false),
 a_ 56 [k_ 1,.t 55] (.build ek [(0,1),(2,1)]),
 aU 8 56 8 0 11] [8])
 .ret)
 .skip))
 (.seq
 (.seq
 (.ae [aM 57 7 7 0 5 true,
 bD 58 [] (.aB 34),
 bK 59 57 58 (.aB 20),
 aa 60 59,
 aW 61 60 true 0 (.v (.mv)),
 cJ 62 60 true [.t 61,k_ 4] (.aI 68 []),
 cJ 63 60 true [.t 62,k_ 0] (.v (.bin .gtr)),
 a_ 64 [.t 60,.t 63,F_] .pick] [0,8,64])
 (.cond (.t 64)
 (.seq
 (.ae [aa 65 0,
 bD 66 [.t 65,k_ 3] (.aI 68 []),
 a_ 67 [k_ 3,.t 66] (.build ek [(0,1),(3,1)]),
 aU 8 67 8 0 11] [8])
 .ret)
 .skip))
 (.seq
 (.ae [a_ 68 [k_ 10] (.build ek [(0,1)]),
 aU 8 68 8 0 11] [8])
 .ret))))))),none,false⟩
def g349:aH:=⟨5,76,[.c 10 11 true],
 (.seq
 (.ae [ba 8 3 (.box 8 5),
 bG 10 ek] [0,1,2,4,8,10])
 (.seq
 (.ae [aa 19 0,
 bD 20 [.t 19,k_ 2] (.aI 68 []),
 a_ 21 [k_ 6,.t 20] (.bin .add),
 aa 22 0,
 ba 23 22 (.aI 175 []),
 aa 11 21,
 aa 12 23] [0,1,2,4,8,10,11,12])
 (.seq
 (.ae [aa 24 0,
 bD 25 [.t 24,k_ 2] (.aI 68 []),
 bg 26 25 0 (.bin .eql),
 aa 13 26] [0,1,2,4,8,10,11,12,13])
 (.seq
 (.ae [a_ 27 [] (.aT 5),
 aa 14 27] [0,1,2,4,8,10,11,12,13,14])
 (.seq
 (.seq
 (.ae [aa 28 13] [0,1,2,4,8,10,11,12,14,28])
 (.cond (.t 28)
 (.ae [bD 29 [k_ 99,k_ 0] (.aB 71),
 bD 30 [k_ 99,k_ 1] (.aB 71),
 aV 31 29 30 (.aT 5),
 aa 14 31] [0,1,2,4,8,10,11,12,14])
 .skip))
 (.seq
 (.ae [aa 32 0,
 aa 33 1,
 aa 34 14,
 bD 35 [.t 32,.t 33,.t 34,k_ 2] (.aI 27 []),
 bG 15 ej,
 aU 15 35 15 0 5] [0,1,2,4,8,10,11,12,15])
 (.seq
 (.ae [aa 36 2,
 aa 16 36] [0,1,2,4,8,10,11,12,15,16])
 (.seq
 (.seq
 (.ae [aa 37 11,
 bg 38 37 7 (.bin .eql)] [0,1,2,4,8,10,11,12,15,16,38])
 (.cond (.t 38)
 (.ae [aa 39 2,
 aa 40 12,
 aM 41 15 15 0 5 true,
 ba 42 41 (.aB 176),
 bD 43 [.t 39,.t 40,.t 42] (.dW 179),
 aa 16 43] [0,1,2,4,8,10,11,12,15,16])
 .skip))
 (.seq
 (.ae [aa 44 0,
 aa 45 1,
 aa 46 16,
 aM 47 15 15 0 5 true,
 aa 48 4,
 bg 49 48 1 (.bin .sub),
 bD 50 [.t 44,.t 45,.t 46,.t 47,.t 49] (.aI 326 []),
 bG 17 ek,
 aU 17 50 17 0 11] [0,1,2,4,8,10,11,12,15,17])
 (.seq
 (.ae [aM 51 15 15 0 5 true,
 ba 52 51 (.aB 361),
 bG 18 pL,
 aU 18 52 18 0 6] [0,1,2,4,8,10,11,12,17,18])
 (.seq
 (.seq
 (.ae [aM 53 17 17 0 11 true,
 bD 54 [.t 53,k_ 10] (.aB 307),
 aa 55 54,
 aW 56 55 false 17 (.bj 17 0 11 true),
 cJ 57 55 false [.t 56,k_ 11] (.aB 307),
 a_ 58 [.t 55,T_,.t 57] .pick] [0,1,2,4,8,10,11,12,17,18,58])
 (.cond (.t 58)
 (.ae [bD 59 [] (.aB 34),
 ba 60 59 (.aB 176),
 aU 18 60 18 0 6] [0,1,2,4,8,10,11,12,17,18])
 .skip))
 (.seq
 (.ae [aa 61 11,
 aa 62 12,
 aM 63 17 17 0 11 true,
 aa 64 0,
 aa 65 1,
 aa 66 2,
 aa 67 12,
 aM 68 18 18 0 6 true,
 bD 69 [.t 66,.t 67,.t 68] (.dW 179),
 aM 70 8 8 0 5 true,
 aa 71 4,
 bg 72 71 1 (.bin .sub),
 bD 73 [.t 64,.t 65,.t 69,.t 70,.t 72] (.aI 326 []),
 aV 74 63 73 (.aT 11),
 a_ 75 [.t 61,.t 62,.t 74] (.build ek [(0,1),(2,1),(4,1)]),
 aU 10 75 10 0 11] [10])
 .ret)))))))))))),none,false⟩
def g350B0:aw:=
 (.seq
 (.seq
 (.ae [aa 37 13,
 aS 38 11 2,
 aM 39 38 11 2 1 false,
 aG 40 39 .len,
 aV 41 37 40 (.bin .lss)] [0,1,2,4,8,10,11,12,13,41])
 (.cond (.t 41)
 .skip
 (.exit 0)))
 (.seq
 (.block 1
 (.ae [aa 44 12,
 aa 45 0,
 aa 46 1,
 bD 47 [.t 45,.t 46,.c (.bB []),k_ 1] (.aI 27 []),
 aG 48 47 (.aT 5),
 bK 49 44 48 (.append 5 64),
 aa 12 49] [0,1,2,4,8,10,11,12,13]))
 (.ae [aa 42 13,
 bg 43 42 1 (.bin .add),
 aa 13 43] [0,1,2,4,8,10,11,12,13])))
def g350L0:aw:=.loop [0,1,2,4,8,10,11,12,13] g350B0
theorem g350L0e: cl AP g350L0 st=after (cl AP g350L0) (cl AP g350B0 (norm (restrict [0,1,2,4,8,10,11,12,13] st))):=aF
def g350B2:aw:=
 (.seq
 (.seq
 (.ae [aa 89 20,
 aa 90 16,
 aG 91 90 .len,
 aV 92 89 91 (.bin .lss)] [0,1,2,4,8,10,11,12,14,15,16,18,19,20,92])
 (.cond (.t 92)
 .skip
 (.exit 4)))
 (.seq
 (.block 5
 (.seq
 (.ae [a_ 95 [.c (.pv (.str [120])),.c (.pv (.str [121])),.c (.pv (.str [122])),.c (.pv (.str [119]))] (.aT 1),
 aa 96 20,
 bg 97 96 4 (.bin .rem),
 aV 98 95 97 (.aE 1),
 aG 99 98 (.aN 1 false),
 aa 21 99] [0,1,2,4,8,10,11,12,14,15,16,18,19,20,21])
 (.seq
 (.ae [aS 100 18 2,
 aM 101 100 18 2 1 false,
 aa 102 21,
 aG 103 102 (.aT 1),
 bK 104 101 103 (.append 1 16),
 aS 105 18 2,
 aU 105 104 18 2 1] [0,1,2,4,8,10,11,12,14,15,16,18,19,20,21])
 (.ae [aa 106 19,
 aa 107 21,
 aa 108 16,
 aa 109 20,
 aV 110 108 109 (.aE 5),
 aG 111 110 (.aN 5 true),
 ba 112 111 (.aB 176),
 bD 113 [.t 106,.t 107,.t 112] (.dW 179),
 aa 19 113] [0,1,2,4,8,10,11,12,14,15,16,18,19,20]))))
 (.ae [aa 93 20,
 bg 94 93 1 (.bin .add),
 aa 20 94] [0,1,2,4,8,10,11,12,14,15,16,18,19,20])))
def g350L2:aw:=.loop [0,1,2,4,8,10,11,12,14,15,16,18,19,20] g350B2
theorem g350L2e: cl AP g350L2 st=after (cl AP g350L2) (cl AP g350B2 (norm (restrict [0,1,2,4,8,10,11,12,14,15,16,18,19,20] st))):=aF
def g350B1:aw:=
 (.seq
 (.seq
 (.ae [aa 62 15,
 aS 63 11 3,
 aM 64 63 11 3 1 false,
 aG 65 64 .len,
 aV 66 62 65 (.bin .lss)] [0,1,2,4,8,10,11,12,14,15,66])
 (.cond (.t 66)
 .skip
 (.exit 2)))
 (.seq
 (.block 3
 (.seq
 (.ae [aa 70 1,
 aS 71 11 3,
 aM 72 71 11 3 1 false,
 aa 73 15,
 aV 74 72 73 (.aE 3),
 aS 75 74 1,
 aG 76 75 (.aN 1 false),
 aa 77 12,
 bD 78 [.t 70,.t 76,.t 77] (.dW 207),
 aa 69 78,
 aG 79 69 (.ext 0),
 aG 80 69 (.ext 1),
 aa 16 79,
 aa 17 80] [0,1,2,4,8,10,11,12,14,15,16])
 (.seq
 (.ae [aS 81 11 3,
 aM 82 81 11 3 1 false,
 aa 83 15,
 aV 84 82 83 (.aE 3),
 aS 85 84 1,
 aG 86 85 (.aN 1 false),
 aG 87 86 (.build [a0,dN,bQ,a0,a0,dN,a0,bQ,bQ,a0,dN,a0,a0,bQ] [(1,1)]),
 bG 18 [a0,dN,bQ,a0,a0,dN,a0,bQ,bQ,a0,dN,a0,a0,bQ],
 aU 18 87 18 0 14] [0,1,2,4,8,10,11,12,14,15,16,18])
 (.seq
 (.ae [aa 88 2,
 aa 19 88] [0,1,2,4,8,10,11,12,14,15,16,18,19])
 (.seq
 (.seq
 (.ae [a8 20 (k_ 0)] [0,1,2,4,8,10,11,12,14,15,16,18,19,20])
 (.block 4
 g350L2))
 (.seq
 (.ae [aa 114 0,
 aa 115 1,
 aa 116 19,
 aM 117 8 8 0 5 true,
 aa 118 4,
 bg 119 118 1 (.bin .sub),
 bD 120 [.t 114,.t 115,.t 116,.t 117,.t 119] (.aI 326 []),
 aS 121 18 3,
 aU 121 120 18 3 11] [0,1,2,4,8,10,11,12,14,15,18])
 (.ae [aS 122 14 5,
 aM 123 122 14 5 1 false,
 aM 124 18 18 0 14 true,
 aG 125 124 (.aT 14),
 bK 126 123 125 (.append 14 200),
 aS 127 14 5,
 aU 127 126 14 5 1] [0,1,2,4,8,10,11,12,14,15])))))))
 (.ae [aa 67 15,
 bg 68 67 1 (.bin .add),
 aa 15 68] [0,1,2,4,8,10,11,12,14,15])))
def g350L1:aw:=.loop [0,1,2,4,8,10,11,12,14,15] g350B1
theorem g350L1e: cl AP g350L1 st=after (cl AP g350L1) (cl AP g350B1 (norm (restrict [0,1,2,4,8,10,11,12,14,15] st))):=aF
def g350:aH:=⟨5,129,[.c 10 11 true],
 (.seq
 (.ae [ba 8 3 (.box 8 5),
 bG 10 ek] [0,1,2,4,8,10])
 (.seq
 (.seq
 (.ae [aa 22 1,
 aG 23 22 .len,
 bg 24 23 0 (.bin .eql)] [0,1,2,4,8,10,24])
 (.cond (.t 24)
 (.seq
 (.ae [aa 25 0,
 aa 26 1,
 aa 27 2,
 aM 28 8 8 0 5 true,
 bD 29 [.t 25,.t 26,.t 27,.t 28] (.aI 348 []),
 aU 10 29 10 0 11] [10])
 .ret)
 .skip))
 (.seq
 (.ae [aa 30 1,
 aa 31 0,
 aa 32 1,
 aG 33 32 .len,
 bK 34 31 33 (.aI 68 []),
 aV 35 30 34 (.aE 4),
 ba 36 35 (.aZ 4 true),
 bG 11 FF,
 aU 11 36 11 0 4] [0,1,2,4,8,10,11])
 (.seq
 (.ae [a_ 12 [.c (.bB [])] .mv] [0,1,2,4,8,10,11,12])
 (.seq
 (.seq
 (.ae [a8 13 (k_ 0)] [0,1,2,4,8,10,11,12,13])
 (.block 0
 g350L0))
 (.seq
 (.ae [aa 50 0,
 aa 51 1,
 aa 52 2,
 aS 53 11 1,
 aM 54 53 11 1 1 false,
 aa 55 12,
 bK 56 54 55 (.aB 62),
 aa 57 4,
 bg 58 57 1 (.bin .sub),
 bD 59 [.t 50,.t 51,.t 52,.t 56,.t 58] (.aI 326 []),
 aG 60 59 (.aT 11),
 a_ 61 [k_ 8,.t 60] (.build ek [(0,1),(4,1)]),
 bG 14 ek,
 aU 14 61 14 0 11] [0,1,2,4,8,10,11,12,14])
 (.seq
 (.seq
 (.ae [a8 15 (k_ 0)] [0,1,2,4,8,10,11,12,14,15])
 (.block 2
 g350L1))
 (.seq
 (.ae [aM 128 14 14 0 11 true,
 aU 10 128 10 0 11] [10])
 .ret)))))))),none,false⟩
def g351B0:aw:=
 (.seq
 (.seq
 (.ae [aa 10 5,
 aS 11 2 4,
 aM 12 11 2 4 1 false,
 aG 13 12 .len,
 aV 14 10 13 (.bin .lss)] [1,2,5,14])
 (.cond (.t 14)
 .skip
 (.exit 0)))
 (.seq
 (.block 1
 (.seq
 (.ae [aS 17 2 4,
 aM 18 17 2 4 1 false,
 aa 19 5,
 aV 20 18 19 (.aE 5),
 aG 21 20 (.aN 5 true),
 aa 22 1,
 bK 23 21 22 (.aB 351)] [1,2,5,23])
 (.cond (.t 23)
 (.seq
 (.ae [a8 4 T_] [4])
 .ret)
 .skip)))
 (.ae [aa 15 5,
 bg 16 15 1 (.bin .add),
 aa 5 16] [1,2,5])))
def g351L0:aw:=.loop [1,2,5] g351B0
theorem g351L0e: cl AP g351L0 st=after (cl AP g351L0) (cl AP g351B0 (norm (restrict [1,2,5] st))):=aF
def g351:aH:=⟨2,24,[.t 4],
 (.seq
 (.ae [ba 2 0 (.box 2 5),
 a8 4 F_] [1,2])
 (.seq
 (.seq
 (.ae [aS 6 2 0,
 aM 7 6 2 0 1 false,
 aa 8 1,
 aV 9 7 8 (.bin .eql)] [1,2,9])
 (.cond (.t 9)
 (.seq
 (.ae [a8 4 T_] [4])
 .ret)
 .skip))
 (.seq
 (.seq
 (.ae [a8 5 (k_ 0)] [1,2,5])
 (.block 0
 g351L0))
 (.seq
 (.ae [a8 4 F_] [4])
 .ret)))),none,false⟩
def g352B0:aw:=
 (.seq
 (.seq
 (.ae [aa 41 14,
 aS 42 12 2,
 aM 43 42 12 2 1 false,
 aG 44 43 .len,
 aV 45 41 44 (.bin .lss)] [0,1,2,4,10,12,13,14,45])
 (.cond (.t 45)
 .skip
 (.exit 0)))
 (.seq
 (.block 1
 (.seq
 (.ae [aS 48 12 2,
 aM 49 48 12 2 1 false,
 aa 50 14,
 aV 51 49 50 (.aE 5),
 aG 52 51 (.aN 5 true),
 ba 53 52 (.aB 363),
 bG 15 ej,
 aU 15 53 15 0 5] [0,1,2,4,10,12,13,14,15])
 (.ae [aM 54 13 13 0 11 true,
 aa 55 0,
 aa 56 1,
 aa 57 2,
 aM 58 15 15 0 5 true,
 aa 59 4,
 bg 60 59 1 (.bin .sub),
 bD 61 [.t 55,.t 56,.t 57,.t 58,.t 60] (.aI 326 []),
 aV 62 54 61 (.aT 11),
 a_ 63 [k_ 5,.t 62] (.build ek [(0,1),(4,1)]),
 aU 13 63 13 0 11] [0,1,2,4,10,12,13,14])))
 (.ae [aa 46 14,
 bg 47 46 1 (.bin .add),
 aa 14 47] [0,1,2,4,10,12,13,14])))
def g352L0:aw:=.loop [0,1,2,4,10,12,13,14] g352B0
theorem g352L0e: cl AP g352L0 st=after (cl AP g352L0) (cl AP g352B0 (norm (restrict [0,1,2,4,10,12,13,14] st))):=aF
def g352:aH:=⟨5,65,[.c 10 11 true],
 (.seq
 (.ae [ba 8 3 (.box 8 5),
 bG 10 ek] [0,1,2,4,8,10])
 (.seq
 (.ae [aa 16 1,
 aa 17 2,
 aM 18 8 8 0 5 true,
 bD 19 [.t 16,.t 17,.t 18,.c (.bB []),k_ 3] (.dW 362),
 aa 11 19] [0,1,2,4,8,10,11])
 (.seq
 (.seq
 (.ae [aa 20 11,
 aG 21 20 .len,
 bg 22 21 0 (.bin .eql)] [0,1,2,4,8,10,11,22])
 (.cond (.t 22)
 (.seq
 (.ae [aa 23 0,
 aa 24 1,
 aa 25 2,
 aM 26 8 8 0 5 true,
 bD 27 [.t 23,.t 24,.t 25,.t 26] (.aI 348 []),
 aU 10 27 10 0 11] [10])
 .ret)
 .skip))
 (.seq
 (.ae [aa 28 11,
 aa 29 0,
 aa 30 11,
 aG 31 30 .len,
 bK 32 29 31 (.aI 68 []),
 aV 33 28 32 (.aE 4),
 aG 34 33 (.aN 4 true),
 bG 12 [dN,.bool false,bQ,bQ],
 aU 12 34 12 0 4] [0,1,2,4,10,12])
 (.seq
 (.ae [aS 35 12 0,
 aM 36 35 12 0 1 false,
 a_ 37 [k_ 1,.t 36] (.build ek [(0,1),(2,1)]),
 bG 13 ek,
 aU 13 37 13 0 11] [0,1,2,4,10,12,13])
 (.seq
 (.seq
 (.ae [aS 38 12 1,
 aM 39 38 12 1 1 false] [0,1,2,4,10,12,13,39])
 (.cond (.t 39)
 (.ae [aS 40 13 0,
 lP [.t 40,k_ 2] (.cT 13 0 1)] [0,1,2,4,10,12,13])
 .skip))
 (.seq
 (.seq
 (.ae [a8 14 (k_ 0)] [0,1,2,4,10,12,13,14])
 (.block 0
 g352L0))
 (.seq
 (.ae [aM 64 13 13 0 11 true,
 aU 10 64 10 0 11] [10])
 .ret)))))))),none,false⟩
def g355:aH:=⟨3,12,[.t 6],
 (.seq
 (.ae [ba 3 0 (.box 3 2),
 ba 4 1 (.box 4 5),
 a8 6 (k_ 0)] [2,3,4])
 (.seq
 (.ae [aM 7 3 3 0 2 true,
 aM 8 4 4 0 5 true,
 aa 9 2,
 bg 10 9 0 .mx,
 bD 11 [.t 7,.t 8,.t 10] (.aB 371),
 aa 6 11] [6])
 .ret)),none,false⟩
def g358:aH:=⟨2,14,[.c 4 5 true,.t 5],
 (.seq
 (.ae [ba 2 0 (.box 2 2),
 ba 3 1 (.box 3 5),
 bG 4 ej,
 a8 5 F_] [2,3,4])
 (.seq
 (.seq
 (.ae [aM 6 2 2 0 2 true,
 aM 7 3 3 0 5 true,
 bD 8 [.t 6,.t 7,k_ 4000] (.aB 355),
 bg 9 8 4000 (.bin .gtr)] [2,3,4,9])
 (.cond (.t 9)
 (.seq
 (.ae [a_ 10 [] (.build ej []),
 aU 4 10 4 0 5,
 a8 5 F_] [4,5])
 .ret)
 .skip))
 (.seq
 (.ae [aM 11 2 2 0 2 true,
 aM 12 3 3 0 5 true,
 bK 13 11 12 (.aB 373),
 aU 4 13 4 0 5,
 a8 5 T_] [4,5])
 .ret))),none,false⟩
def g359:aH:=⟨3,55,[.c 6 11 true,.t 7],
 (.seq
 (.ae [ba 3 0 (.box 3 11),
 ba 5 2 (.box 5 11),
 bG 6 ek,
 a8 7 F_] [1,3,5,6])
 (.seq
 (.seq
 (.ae [aa 11 1,
 aG 12 11 .len,
 bg 13 12 0 (.bin .eql)] [1,3,5,6,13])
 (.cond (.t 13)
 (.seq
 (.ae [aM 14 5 5 0 11 true,
 aU 6 14 6 0 11,
 a8 7 T_] [6,7])
 .ret)
 .skip))
 (.seq
 (.ae [aM 15 3 3 0 11 true,
 ba 16 15 (.aI 145 []),
 aa 8 16] [1,3,5,6,8])
 (.seq
 (.seq
 (.ae [aa 17 1,
 bg 18 17 0 (.aE 1),
 aG 19 18 (.aN 1 false),
 bg 20 19 0 (.bin .lss),
 aa 21 20,
 aW 22 21 false 1 (.v (.mv)),
 cJ 23 21 false [.t 22,k_ 0] (.v (.aE 1)),
 aW 24 21 false 23 (.v (.aN 1 false)),
 aW 25 21 false 8 (.v (.mv)),
 aW 26 21 false 25 (.v (.len)),
 cJ 27 21 false [.t 24,.t 26] (.v (.bin .geq)),
 a_ 28 [.t 21,T_,.t 27] .pick] [1,3,5,6,8,28])
 (.cond (.t 28)
 (.seq
 (.ae [aM 29 3 3 0 11 true,
 aU 6 29 6 0 11,
 a8 7 F_] [6,7])
 .ret)
 .skip))
 (.seq
 (.ae [aa 31 8,
 aa 32 1,
 bg 33 32 0 (.aE 1),
 aG 34 33 (.aN 1 false),
 aV 35 31 34 (.aE 11),
 ba 36 35 (.aZ 11 true),
 aa 37 1,
 bg 38 37 1 (.slice false 1 true false false),
 aM 39 5 5 0 11 true,
 bD 40 [.t 36,.t 38,.t 39] (.aB 359),
 aa 30 40,
 aG 41 30 (.ext 0),
 aG 42 30 (.ext 1),
 bG 9 ek,
 aU 9 41 9 0 11,
 aa 10 42] [1,3,6,8,9,10])
 (.seq
 (.seq
 (.ae [aa 43 10,
 aG 44 43 (.un .not)] [1,3,6,8,9,44])
 (.cond (.t 44)
 (.seq
 (.ae [aM 45 3 3 0 11 true,
 aU 6 45 6 0 11,
 a8 7 F_] [6,7])
 .ret)
 .skip))
 (.seq
 (.ae [aa 46 8,
 aa 47 1,
 bg 48 47 0 (.aE 1),
 aG 49 48 (.aN 1 false),
 aM 50 9 9 0 11 true,
 aV 51 46 49 (.aE 11),
 lP [.t 51,.t 50] (.cU 11)] [3,6,8])
 (.seq
 (.ae [aM 52 3 3 0 11 true,
 aa 53 8,
 bK 54 52 53 (.dW 374),
 aU 6 54 6 0 11,
 a8 7 T_] [6,7])
 .ret)))))))),none,false⟩
def g361B0:aw:=
 (.seq
 (.seq
 (.ae [aa 9 5,
 aa 10 4,
 aG 11 10 .len,
 aV 12 9 11 (.bin .lss)] [1,2,3,4,5,12])
 (.cond (.t 12)
 .skip
 (.exit 0)))
 (.seq
 (.block 1
 (.seq
 (.ae [aa 15 4,
 aa 16 5,
 aV 17 15 16 (.aE 5),
 aS 18 17 3,
 aG 19 18 (.aN 1 false),
 bg 20 19 99 (.bin .eql)] [1,2,3,4,5,20])
 (.cond (.t 20)
 (.ae [aa 21 3,
 aa 22 4,
 aa 23 5,
 aV 24 22 23 (.aE 5),
 aS 25 24 2,
 aG 26 25 (.aN 1 false),
 a_ 27 [k_ 900,.t 26] (.bin .add),
 aG 28 27 (.aT 1),
 bK 29 21 28 (.append 1 8),
 aa 3 29] [1,2,3,4,5])
 .skip)))
 (.ae [aa 13 5,
 bg 14 13 1 (.bin .add),
 aa 5 14] [1,2,3,4,5])))
def g361L0:aw:=.loop [1,2,3,4,5] g361B0
theorem g361L0e: cl AP g361L0 st=after (cl AP g361L0) (cl AP g361B0 (norm (restrict [1,2,3,4,5] st))):=aF
def g361:aH:=⟨1,34,[.c 2 6 true],
 (.seq
 (.ae [ba 1 0 (.box 1 5),
 bG 2 pL] [1,2])
 (.seq
 (.ae [a_ 3 [.c (.bB [])] .mv] [1,2,3])
 (.seq
 (.ae [aM 6 1 1 0 5 true,
 aG 7 6 (.aT 5),
 ba 8 7 (.aB 59),
 aa 4 8] [1,2,3,4])
 (.seq
 (.seq
 (.ae [a8 5 (k_ 0)] [1,2,3,4,5])
 (.block 0
 g361L0))
 (.seq
 (.ae [aM 30 1 1 0 5 true,
 ba 31 30 (.aB 375),
 aa 32 3,
 bK 33 31 32 (.aB 208),
 aU 2 33 2 0 6] [2])
 .ret))))),none,false⟩
def g362B0:aw:=
 (.seq
 (.seq
 (.ae [aa 48 19,
 aa 49 18,
 aG 50 49 .len,
 aV 51 48 50 (.bin .lss)] [0,4,14,15,16,17,18,19,51])
 (.cond (.t 51)
 .skip
 (.exit 0)))
 (.seq
 (.block 1
 (.seq
 (.ae [aa 54 15,
 aa 55 18,
 aa 56 19,
 aV 57 55 56 (.aE 7),
 aS 58 57 1,
 aG 59 58 (.aN 6 true),
 bK 60 54 59 (.aB 377),
 bG 20 pL,
 aU 20 60 20 0 6] [0,4,14,15,16,17,18,19,20])
 (.ae [aa 61 17,
 aM 62 14 14 0 2 true,
 aM 63 20 20 0 6 true,
 aM 64 16 16 0 5 true,
 aa 65 15,
 aa 66 4,
 aa 67 18,
 aa 68 19,
 aV 69 67 68 (.aE 7),
 aS 70 69 0,
 aG 71 70 (.aN 1 false),
 aG 72 71 (.build [dN,.bool false,bQ,bQ] [(0,1)]),
 bD 73 [.t 62,.t 63,.t 64,.t 65,.t 66,.t 72] (.aB 378),
 bK 74 61 73 (.append 4 72),
 aa 17 74] [0,4,14,15,16,17,18,19])))
 (.ae [aa 52 19,
 bg 53 52 1 (.bin .add),
 aa 19 53] [0,4,14,15,16,17,18,19])))
def g362L0:aw:=.loop [0,4,14,15,16,17,18,19] g362B0
theorem g362L0e: cl AP g362L0 st=after (cl AP g362L0) (cl AP g362B0 (norm (restrict [0,4,14,15,16,17,18,19] st))):=aF
def g362B2:aw:=
 (.seq
 (.seq
 (.ae [aa 81 22,
 aa 82 0,
 aa 83 21,
 aV 84 82 83 (.aE 4),
 aS 85 84 3,
 aG 86 85 (.aN 1 false),
 aG 87 86 .len,
 aV 88 81 87 (.bin .lss)] [0,4,14,15,16,17,21,22,88])
 (.cond (.t 88)
 .skip
 (.exit 4)))
 (.seq
 (.block 5
 (.seq
 (.ae [aa 92 0,
 aa 93 0,
 aa 94 21,
 aV 95 93 94 (.aE 4),
 aS 96 95 3,
 aG 97 96 (.aN 1 false),
 aa 98 22,
 aV 99 97 98 (.aE 3),
 aS 100 99 1,
 aG 101 100 (.aN 1 false),
 bK 102 92 101 (.aB 193),
 aa 91 102,
 aG 103 91 (.ext 0),
 aG 104 91 (.ext 1),
 bG 23 pL,
 aU 23 103 23 0 6,
 aa 24 104] [0,4,14,15,16,17,21,22,23])
 (.ae [aa 105 17,
 aM 106 14 14 0 2 true,
 aM 107 23 23 0 6 true,
 aM 108 16 16 0 5 true,
 aa 109 15,
 aa 110 4,
 aa 111 0,
 aa 112 21,
 aV 113 111 112 (.aE 4),
 aS 114 113 3,
 aG 115 114 (.aN 1 false),
 aa 116 22,
 aV 117 115 116 (.aE 3),
 aS 118 117 1,
 aG 119 118 (.aN 1 false),
 a_ 120 [.t 119,T_] (.build [dN,.bool false,bQ,bQ] [(0,1),(1,1)]),
 bD 121 [.t 106,.t 107,.t 108,.t 109,.t 110,.t 120] (.aB 378),
 bK 122 105 121 (.append 4 72),
 aa 17 122] [0,4,14,15,16,17,21,22])))
 (.ae [aa 89 22,
 bg 90 89 1 (.bin .add),
 aa 22 90] [0,4,14,15,16,17,21,22])))
def g362L2:aw:=.loop [0,4,14,15,16,17,21,22] g362B2
theorem g362L2e: cl AP g362L2 st=after (cl AP g362L2) (cl AP g362B2 (norm (restrict [0,4,14,15,16,17,21,22] st))):=aF
def g362B1:aw:=
 (.seq
 (.seq
 (.ae [aa 75 21,
 aa 76 0,
 aG 77 76 .len,
 aV 78 75 77 (.bin .lss)] [0,4,14,15,16,17,21,78])
 (.cond (.t 78)
 .skip
 (.exit 2)))
 (.seq
 (.block 3
 (.seq
 (.ae [a8 22 (k_ 0)] [0,4,14,15,16,17,21,22])
 (.block 4
 g362L2)))
 (.ae [aa 79 21,
 bg 80 79 1 (.bin .add),
 aa 21 80] [0,4,14,15,16,17,21])))
def g362L1:aw:=.loop [0,4,14,15,16,17,21] g362B1
theorem g362L1e: cl AP g362L1 st=after (cl AP g362L1) (cl AP g362B1 (norm (restrict [0,4,14,15,16,17,21] st))):=aF
def g362:aH:=⟨5,124,[.t 10],
 (.seq
 (.ae [ba 7 2 (.box 7 5),
 a_ 10 [.c (.bB [])] .mv] [0,1,3,4,7])
 (.seq
 (.seq
 (.ae [aM 26 7 7 0 5 true,
 ba 27 26 (.aB 194),
 aa 25 27,
 aG 28 25 (.ext 0),
 aG 29 25 (.ext 1),
 aG 30 25 (.ext 2),
 bG 11 ej,
 bG 12 ej,
 aU 11 28 11 0 5,
 aU 12 29 12 0 5,
 aa 13 30] [0,1,3,4,7,13])
 (.seq
 (.ae [aa 31 13,
 aa 32 31,
 aW 33 32 false 4 (.v (.mv)),
 cJ 34 32 false [.t 33,k_ 0] (.v (.bin .lss)),
 a_ 35 [.t 32,T_,.t 34] .pick] [0,1,3,4,7,35])
 (.cond (.t 35)
 (.seq
 (.ae [a_ 10 [.c (.bB [])] .mv] [10])
 .ret)
 .skip)))
 (.seq
 (.ae [aM 37 7 7 0 5 true,
 aa 38 1,
 aa 39 3,
 bD 40 [.t 37,.t 38,.t 39] (.aB 376),
 aa 36 40,
 aG 41 36 (.ext 0),
 aG 42 36 (.ext 1),
 bG 14 [bQ,bQ],
 aU 14 41 14 0 2,
 aa 15 42] [0,1,4,7,14,15])
 (.seq
 (.ae [aM 43 7 7 0 5 true,
 aa 44 15,
 bK 45 43 44 (.aB 46),
 bG 16 ej,
 aU 16 45 16 0 5] [0,1,4,14,15,16])
 (.seq
 (.ae [a_ 17 [.c (.bB [])] .mv] [0,1,4,14,15,16,17])
 (.seq
 (.ae [aa 46 1,
 ba 47 46 (.aB 201),
 aa 18 47] [0,4,14,15,16,17,18])
 (.seq
 (.seq
 (.ae [a8 19 (k_ 0)] [0,4,14,15,16,17,18,19])
 (.block 0
 g362L0))
 (.seq
 (.seq
 (.ae [a8 21 (k_ 0)] [0,4,14,15,16,17,21])
 (.block 2
 g362L1))
 (.seq
 (.ae [aa 123 17,
 aa 10 123] [10])
 .ret))))))))),none,false⟩
def g363B0:aw:=
 (.seq
 (.seq
 (.ae [aa 9 5,
 aa 10 3,
 aG 11 10 .len,
 aV 12 9 11 (.bin .lss)] [1,2,3,4,5,12])
 (.cond (.t 12)
 .skip
 (.exit 0)))
 (.seq
 (.block 1
 (.ae [aa 15 4,
 aa 16 3,
 aa 17 5,
 aV 18 16 17 (.aE 1),
 aG 19 18 (.aN 1 false),
 bD 20 [] (.aB 34),
 aV 21 19 20 (.build pL [(0,1),(1,5)]),
 aG 22 21 (.aT 6),
 bK 23 15 22 (.append 6 72),
 aa 4 23] [1,2,3,4,5]))
 (.ae [aa 13 5,
 bg 14 13 1 (.bin .add),
 aa 5 14] [1,2,3,4,5])))
def g363L0:aw:=.loop [1,2,3,4,5] g363B0
theorem g363L0e: cl AP g363L0 st=after (cl AP g363L0) (cl AP g363B0 (norm (restrict [1,2,3,4,5] st))):=aF
def g363:aH:=⟨1,27,[.c 2 5 true],
 (.seq
 (.ae [ba 1 0 (.box 1 5),
 bG 2 ej] [1,2])
 (.seq
 (.ae [aM 6 1 1 0 5 true,
 aG 7 6 (.aT 5),
 ba 8 7 (.aB 56),
 aa 3 8] [1,2,3])
 (.seq
 (.ae [a_ 4 [.c (.bB [])] .mv] [1,2,3,4])
 (.seq
 (.seq
 (.ae [a8 5 (k_ 0)] [1,2,3,4,5])
 (.block 0
 g363L0))
 (.seq
 (.ae [aM 24 1 1 0 5 true,
 aa 25 4,
 bK 26 24 25 (.aB 46),
 aU 2 26 2 0 5] [2])
 .ret))))),none,false⟩
def g371B0:aw:=
 (.seq
 (.seq
 (.ae [aa 12 8,
 aS 13 4 4,
 aM 14 13 4 4 1 false,
 aG 15 14 .len,
 aV 16 12 15 (.bin .lss),
 aa 17 16,
 aW 18 17 true 7 (.v (.mv)),
 aW 19 17 true 2 (.v (.mv)),
 cJ 20 17 true [.t 18,.t 19] (.v (.bin .leq)),
 a_ 21 [.t 17,.t 20,F_] .pick] [2,3,4,7,8,21])
 (.cond (.t 21)
 .skip
 (.exit 0)))
 (.seq
 (.block 1
 (.ae [aa 24 7,
 aM 25 3 3 0 2 true,
 aS 26 4 4,
 aM 27 26 4 4 1 false,
 aa 28 8,
 aV 29 27 28 (.aE 5),
 aG 30 29 (.aN 5 true),
 aa 31 2,
 aa 32 7,
 aV 33 31 32 (.bin .sub),
 bD 34 [.t 25,.t 30,.t 33] (.aB 371),
 aV 35 24 34 (.bin .add),
 aa 7 35] [2,3,4,7,8]))
 (.ae [aa 22 8,
 bg 23 22 1 (.bin .add),
 aa 8 23] [2,3,4,7,8])))
def g371L0:aw:=.loop [2,3,4,7,8] g371B0
theorem g371L0e: cl AP g371L0 st=after (cl AP g371L0) (cl AP g371B0 (norm (restrict [2,3,4,7,8] st))):=aF
def g371:aH:=⟨3,40,[.t 6],
 (.seq
 (.ae [ba 3 0 (.box 3 2),
 ba 4 1 (.box 4 5),
 a8 6 (k_ 0)] [2,3,4])
 (.seq
 (.ae [aM 9 3 3 0 2 true,
 aM 10 4 4 0 5 true,
 bK 11 9 10 (.aB 386),
 aU 4 11 4 0 5] [2,3,4])
 (.seq
 (.ae [a8 7 (k_ 1)] [2,3,4,7])
 (.seq
 (.seq
 (.ae [a8 8 (k_ 0)] [2,3,4,7,8])
 (.block 0
 g371L0))
 (.seq
 (.ae [aa 36 7,
 aa 37 2,
 bg 38 37 1 (.bin .add),
 aV 39 36 38 .mn,
 aa 6 39] [6])
 .ret))))),none,false⟩
def g372B0:aw:=
 (.seq
 (.seq
 (.ae [aa 14 6,
 aa 15 1,
 aG 16 15 .len,
 aV 17 14 16 (.bin .lss)] [1,5,6,17])
 (.cond (.t 17)
 .skip
 (.exit 0)))
 (.seq
 (.block 1
 (.ae [aa 20 5,
 aa 21 1,
 aa 22 6,
 aV 23 21 22 (.aE 5),
 aG 24 23 (.aN 5 true),
 bK 25 20 24 (.aI 387 [])] [1,5,6]))
 (.ae [aa 18 6,
 bg 19 18 1 (.bin .add),
 aa 6 19] [1,5,6])))
def g372L0:aw:=.loop [1,5,6] g372B0
theorem g372L0e: cl AP g372L0 st=after (cl AP g372L0) (cl AP g372B0 (norm (restrict [1,5,6] st))):=aF
def g372:aH:=⟨2,30,[.t 4],
 (.seq
 (.ae [ba 2 0 (.box 2 2),
 a_ 4 [.c (.bB [])] .mv] [1,2])
 (.seq
 (.ae [aM 7 2 2 0 2 true,
 aS 8 2 0,
 aM 9 8 2 0 1 false,
 aG 10 9 .len,
 bK 11 10 10 (.jg 1 1 false [.bool false]),
 aV 12 7 11 (.build [bQ,bQ,bQ,bQ] [(0,2),(3,1)]),
 ba 13 12 (.lS 4),
 aa 5 13] [1,5])
 (.seq
 (.seq
 (.ae [a8 6 (k_ 0)] [1,5,6])
 (.block 0
 g372L0))
 (.seq
 (.ae [aa 26 5,
 aG 27 26 .aY,
 aS 28 27 2,
 ba 29 28 (.aZ 1 false),
 aa 4 29] [4])
 .ret)))),none,false⟩
def g373B0:aw:=
 (.seq
 (.seq
 (.ae [aa 12 6,
 aS 13 3 4,
 aM 14 13 3 4 1 false,
 aG 15 14 .len,
 aV 16 12 15 (.bin .lss)] [2,3,4,5,6,16])
 (.cond (.t 16)
 .skip
 (.exit 0)))
 (.seq
 (.block 1
 (.ae [aS 19 5 4,
 aM 20 19 5 4 1 false,
 aM 21 2 2 0 2 true,
 aS 22 3 4,
 aM 23 22 3 4 1 false,
 aa 24 6,
 aV 25 23 24 (.aE 5),
 aG 26 25 (.aN 5 true),
 bK 27 21 26 (.aB 373),
 aG 28 27 (.aT 5),
 bK 29 20 28 (.append 5 64),
 aS 30 5 4,
 aU 30 29 5 4 1] [2,3,4,5,6]))
 (.ae [aa 17 6,
 bg 18 17 1 (.bin .add),
 aa 6 18] [2,3,4,5,6])))
def g373L0:aw:=.loop [2,3,4,5,6] g373B0
theorem g373L0e: cl AP g373L0 st=after (cl AP g373L0) (cl AP g373B0 (norm (restrict [2,3,4,5,6] st))):=aF
def g373:aH:=⟨2,32,[.c 4 5 true],
 (.seq
 (.ae [ba 2 0 (.box 2 2),
 ba 3 1 (.box 3 5),
 bG 4 ej] [2,3,4])
 (.seq
 (.ae [aM 7 2 2 0 2 true,
 aM 8 3 3 0 5 true,
 bK 9 7 8 (.aB 386),
 aU 3 9 3 0 5] [2,3,4])
 (.seq
 (.ae [aM 10 3 3 0 5 true,
 bG 5 ej,
 aU 5 10 5 0 5] [2,3,4,5])
 (.seq
 (.ae [aS 11 5 4,
 lP [.t 11,.c (.bB [])] (.cT 5 4 1)] [2,3,4,5])
 (.seq
 (.seq
 (.ae [a8 6 (k_ 0)] [2,3,4,5,6])
 (.block 0
 g373L0))
 (.seq
 (.ae [aM 31 5 5 0 5 true,
 aU 4 31 4 0 5] [4])
 .ret)))))),none,false⟩
def g374B0:aw:=
 (.seq
 (.seq
 (.ae [aa 30 7,
 aS 31 6 5,
 aM 32 31 6 5 1 false,
 aG 33 32 .len,
 aV 34 30 33 (.bin .lss)] [1,4,5,6,7,34])
 (.cond (.t 34)
 .skip
 (.exit 0)))
 (.seq
 (.block 1
 (.ae [aS 37 6 5,
 aM 38 37 6 5 1 false,
 aa 39 7,
 aa 40 1,
 aa 41 5,
 aa 42 7,
 aV 43 41 42 (.bin .add),
 aV 44 40 43 (.aE 11),
 aG 45 44 (.aN 11 true),
 aV 46 38 39 (.aE 14),
 aS 47 46 3,
 lP [.t 47,.t 45] (.cU 11)] [1,4,5,6,7]))
 (.ae [aa 35 7,
 bg 36 35 1 (.bin .add),
 aa 7 36] [1,4,5,6,7])))
def g374L0:aw:=.loop [1,4,5,6,7] g374B0
theorem g374L0e: cl AP g374L0 st=after (cl AP g374L0) (cl AP g374B0 (norm (restrict [1,4,5,6,7] st))):=aF
def g374:aH:=⟨2,49,[.c 4 11 true],
 (.seq
 (.ae [ba 2 0 (.box 2 11),
 bG 4 ek] [1,2,4])
 (.seq
 (.ae [aS 8 2 4,
 aM 9 8 2 4 1 false,
 aG 10 9 .len,
 aa 5 10] [1,2,4,5])
 (.seq
 (.seq
 (.ae [aa 11 1,
 aG 12 11 .len,
 aa 13 5,
 aS 14 2 5,
 aM 15 14 2 5 1 false,
 aG 16 15 .len,
 aV 17 13 16 (.bin .add),
 aV 18 12 17 (.bin .neq)] [1,2,4,5,18])
 (.cond (.t 18)
 (.seq
 (.ae [aM 19 2 2 0 11 true,
 aU 4 19 4 0 11] [4])
 .ret)
 .skip))
 (.seq
 (.ae [aM 20 2 2 0 11 true,
 bG 6 ek,
 aU 6 20 6 0 11] [1,2,4,5,6])
 (.seq
 (.ae [aa 21 1,
 aa 22 5,
 aV 23 21 22 (.slice false 11 false true false),
 bD 24 [.c (.bB []),.t 23] (.append 11 152),
 aS 25 2 5,
 aM 26 25 2 5 1 false,
 bD 27 [.c (.bB []),.t 26] (.c_ 14 200 true),
 aS 28 6 4,
 aU 28 24 6 4 1,
 aS 29 6 5,
 aU 29 27 6 5 1] [1,4,5,6])
 (.seq
 (.seq
 (.ae [a8 7 (k_ 0)] [1,4,5,6,7])
 (.block 0
 g374L0))
 (.seq
 (.ae [aM 48 6 6 0 11 true,
 aU 4 48 4 0 11] [4])
 .ret))))))),none,false⟩
def g375B0:aw:=
 (.seq
 (.seq
 (.ae [aa 19 4,
 aS 20 1 4,
 aM 21 20 1 4 1 false,
 aG 22 21 .len,
 aV 23 19 22 (.bin .lss)] [1,2,3,4,23])
 (.cond (.t 23)
 .skip
 (.exit 0)))
 (.seq
 (.block 1
 (.ae [aS 26 3 4,
 aM 27 26 3 4 1 false,
 aS 28 1 4,
 aM 29 28 1 4 1 false,
 aa 30 4,
 aV 31 29 30 (.aE 5),
 aG 32 31 (.aN 5 true),
 ba 33 32 (.aB 375),
 aG 34 33 (.aT 5),
 bK 35 27 34 (.append 5 64),
 aS 36 3 4,
 aU 36 35 3 4 1] [1,2,3,4]))
 (.ae [aa 24 4,
 bg 25 24 1 (.bin .add),
 aa 4 25] [1,2,3,4])))
def g375L0:aw:=.loop [1,2,3,4] g375B0
theorem g375L0e: cl AP g375L0 st=after (cl AP g375L0) (cl AP g375B0 (norm (restrict [1,2,3,4] st))):=aF
def g375:aH:=⟨1,38,[.c 2 5 true],
 (.seq
 (.ae [ba 1 0 (.box 1 5),
 bG 2 ej] [1,2])
 (.seq
 (.seq
 (.ae [aS 5 1 0,
 aM 6 5 1 0 1 false,
 bg 7 6 3 (.bin .eql),
 aa 8 7,
 aW 9 8 true 1 (.v (.bh 3)),
 aW 10 8 true 9 (.bj 1 3 1 false),
 cJ 11 8 true [.t 10,k_ 99] (.v (.bin .eql)),
 a_ 12 [.t 8,.t 11,F_] .pick] [1,2,12])
 (.cond (.t 12)
 (.seq
 (.ae [aS 13 1 2,
 aM 14 13 1 2 1 false,
 a_ 15 [k_ 900,.t 14] (.bin .add),
 ba 16 15 (.aB 63),
 aU 2 16 2 0 5] [2])
 .ret)
 .skip))
 (.seq
 (.ae [aM 17 1 1 0 5 true,
 bG 3 ej,
 aU 3 17 3 0 5] [1,2,3])
 (.seq
 (.ae [aS 18 3 4,
 lP [.t 18,.c (.bB [])] (.cT 3 4 1)] [1,2,3])
 (.seq
 (.seq
 (.ae [a8 4 (k_ 0)] [1,2,3,4])
 (.block 0
 g375L0))
 (.seq
 (.ae [aM 37 3 3 0 5 true,
 aU 2 37 2 0 5] [2])
 .ret)))))),none,false⟩
def g376B0:aw:=
 (.seq
 (.seq
 (.ae [aa 18 10,
 aa 19 9,
 aG 20 19 .len,
 aV 21 18 20 (.bin .lss)] [2,3,6,8,9,10,21])
 (.cond (.t 21)
 .skip
 (.exit 0)))
 (.seq
 (.block 1
 (.ae [aa 24 8,
 aa 25 9,
 aa 26 10,
 aV 27 25 26 (.aE 7),
 aS 28 27 1,
 aS 29 28 1,
 aG 30 29 (.aN 5 true),
 aG 31 30 (.aT 5),
 bK 32 24 31 (.append 5 64),
 aa 8 32] [2,3,6,8,9,10]))
 (.ae [aa 22 10,
 bg 23 22 1 (.bin .add),
 aa 10 23] [2,3,6,8,9,10])))
def g376L0:aw:=.loop [2,3,6,8,9,10] g376B0
theorem g376L0e: cl AP g376L0 st=after (cl AP g376L0) (cl AP g376B0 (norm (restrict [2,3,6,8,9,10] st))):=aF
def g376B1:aw:=
 (.seq
 (.seq
 (.ae [aa 39 14,
 aa 40 11,
 aG 41 40 .len,
 aV 42 39 41 (.bin .lss)] [2,6,11,12,13,14,42])
 (.cond (.t 42)
 .skip
 (.exit 2)))
 (.seq
 (.block 3
 (.seq
 (.ae [bG 15 ej] [2,6,11,12,13,14,15])
 (.seq
 (.ae [aM 46 12 12 0 2 true,
 aa 47 2,
 aa 48 11,
 aa 49 14,
 aV 50 48 49 (.aE 1),
 aG 51 50 (.aN 1 false),
 bK 52 47 51 (.aB 95),
 bD 53 [.t 46,k_ 1000000,.t 52] (.aB 381),
 aa 45 53,
 aG 54 45 (.ext 0),
 aG 55 45 (.ext 1),
 aU 12 54 12 0 2,
 aU 15 55 15 0 5] [2,6,11,12,13,14,15])
 (.ae [aa 56 13,
 aa 57 11,
 aa 58 14,
 aV 59 57 58 (.aE 1),
 aG 60 59 (.aN 1 false),
 aM 61 15 15 0 5 true,
 aV 62 60 61 (.build pL [(0,1),(1,5)]),
 aG 63 62 (.aT 6),
 bK 64 56 63 (.append 6 72),
 aa 13 64] [2,6,11,12,13,14]))))
 (.ae [aa 43 14,
 bg 44 43 1 (.bin .add),
 aa 14 44] [2,6,11,12,13,14])))
def g376L1:aw:=.loop [2,6,11,12,13,14] g376B1
theorem g376L1e: cl AP g376L1 st=after (cl AP g376L1) (cl AP g376B1 (norm (restrict [2,6,11,12,13,14] st))):=aF
def g376:aH:=⟨3,67,[.c 6 2 true,.t 7],
 (.seq
 (.ae [ba 3 0 (.box 3 5),
 bG 6 [bQ,bQ],
 a_ 7 [.c (.bB [])] .mv] [1,2,3,6])
 (.seq
 (.ae [a_ 8 [.c (.bB [])] .mv] [1,2,3,6,8])
 (.seq
 (.ae [aa 16 1,
 ba 17 16 (.aB 201),
 aa 9 17] [2,3,6,8,9])
 (.seq
 (.seq
 (.ae [a8 10 (k_ 0)] [2,3,6,8,9,10])
 (.block 0
 g376L0))
 (.seq
 (.ae [aM 33 3 3 0 5 true,
 aG 34 33 (.aT 5),
 aa 35 8,
 bK 36 34 35 (.append 5 64),
 ba 37 36 (.aB 56),
 aa 11 37] [2,6,11])
 (.seq
 (.ae [bD 38 [] (.aB 388),
 bG 12 [bQ,bQ],
 aU 12 38 12 0 2] [2,6,11,12])
 (.seq
 (.ae [a_ 13 [.c (.bB [])] .mv] [2,6,11,12,13])
 (.seq
 (.seq
 (.ae [a8 14 (k_ 0)] [2,6,11,12,13,14])
 (.block 2
 g376L1))
 (.seq
 (.ae [aM 65 12 12 0 2 true,
 aa 66 13,
 aU 6 65 6 0 2,
 aa 7 66] [6,7])
 .ret))))))))),none,false⟩
def g377:aH:=⟨2,12,[.c 4 6 true],
 (.seq
 (.ae [ba 3 1 (.box 3 6),
 bG 4 pL] [0,3,4])
 (.seq
 (.ae [aS 5 3 0,
 aM 6 5 3 0 1 false,
 aa 7 0,
 aS 8 3 1,
 aM 9 8 3 1 5 true,
 bK 10 7 9 (.aB 22),
 aV 11 6 10 (.build pL [(0,1),(1,5)]),
 aU 4 11 4 0 6] [4])
 .ret)),none,false⟩
def g378B0:aw:=
 (.seq
 (.seq
 (.ae [aa 19 14,
 aa 20 4,
 aV 21 19 20 (.bin .leq)] [3,4,6,7,8,11,13,14,21])
 (.cond (.t 21)
 .skip
 (.exit 0)))
 (.seq
 (.block 1
 (.seq
 (.ae [aM 25 6 6 0 2 true,
 aM 26 7 7 0 6 true,
 aM 27 8 8 0 5 true,
 aa 28 3,
 aa 29 14,
 bD 30 [.t 25,.t 26,.t 27,.t 28,.t 29] (.aB 389),
 aa 24 30,
 aG 31 24 (.ext 0),
 aG 32 24 (.ext 1),
 aG 33 24 (.ext 2),
 aa 15 31,
 aa 16 32,
 aa 17 33] [3,4,6,7,8,11,13,14,15,16,17])
 (.seq
 (.seq
 (.ae [aa 34 17,
 aG 35 34 (.un .not)] [3,4,6,7,8,11,13,14,15,16,35])
 (.cond (.t 35)
 (.exit 1)
 .skip))
 (.seq
 (.ae [aM 36 11 11 0 4 true,
 bG 18 [dN,.bool false,bQ,bQ],
 aU 18 36 18 0 4] [3,4,6,7,8,11,13,14,15,16,18])
 (.seq
 (.ae [aa 37 15,
 bD 38 [.c (.bB []),.t 37] (.append 5 64),
 aa 39 16,
 bD 40 [.c (.bB []),.t 39] (.append 5 64),
 aS 41 18 3,
 aU 41 38 18 3 1,
 aS 42 18 2,
 aU 42 40 18 2 1] [3,4,6,7,8,11,13,14,18])
 (.ae [aa 43 13,
 aM 44 18 18 0 4 true,
 aG 45 44 (.aT 4),
 bK 46 43 45 (.append 4 72),
 aa 13 46] [3,4,6,7,8,11,13,14]))))))
 (.ae [aa 22 14,
 bg 23 22 1 (.bin .add),
 aa 14 23] [3,4,6,7,8,11,13,14])))
def g378L0:aw:=.loop [3,4,6,7,8,11,13,14] g378B0
theorem g378L0e: cl AP g378L0 st=after (cl AP g378L0) (cl AP g378B0 (norm (restrict [3,4,6,7,8,11,13,14] st))):=aF
def g378:aH:=⟨6,48,[.t 12],
 (.seq
 (.ae [ba 6 0 (.box 6 2),
 ba 7 1 (.box 7 6),
 ba 8 2 (.box 8 5),
 ba 11 5 (.box 11 4),
 a_ 12 [.c (.bB [])] .mv] [3,4,6,7,8,11])
 (.seq
 (.ae [a_ 13 [.c (.bB [])] .mv] [3,4,6,7,8,11,13])
 (.seq
 (.seq
 (.ae [a8 14 (k_ 0)] [3,4,6,7,8,11,13,14])
 (.block 0
 g378L0))
 (.seq
 (.ae [aa 47 13,
 aa 12 47] [12])
 .ret)))),none,false⟩
def g381:aH:=⟨3,33,[.c 6 2 true,.c 7 5 true],
 (.seq
 (.ae [ba 3 0 (.box 3 2),
 bG 6 [bQ,bQ],
 bG 7 ej] [1,2,3,6,7])
 (.seq
 (.ae [aS 10 3 0,
 aM 11 10 3 0 1 false,
 aG 12 11 .len,
 aa 8 12] [1,2,3,6,7,8])
 (.seq
 (.ae [aS 13 3 0,
 aM 14 13 3 0 1 false,
 bD 15 [.c (.bB []),.t 14] (.append 8 88),
 aa 16 1,
 aa 17 2,
 aV 18 16 17 (.build [.bool false,a0,dN,a0,a0,bQ,a0,.bool false] [(6,1),(7,1)]),
 aG 19 18 (.aT 8),
 bK 20 15 19 (.append 8 88),
 aG 21 20 (.build [bQ,bQ] [(0,1)]),
 bG 9 [bQ,bQ],
 aU 9 21 9 0 2] [3,6,7,8,9])
 (.seq
 (.ae [aS 22 3 1,
 aM 23 22 3 1 1 false,
 bD 24 [.c (.bB []),.t 23] (.append 10 104),
 aa 25 8,
 a_ 26 [.t 25,T_] (.build [a0,.bool false,a0,dN,a0,a0,bQ,a0,.bool false,.bool false] [(0,1),(9,1)]),
 aG 27 26 (.aT 10),
 bK 28 24 27 (.append 10 104),
 aS 29 9 1,
 aU 29 28 9 1 1] [6,7,8,9])
 (.seq
 (.ae [aM 30 9 9 0 2 true,
 aa 31 8,
 ba 32 31 (.aB 63),
 aU 6 30 6 0 2,
 aU 7 32 7 0 5] [6,7])
 .ret))))),none,false⟩
def g385:aH:=⟨3,22,[.c 6 2 true,.t 7],
 (.seq
 (.ae [ba 3 0 (.box 3 2),
 ba 4 1 (.box 4 5),
 ba 5 2 (.box 5 5),
 bG 6 [bQ,bQ],
 a8 7 (k_ 0)] [3,4,5,6])
 (.seq
 (.ae [aM 11 3 3 0 2 true,
 aM 12 4 4 0 5 true,
 aM 13 5 5 0 5 true,
 bD 14 [.t 11,.t 12,.t 13] (.aB 391),
 aa 10 14,
 aG 15 10 (.ext 0),
 aG 16 10 (.ext 1),
 bG 8 [bQ,bQ],
 aU 8 15 8 0 2,
 aa 9 16] [3,6,8,9])
 (.seq
 (.seq
 (.ae [aa 17 9,
 bg 18 17 0 (.bin .neq)] [3,6,8,9,18])
 (.cond (.t 18)
 (.seq
 (.ae [aM 19 3 3 0 2 true,
 aa 20 9,
 aU 6 19 6 0 2,
 aa 7 20] [6,7])
 .ret)
 .skip))
 (.seq
 (.ae [aM 21 8 8 0 2 true,
 aU 6 21 6 0 2,
 a8 7 (k_ 0)] [6,7])
 .ret)))),none,false⟩
def g386B0:aw:=
 (.seq
 (.seq
 (.ae [aa 6 5,
 aS 7 2 0,
 aM 8 7 2 0 1 false,
 aG 9 8 .len,
 aV 10 6 9 (.bin .leq),
 aa 11 10,
 aW 12 11 true 2 (.bj 2 0 2 true),
 aW 13 11 true 3 (.bj 3 0 5 true),
 cJ 14 11 true [.t 12,.t 13] (.aB 392),
 a_ 15 [.t 11,.t 14,F_] .pick] [2,3,4,5,15])
 (.cond (.t 15)
 .skip
 (.exit 0)))
 (.seq
 (.block 1
 (.ae [aS 18 2 0,
 aM 19 18 2 0 1 false,
 aS 20 3 2,
 aM 21 20 3 2 1 false,
 aV 22 19 21 (.aE 8),
 aS 23 22 1,
 aG 24 23 (.aN 5 true),
 aU 3 24 3 0 5] [2,3,4,5]))
 (.ae [aa 16 5,
 bg 17 16 1 (.bin .add),
 aa 5 17] [2,3,4,5])))
def g386L0:aw:=.loop [2,3,4,5] g386B0
theorem g386L0e: cl AP g386L0 st=after (cl AP g386L0) (cl AP g386B0 (norm (restrict [2,3,4,5] st))):=aF
def g386:aH:=⟨2,26,[.c 4 5 true],
 (.seq
 (.ae [ba 2 0 (.box 2 2),
 ba 3 1 (.box 3 5),
 bG 4 ej] [2,3,4])
 (.seq
 (.seq
 (.ae [a8 5 (k_ 0)] [2,3,4,5])
 (.block 0
 g386L0))
 (.seq
 (.ae [aM 25 3 3 0 5 true,
 aU 4 25 4 0 5] [4])
 .ret))),none,false⟩
def g387B0:aw:=
 (.seq
 (.seq
 (.ae [aa 64 4,
 aS 65 3 4,
 aM 66 65 3 4 1 false,
 aG 67 66 .len,
 aV 68 64 67 (.bin .lss)] [0,3,4,68])
 (.cond (.t 68)
 .skip
 (.exit 1)))
 (.seq
 (.block 2
 (.ae [aa 71 0,
 aS 72 3 4,
 aM 73 72 3 4 1 false,
 aa 74 4,
 aV 75 73 74 (.aE 5),
 aG 76 75 (.aN 5 true),
 bK 77 71 76 (.aI 387 [])] [0,3,4]))
 (.ae [aa 69 4,
 bg 70 69 1 (.bin .add),
 aa 4 70] [0,3,4])))
def g387L0:aw:=.loop [0,3,4] g387B0
theorem g387L0e: cl AP g387L0 st=after (cl AP g387L0) (cl AP g387B0 (norm (restrict [0,3,4] st))):=aF
def g387:aH:=⟨2,78,[],
 (.seq
 (.ae [ba 3 1 (.box 3 5)] [0,3])
 (.seq
 (.seq
 (.ae [aS 5 3 0,
 aM 6 5 3 0 1 false,
 bg 7 6 1 (.bin .eql)] [0,3,7])
 (.cond (.t 7)
 (.seq
 (.block 0
 (.seq
 (.ae [aa 9 0,
 aG 10 9 .aY,
 aS 11 10 0,
 ba 12 11 (.aZ 2 true),
 aM 13 3 3 0 5 true,
 bK 14 12 13 (.aB 392),
 aG 15 14 (.un .not),
 aa 8 15] [0,3,8])
 (.cond (.t 8)
 (.seq
 (.ae [aa 16 0,
 aG 17 16 .aY,
 aS 18 17 2,
 ba 19 18 (.aZ 1 false),
 aS 20 3 2,
 aM 21 20 3 2 1 false,
 bK 22 19 21 (.aB 95),
 aG 23 22 (.un .not)] [0,3,23])
 (.cond (.t 23)
 (.ae [aa 24 0,
 aa 25 0,
 aG 26 25 .aY,
 aS 27 26 2,
 ba 28 27 (.aZ 1 false),
 aS 29 3 2,
 aM 30 29 3 2 1 false,
 aG 31 30 (.aT 1),
 bK 32 28 31 (.append 1 8),
 aG 33 24 .aY,
 aS 34 33 2,
 lP [.t 34,.t 32] (.cU 1)] [])
 .skip))
 (.seq
 (.ae [aa 36 0,
 aG 37 36 .aY,
 aS 38 37 3,
 ba 39 38 (.aZ 1 false),
 aS 40 3 2,
 aM 41 40 3 2 1 false,
 aV 42 39 41 (.aE 1),
 ba 43 42 (.aZ 1 false),
 aG 44 43 (.un .not),
 aa 35 44] [0,3,35])
 (.cond (.t 35)
 (.seq
 (.ae [aa 45 0,
 aG 46 45 .aY,
 aS 47 46 3,
 ba 48 47 (.aZ 1 false),
 aS 49 3 2,
 aM 50 49 3 2 1 false,
 aV 51 48 50 (.aE 1),
 lP [.t 51,T_] (.cU 1)] [0,3])
 (.ae [aa 52 0,
 aa 53 0,
 aG 54 53 .aY,
 aS 55 54 0,
 aS 56 55 0,
 ba 57 56 (.aZ 1 false),
 aS 58 3 2,
 aM 59 58 3 2 1 false,
 aV 60 57 59 (.aE 8),
 aS 61 60 1,
 aG 62 61 (.aN 5 true),
 bK 63 52 62 (.aI 387 [])] []))
 .skip)))))
 .ret)
 .skip))
 (.seq
 (.ae [a8 4 (k_ 0)] [0,3,4])
 (.block 1
 g387L0)))),none,false⟩
def g388:aH:=⟨0,2,[.c 0 2 true],
 (.seq
 (.ae [bG 0 [bQ,bQ]] [0])
 (.seq
 (.ae [a_ 1 [] (.build [bQ,bQ] []),
 aU 0 1 0 0 2] [0])
 .ret)),none,false⟩
def g389B0:aw:=
 (.seq
 (.seq
 (.ae [aa 36 14,
 aS 37 6 0,
 aM 38 37 6 0 1 false,
 aV 39 36 38 (.bin .lss)] [3,4,5,6,7,13,14,39])
 (.cond (.t 39)
 .skip
 (.exit 0)))
 (.seq
 (.block 1
 (.seq
 (.ae [bG 15 ej] [3,4,5,6,7,13,14,15])
 (.seq
 (.ae [aM 43 5 5 0 2 true,
 bD 44 [.t 43,k_ 1000000,F_] (.aB 381),
 aa 42 44,
 aG 45 42 (.ext 0),
 aG 46 42 (.ext 1),
 aU 5 45 5 0 2,
 aU 15 46 15 0 5] [3,4,5,6,7,13,14,15])
 (.ae [aa 47 13,
 aM 48 15 15 0 5 true,
 aG 49 48 (.aT 5),
 bK 50 47 49 (.append 5 64),
 aa 13 50] [3,4,5,6,7,13,14]))))
 (.ae [aa 40 14,
 bg 41 40 1 (.bin .add),
 aa 14 41] [3,4,5,6,7,13,14])))
def g389L0:aw:=.loop [3,4,5,6,7,13,14] g389B0
theorem g389L0e: cl AP g389L0 st=after (cl AP g389L0) (cl AP g389B0 (norm (restrict [3,4,5,6,7,13,14] st))):=aF
def g389B1:aw:=
 (.seq
 (.seq
 (.ae [aa 56 18,
 aG 57 56 .len,
 aa 58 4,
 aV 59 57 58 (.bin .lss)] [3,4,5,7,16,17,18,59])
 (.cond (.t 59)
 .skip
 (.exit 2)))
 (.block 3
 (.seq
 (.ae [aM 60 5 5 0 2 true,
 aM 61 17 17 0 5 true,
 bK 62 60 61 (.aB 386),
 aU 17 62 17 0 5] [3,4,5,7,16,17,18])
 (.seq
 (.seq
 (.ae [aS 63 17 0,
 aM 64 63 17 0 1 false,
 bg 65 64 1 (.bin .eql),
 aa 66 65,
 aW 67 66 true 5 (.v (.bh 0)),
 aW 68 66 true 67 (.bj 5 0 1 false),
 aW 69 66 true 17 (.v (.bh 2)),
 aW 70 66 true 69 (.bj 17 2 1 false),
 cJ 71 66 true [.t 68,.t 70] (.v (.aE 8)),
 aW 72 66 true 71 (.v (.bh 7)),
 aW 73 66 true 72 (.v (.aN 1 false)),
 aW 74 66 true 73 (.v (.un .not)),
 a_ 75 [.t 66,.t 74,F_] .pick] [3,4,5,7,16,17,18,75])
 (.cond (.t 75)
 (.seq
 (.ae [bG 19 ej,
 bG 20 ej] [3,4,5,7,16,17,18,19,20])
 (.seq
 (.ae [aM 77 5 5 0 2 true,
 bD 78 [.t 77,k_ 1000000,F_] (.aB 381),
 aa 76 78,
 aG 79 76 (.ext 0),
 aG 80 76 (.ext 1),
 aU 5 79 5 0 2,
 aU 19 80 19 0 5] [3,4,5,7,16,17,18,19,20])
 (.seq
 (.ae [aM 82 5 5 0 2 true,
 bD 83 [.t 82,k_ 1000000,F_] (.aB 381),
 aa 81 83,
 aG 84 81 (.ext 0),
 aG 85 81 (.ext 1),
 aU 5 84 5 0 2,
 aU 20 85 20 0 5] [3,4,5,7,16,17,18,19,20])
 (.seq
 (.ae [aS 86 5 0,
 aM 87 86 5 0 1 false,
 aS 88 17 2,
 aM 89 88 17 2 1 false,
 aV 90 87 89 (.aE 8),
 aG 91 90 (.aN 8 true),
 bG 21 [.bool false,a0,dN,a0,a0,bQ,a0,.bool false],
 aU 21 91 21 0 8] [3,4,5,7,16,17,18,19,20,21])
 (.seq
 (.ae [aM 92 19 19 0 5 true,
 aM 93 20 20 0 5 true,
 bK 94 92 93 (.aB 69),
 aS 95 21 0,
 lP [.t 95,T_] (.cT 21 0 1),
 aS 96 21 1,
 aU 96 94 21 1 5] [3,4,5,7,16,17,18,21])
 (.seq
 (.ae [aM 98 5 5 0 2 true,
 aS 99 17 2,
 aM 100 99 17 2 1 false,
 aM 101 21 21 0 8 true,
 bD 102 [.t 98,.t 100,.t 101] (.aB 393),
 aa 97 102,
 aG 103 97 (.ext 0),
 aG 104 97 (.ext 1),
 aU 5 103 5 0 2] [3,4,5,7,16,17,18,21])
 (.ae [aS 105 21 1,
 aM 106 105 21 1 5 true,
 aU 17 106 17 0 5] [3,4,5,7,16,17,18])))))))
 .skip))
 (.seq
 (.ae [aM 108 17 17 0 5 true,
 ba 109 108 (.aB 194),
 aa 107 109,
 aG 110 107 (.ext 0),
 aG 111 107 (.ext 1),
 aG 112 107 (.ext 2),
 bG 22 ej,
 bG 23 ej,
 aU 22 110 22 0 5,
 aU 23 111 23 0 5,
 aa 24 112] [3,4,5,7,16,17,18,22,23,24])
 (.seq
 (.seq
 (.ae [aa 113 24,
 aG 114 113 (.un .not)] [3,4,5,7,16,17,18,22,23,114])
 (.cond (.t 114)
 (.seq
 (.ae [a_ 10 [.c (.bB [])] .mv,
 a_ 11 [.c (.bB [])] .mv,
 a8 12 F_] [10,11,12])
 .ret)
 .skip))
 (.ae [aa 115 18,
 aM 116 22 22 0 5 true,
 aG 117 116 (.aT 5),
 bK 118 115 117 (.append 5 64),
 aM 119 23 23 0 5 true,
 aa 18 118,
 aU 17 119 17 0 5] [3,4,5,7,16,17,18])))))))
def g389L1:aw:=.loop [3,4,5,7,16,17,18] g389B1
theorem g389L1e: cl AP g389L1 st=after (cl AP g389L1) (cl AP g389B1 (norm (restrict [3,4,5,7,16,17,18] st))):=aF
def g389B2:aw:=
 (.seq
 (.seq
 (.ae [aa 150 30,
 aa 151 3,
 aG 152 151 .len,
 aV 153 150 152 (.bin .lss)] [3,5,18,29,30,153])
 (.cond (.t 153)
 .skip
 (.exit 4)))
 (.seq
 (.block 5
 (.seq
 (.seq
 (.ae [aM 156 5 5 0 2 true,
 aa 157 3,
 aa 158 30,
 aV 159 157 158 (.aE 6),
 aS 160 159 1,
 aG 161 160 (.aN 5 true),
 bD 162 [.t 156,.t 161,k_ 200] (.aB 355),
 bg 163 162 200 (.bin .gtr)] [3,5,18,29,30,163])
 (.cond (.t 163)
 (.seq
 (.ae [a_ 10 [.c (.bB [])] .mv,
 a_ 11 [.c (.bB [])] .mv,
 a8 12 F_] [10,11,12])
 .ret)
 .skip))
 (.seq
 (.ae [aM 165 5 5 0 2 true,
 aa 166 3,
 aa 167 30,
 aV 168 166 167 (.aE 6),
 aS 169 168 1,
 aG 170 169 (.aN 5 true),
 bK 171 165 170 (.aB 358),
 aa 164 171,
 aG 172 164 (.ext 0),
 aG 173 164 (.ext 1),
 bG 31 ej,
 aU 31 172 31 0 5,
 aa 32 173] [3,5,18,29,30,31])
 (.ae [aa 174 29,
 aM 175 31 31 0 5 true,
 aG 176 175 (.aT 5),
 bK 177 174 176 (.append 5 64),
 aa 29 177] [3,5,18,29,30]))))
 (.ae [aa 154 30,
 bg 155 154 1 (.bin .add),
 aa 30 155] [3,5,18,29,30])))
def g389L2:aw:=.loop [3,5,18,29,30] g389B2
theorem g389L2e: cl AP g389L2 st=after (cl AP g389L2) (cl AP g389B2 (norm (restrict [3,5,18,29,30] st))):=aF
def g389B3:aw:=
 (.seq
 (.seq
 (.ae [aa 178 33,
 aa 179 18,
 aG 180 179 .len,
 aV 181 178 180 (.bin .lss)] [3,5,18,29,33,181])
 (.cond (.t 181)
 .skip
 (.exit 6)))
 (.seq
 (.block 7
 (.seq
 (.ae [aM 185 5 5 0 2 true,
 aa 186 18,
 aa 187 33,
 aV 188 186 187 (.aE 5),
 aG 189 188 (.aN 5 true),
 bK 190 185 189 (.aB 358),
 aa 184 190,
 aG 191 184 (.ext 0),
 aG 192 184 (.ext 1),
 bG 34 ej,
 aU 34 191 34 0 5,
 aa 35 192] [3,5,18,29,33,34])
 (.ae [aa 193 29,
 aM 194 34 34 0 5 true,
 aG 195 194 (.aT 5),
 bK 196 193 195 (.append 5 64),
 aa 29 196] [3,5,18,29,33])))
 (.ae [aa 182 33,
 bg 183 182 1 (.bin .add),
 aa 33 183] [3,5,18,29,33])))
def g389L3:aw:=.loop [3,5,18,29,33] g389B3
theorem g389L3e: cl AP g389L3 st=after (cl AP g389L3) (cl AP g389B3 (norm (restrict [3,5,18,29,33] st))):=aF
def g389:aH:=⟨5,207,[.t 10,.t 11,.t 12],
 (.seq
 (.ae [ba 5 0 (.box 5 2),
 ba 6 1 (.box 6 6),
 ba 7 2 (.box 7 5),
 a_ 10 [.c (.bB [])] .mv,
 a_ 11 [.c (.bB [])] .mv,
 a8 12 F_] [3,4,5,6,7])
 (.seq
 (.ae [a_ 13 [.c (.bB [])] .mv] [3,4,5,6,7,13])
 (.seq
 (.seq
 (.ae [a8 14 (k_ 0)] [3,4,5,6,7,13,14])
 (.block 0
 g389L0))
 (.seq
 (.ae [aS 51 6 1,
 aM 52 51 6 1 5 true,
 aa 53 13,
 bK 54 52 53 (.aB 48),
 bG 16 ej,
 aU 16 54 16 0 5] [3,4,5,7,16])
 (.seq
 (.ae [aM 55 16 16 0 5 true,
 bG 17 ej,
 aU 17 55 17 0 5] [3,4,5,7,16,17])
 (.seq
 (.ae [a_ 18 [.c (.bB [])] .mv] [3,4,5,7,16,17,18])
 (.seq
 (.block 2
 g389L1)
 (.seq
 (.ae [aM 120 5 5 0 2 true,
 aM 121 17 17 0 5 true,
 bK 122 120 121 (.aB 386),
 aU 17 122 17 0 5] [3,5,7,16,17,18])
 (.seq
 (.seq
 (.ae [aM 124 17 17 0 5 true,
 ba 125 124 (.aB 194),
 aa 123 125,
 aG 126 123 (.ext 0),
 aG 127 123 (.ext 1),
 aG 128 123 (.ext 2),
 bG 25 ej,
 bG 26 ej,
 aU 25 126 25 0 5,
 aU 26 127 26 0 5,
 aa 27 128] [3,5,7,16,17,18,27])
 (.seq
 (.ae [aa 129 27] [3,5,7,16,17,18,129])
 (.cond (.t 129)
 (.seq
 (.ae [a_ 10 [.c (.bB [])] .mv,
 a_ 11 [.c (.bB [])] .mv,
 a8 12 F_] [10,11,12])
 .ret)
 .skip)))
 (.seq
 (.ae [aM 130 5 5 0 2 true,
 aM 131 17 17 0 5 true,
 bK 132 130 131 (.aB 394),
 aM 133 7 7 0 5 true,
 bK 134 132 133 (.aB 394),
 aU 5 134 5 0 2] [3,5,7,16,17,18])
 (.seq
 (.ae [aM 136 5 5 0 2 true,
 aM 137 17 17 0 5 true,
 aM 138 7 7 0 5 true,
 bD 139 [.t 136,.t 137,.t 138] (.aB 385),
 aa 135 139,
 aG 140 135 (.ext 0),
 aG 141 135 (.ext 1),
 aU 5 140 5 0 2,
 aa 28 141] [3,5,16,18,28])
 (.seq
 (.seq
 (.ae [aa 142 28,
 bg 143 142 0 (.bin .neq),
 aa 144 143,
 aW 145 144 false 5 (.bj 5 0 2 true),
 aW 146 144 false 16 (.bj 16 0 5 true),
 cJ 147 144 false [.t 145,.t 146,k_ 200] (.aB 355),
 cJ 148 144 false [.t 147,k_ 200] (.v (.bin .gtr)),
 a_ 149 [.t 144,T_,.t 148] .pick] [3,5,18,149])
 (.cond (.t 149)
 (.seq
 (.ae [a_ 10 [.c (.bB [])] .mv,
 a_ 11 [.c (.bB [])] .mv,
 a8 12 F_] [10,11,12])
 .ret)
 .skip))
 (.seq
 (.ae [a_ 29 [.c (.bB [])] .mv] [3,5,18,29])
 (.seq
 (.seq
 (.ae [a8 30 (k_ 0)] [3,5,18,29,30])
 (.block 4
 g389L2))
 (.seq
 (.seq
 (.ae [a8 33 (k_ 0)] [3,5,18,29,33])
 (.block 6
 g389L3))
 (.seq
 (.ae [aa 197 29,
 ba 198 197 (.aI 395 []),
 aa 29 198] [3,29])
 (.seq
 (.ae [aa 199 29,
 aa 200 3,
 aG 201 200 .len,
 aV 202 199 201 (.slice false 5 false true false),
 aa 203 29,
 aa 204 3,
 aG 205 204 .len,
 aV 206 203 205 (.slice false 5 true false false),
 aa 10 202,
 aa 11 206,
 a8 12 T_] [10,11,12])
 .ret))))))))))))))))),none,false⟩
def g391B0:aw:=
 (.seq
 (.seq
 (.ae [aa 101 11,
 aS 102 8 4,
 aM 103 102 8 4 1 false,
 aG 104 103 .len,
 aV 105 101 104 (.bin .lss),
 aa 106 105,
 aW 107 106 true 10 (.v (.mv)),
 cJ 108 106 true [.t 107,k_ 0] (.v (.bin .eql)),
 a_ 109 [.t 106,.t 108,F_] .pick] [3,6,8,9,10,11,109])
 (.cond (.t 109)
 .skip
 (.exit 1)))
 (.seq
 (.block 2
 (.ae [aM 113 3 3 0 2 true,
 aS 114 8 4,
 aM 115 114 8 4 1 false,
 aa 116 11,
 aV 117 115 116 (.aE 5),
 aG 118 117 (.aN 5 true),
 aS 119 9 4,
 aM 120 119 9 4 1 false,
 aa 121 11,
 aV 122 120 121 (.aE 5),
 aG 123 122 (.aN 5 true),
 bD 124 [.t 113,.t 118,.t 123] (.aB 391),
 aa 112 124,
 aG 125 112 (.ext 0),
 aG 126 112 (.ext 1),
 aU 3 125 3 0 2,
 aa 10 126] [3,6,8,9,10,11]))
 (.ae [aa 110 11,
 bg 111 110 1 (.bin .add),
 aa 11 111] [3,6,8,9,10,11])))
def g391L0:aw:=.loop [3,6,8,9,10,11] g391B0
theorem g391L0e: cl AP g391L0 st=after (cl AP g391L0) (cl AP g391B0 (norm (restrict [3,6,8,9,10,11] st))):=aF
def g391:aH:=⟨3,129,[.c 6 2 true,.t 7],
 (.seq
 (.ae [ba 3 0 (.box 3 2),
 ba 4 1 (.box 4 5),
 ba 5 2 (.box 5 5),
 bG 6 [bQ,bQ],
 a8 7 (k_ 0)] [3,4,5,6])
 (.seq
 (.seq
 (.ae [aM 12 3 3 0 2 true,
 aM 13 4 4 0 5 true,
 bD 14 [.t 12,.t 13,k_ 200] (.aB 355),
 bg 15 14 200 (.bin .gtr),
 aa 16 15,
 aW 17 16 false 3 (.bj 3 0 2 true),
 aW 18 16 false 5 (.bj 5 0 5 true),
 cJ 19 16 false [.t 17,.t 18,k_ 200] (.aB 355),
 cJ 20 16 false [.t 19,k_ 200] (.v (.bin .gtr)),
 a_ 21 [.t 16,T_,.t 20] .pick] [3,4,5,6,21])
 (.cond (.t 21)
 (.seq
 (.ae [aM 22 3 3 0 2 true,
 aU 6 22 6 0 2,
 a8 7 (k_ 15)] [6,7])
 .ret)
 .skip))
 (.seq
 (.ae [aM 23 3 3 0 2 true,
 aM 24 4 4 0 5 true,
 bK 25 23 24 (.aB 386),
 aM 26 3 3 0 2 true,
 aM 27 5 5 0 5 true,
 bK 28 26 27 (.aB 386),
 bG 8 ej,
 bG 9 ej,
 aU 8 25 8 0 5,
 aU 9 28 9 0 5] [3,6,8,9])
 (.seq
 (.block 0
 (.seq
 (.ae [aM 30 3 3 0 2 true,
 aM 31 8 8 0 5 true,
 bK 32 30 31 (.aB 396),
 aa 33 32,
 aW 34 33 true 3 (.bj 3 0 2 true),
 aW 35 33 true 9 (.bj 9 0 5 true),
 cJ 36 33 true [.t 34,.t 35] (.aB 396),
 a_ 37 [.t 33,.t 36,F_] .pick,
 aa 29 37] [3,6,8,9,29])
 (.cond (.t 29)
 (.seq
 (.ae [aM 38 3 3 0 2 true,
 aM 39 8 8 0 5 true,
 aM 40 9 9 0 5 true,
 bD 41 [.t 38,.t 39,.t 40] (.aB 397),
 aU 6 41 6 0 2,
 a8 7 (k_ 0)] [6,7])
 .ret)
 (.seq
 (.ae [aM 43 3 3 0 2 true,
 aM 44 8 8 0 5 true,
 bK 45 43 44 (.aB 396),
 aa 42 45] [3,6,8,9,42])
 (.cond (.t 42)
 (.seq
 (.ae [aM 46 3 3 0 2 true,
 aS 47 8 2,
 aM 48 47 8 2 1 false,
 aM 49 9 9 0 5 true,
 bD 50 [.t 46,.t 48,.t 49] (.aB 398),
 aG 51 50 (.ext 0),
 aG 52 50 (.ext 1),
 aU 6 51 6 0 2,
 aa 7 52] [6,7])
 .ret)
 (.seq
 (.ae [aM 54 3 3 0 2 true,
 aM 55 9 9 0 5 true,
 bK 56 54 55 (.aB 396),
 aa 53 56] [3,6,8,9,53])
 (.cond (.t 53)
 (.seq
 (.ae [aM 57 3 3 0 2 true,
 aS 58 9 2,
 aM 59 58 9 2 1 false,
 aM 60 8 8 0 5 true,
 bD 61 [.t 57,.t 59,.t 60] (.aB 398),
 aG 62 61 (.ext 0),
 aG 63 61 (.ext 1),
 aU 6 62 6 0 2,
 aa 7 63] [6,7])
 .ret)
 (.seq
 (.ae [aS 65 8 0,
 aM 66 65 8 0 1 false,
 aS 67 9 0,
 aM 68 67 9 0 1 false,
 aV 69 66 68 (.bin .neq),
 aa 70 69,
 aW 71 70 false 8 (.v (.bh 1)),
 aW 72 70 false 71 (.bj 8 1 1 false),
 aW 73 70 false 9 (.v (.bh 1)),
 aW 74 70 false 73 (.bj 9 1 1 false),
 cJ 75 70 false [.t 72,.t 74] (.v (.bin .neq)),
 a_ 76 [.t 70,T_,.t 75] .pick,
 aa 77 76,
 aW 78 77 false 8 (.v (.bh 2)),
 aW 79 77 false 78 (.bj 8 2 1 false),
 aW 80 77 false 9 (.v (.bh 2)),
 aW 81 77 false 80 (.bj 9 2 1 false),
 cJ 82 77 false [.t 79,.t 81] (.v (.bin .neq)),
 a_ 83 [.t 77,T_,.t 82] .pick,
 aa 84 83,
 aW 85 84 false 8 (.v (.bh 3)),
 aW 86 84 false 85 (.bj 8 3 1 false),
 aW 87 84 false 9 (.v (.bh 3)),
 aW 88 84 false 87 (.bj 9 3 1 false),
 cJ 89 84 false [.t 86,.t 88] (.v (.bin .neq)),
 a_ 90 [.t 84,T_,.t 89] .pick,
 aa 91 90,
 aW 92 91 false 8 (.v (.bh 4)),
 aW 93 91 false 92 (.bj 8 4 1 false),
 aW 94 91 false 93 (.v (.len)),
 aW 95 91 false 9 (.v (.bh 4)),
 aW 96 91 false 95 (.bj 9 4 1 false),
 aW 97 91 false 96 (.v (.len)),
 cJ 98 91 false [.t 94,.t 97] (.v (.bin .neq)),
 a_ 99 [.t 91,T_,.t 98] .pick,
 aa 64 99] [3,6,8,9,64])
 (.cond (.t 64)
 (.seq
 (.ae [aM 100 3 3 0 2 true,
 aU 6 100 6 0 2,
 a8 7 (k_ 11)] [6,7])
 .ret)
 .skip)))))))))
 (.seq
 (.ae [a8 10 (k_ 0)] [3,6,8,9,10])
 (.seq
 (.seq
 (.ae [a8 11 (k_ 0)] [3,6,8,9,10,11])
 (.block 1
 g391L0))
 (.seq
 (.ae [aM 127 3 3 0 2 true,
 aa 128 10,
 aU 6 127 6 0 2,
 aa 7 128] [6,7])
 .ret))))))),none,false⟩
def g392:aH:=⟨2,30,[.t 4],
 (.seq
 (.ae [ba 2 0 (.box 2 2),
 ba 3 1 (.box 3 5),
 a8 4 F_] [2,3])
 (.seq
 (.ae [aS 5 3 0,
 aM 6 5 3 0 1 false,
 bg 7 6 1 (.bin .eql),
 aa 8 7,
 aW 9 8 true 3 (.v (.bh 2)),
 aW 10 8 true 9 (.bj 3 2 1 false),
 cJ 11 8 true [.t 10,k_ 0] (.v (.bin .geq)),
 a_ 12 [.t 8,.t 11,F_] .pick,
 aa 13 12,
 aW 14 13 true 3 (.v (.bh 2)),
 aW 15 13 true 14 (.bj 3 2 1 false),
 aW 16 13 true 2 (.v (.bh 0)),
 aW 17 13 true 16 (.bj 2 0 1 false),
 aW 18 13 true 17 (.v (.len)),
 cJ 19 13 true [.t 15,.t 18] (.v (.bin .lss)),
 a_ 20 [.t 13,.t 19,F_] .pick,
 aa 21 20,
 aW 22 21 true 2 (.v (.bh 0)),
 aW 23 21 true 22 (.bj 2 0 1 false),
 aW 24 21 true 3 (.v (.bh 2)),
 aW 25 21 true 24 (.bj 3 2 1 false),
 cJ 26 21 true [.t 23,.t 25] (.v (.aE 8)),
 aW 27 21 true 26 (.v (.bh 0)),
 aW 28 21 true 27 (.v (.aN 1 false)),
 a_ 29 [.t 21,.t 28,F_] .pick,
 aa 4 29] [4])
 .ret)),none,false⟩
def g393:aH:=⟨3,42,[.c 6 2 true,.t 7],
 (.seq
 (.ae [ba 3 0 (.box 3 2),
 ba 5 2 (.box 5 8),
 bG 6 [bQ,bQ],
 a8 7 F_] [1,3,5,6])
 (.seq
 (.seq
 (.ae [aa 9 1,
 bg 10 9 0 (.bin .lss),
 aa 11 10,
 aW 12 11 false 1 (.v (.mv)),
 aW 13 11 false 3 (.v (.bh 0)),
 aW 14 11 false 13 (.bj 3 0 1 false),
 aW 15 11 false 14 (.v (.len)),
 cJ 16 11 false [.t 12,.t 15] (.v (.bin .geq)),
 a_ 17 [.t 11,T_,.t 16] .pick] [1,3,5,6,17])
 (.cond (.t 17)
 (.seq
 (.ae [aM 18 3 3 0 2 true,
 aU 6 18 6 0 2,
 a8 7 F_] [6,7])
 .ret)
 .skip))
 (.seq
 (.ae [aS 19 3 0,
 aM 20 19 3 0 1 false,
 bD 21 [.c (.bB []),.t 20] (.c_ 8 88 true),
 aG 22 21 (.build [bQ,bQ] [(0,1)]),
 bG 8 [bQ,bQ],
 aU 8 22 8 0 2] [1,3,5,6,8])
 (.seq
 (.ae [aS 23 3 1,
 aM 24 23 3 1 1 false,
 bD 25 [.c (.bB []),.t 24] (.append 10 104),
 aa 26 1,
 aS 27 3 0,
 aM 28 27 3 0 1 false,
 aa 29 1,
 aV 30 28 29 (.aE 8),
 aG 31 30 (.aN 8 true),
 aV 32 26 31 (.build [a0,.bool false,a0,dN,a0,a0,bQ,a0,.bool false,.bool false] [(0,1),(1,8)]),
 aG 33 32 (.aT 10),
 bK 34 25 33 (.append 10 104),
 aS 35 8 1,
 aU 35 34 8 1 1] [1,5,6,8])
 (.seq
 (.ae [aS 36 8 0,
 aM 37 36 8 0 1 false,
 aa 38 1,
 aM 39 5 5 0 8 true,
 aV 40 37 38 (.aE 8),
 lP [.t 40,.t 39] (.cU 8)] [6,8])
 (.seq
 (.seq
 (.de [8])
 (.ae [aM 41 8 8 0 2 true,
 aU 6 41 6 0 2,
 a8 7 T_] [6,7]))
 .ret)))))),none,false⟩
def g394:aH:=⟨2,28,[.c 4 2 true],
 (.seq
 (.ae [ba 2 0 (.box 2 2),
 ba 3 1 (.box 3 5),
 bG 4 [bQ,bQ]] [2,3,4])
 (.seq
 (.ae [aM 6 2 2 0 2 true,
 aM 7 3 3 0 5 true,
 bK 8 6 7 (.aB 386),
 aU 3 8 3 0 5] [2,3,4])
 (.seq
 (.seq
 (.ae [aS 9 3 0,
 aM 10 9 3 0 1 false,
 bg 11 10 1 (.bin .eql)] [2,3,4,11])
 (.cond (.t 11)
 (.seq
 (.ae [aS 12 2 0,
 aM 13 12 2 0 1 false,
 aS 14 3 2,
 aM 15 14 3 2 1 false,
 aV 16 13 15 (.aE 8),
 aG 17 16 (.aN 8 true),
 bG 5 [.bool false,a0,dN,a0,a0,bQ,a0,.bool false],
 aU 5 17 5 0 8] [2,3,4,5])
 (.seq
 (.ae [aS 18 5 7,
 lP [.t 18,T_] (.cT 5 7 1)] [2,3,4,5])
 (.ae [aM 20 2 2 0 2 true,
 aS 21 3 2,
 aM 22 21 3 2 1 false,
 aM 23 5 5 0 8 true,
 bD 24 [.t 20,.t 22,.t 23] (.aB 393),
 aa 19 24,
 aG 25 19 (.ext 0),
 aG 26 19 (.ext 1),
 aU 2 25 2 0 2] [2,4])))
 .skip))
 (.seq
 (.ae [aM 27 2 2 0 2 true,
 aU 4 27 4 0 2] [4])
 .ret)))),none,false⟩
def g395B0:aw:=
 (.seq
 (.seq
 (.ae [aa 10 5,
 aa 11 3,
 aG 12 11 .len,
 aV 13 10 12 (.bin .lss)] [0,3,4,5,13])
 (.cond (.t 13)
 .skip
 (.exit 0)))
 (.seq
 (.block 1
 (.ae [aa 16 4,
 aa 17 3,
 aa 18 5,
 aV 19 17 18 (.aE 1),
 aG 20 19 (.aN 1 false),
 aa 21 5,
 ba 22 21 (.aB 63),
 aV 23 20 22 (.build pL [(0,1),(1,5)]),
 aG 24 23 (.aT 6),
 bK 25 16 24 (.append 6 72),
 aa 4 25] [0,3,4,5]))
 (.ae [aa 14 5,
 bg 15 14 1 (.bin .add),
 aa 5 15] [0,3,4,5])))
def g395L0:aw:=.loop [0,3,4,5] g395B0
theorem g395L0e: cl AP g395L0 st=after (cl AP g395L0) (cl AP g395B0 (norm (restrict [0,3,4,5] st))):=aF
def g395B1:aw:=
 (.seq
 (.seq
 (.ae [aa 26 7,
 aa 27 0,
 aG 28 27 .len,
 aV 29 26 28 (.bin .lss)] [0,4,6,7,29])
 (.cond (.t 29)
 .skip
 (.exit 2)))
 (.seq
 (.block 3
 (.ae [aa 32 6,
 aa 33 0,
 aa 34 7,
 aV 35 33 34 (.aE 5),
 aG 36 35 (.aN 5 true),
 aa 37 4,
 bK 38 36 37 (.aB 46),
 aG 39 38 (.aT 5),
 bK 40 32 39 (.append 5 64),
 aa 6 40] [0,4,6,7]))
 (.ae [aa 30 7,
 bg 31 30 1 (.bin .add),
 aa 7 31] [0,4,6,7])))
def g395L1:aw:=.loop [0,4,6,7] g395B1
theorem g395L1e: cl AP g395L1 st=after (cl AP g395L1) (cl AP g395B1 (norm (restrict [0,4,6,7] st))):=aF
def g395:aH:=⟨1,42,[.t 2],
 (.seq
 (.ae [a_ 2 [.c (.bB [])] .mv] [0])
 (.seq
 (.ae [aa 8 0,
 ba 9 8 (.aB 56),
 aa 3 9] [0,3])
 (.seq
 (.ae [a_ 4 [.c (.bB [])] .mv] [0,3,4])
 (.seq
 (.seq
 (.ae [a8 5 (k_ 0)] [0,3,4,5])
 (.block 0
 g395L0))
 (.seq
 (.ae [a_ 6 [.c (.bB [])] .mv] [0,4,6])
 (.seq
 (.seq
 (.ae [a8 7 (k_ 0)] [0,4,6,7])
 (.block 2
 g395L1))
 (.seq
 (.ae [aa 41 6,
 aa 2 41] [2])
 .ret))))))),none,false⟩
def g396:aH:=⟨2,21,[.t 4],
 (.seq
 (.ae [ba 2 0 (.box 2 2),
 ba 3 1 (.box 3 5),
 a8 4 F_] [2,3])
 (.seq
 (.ae [aS 5 3 0,
 aM 6 5 3 0 1 false,
 bg 7 6 1 (.bin .eql),
 aa 8 7,
 aW 9 8 true 3 (.v (.bh 2)),
 aW 10 8 true 9 (.bj 3 2 1 false),
 cJ 11 8 true [.t 10,k_ 0] (.v (.bin .geq)),
 a_ 12 [.t 8,.t 11,F_] .pick,
 aa 13 12,
 aW 14 13 true 3 (.v (.bh 2)),
 aW 15 13 true 14 (.bj 3 2 1 false),
 aW 16 13 true 2 (.v (.bh 0)),
 aW 17 13 true 16 (.bj 2 0 1 false),
 aW 18 13 true 17 (.v (.len)),
 cJ 19 13 true [.t 15,.t 18] (.v (.bin .lss)),
 a_ 20 [.t 13,.t 19,F_] .pick,
 aa 4 20] [4])
 .ret)),none,false⟩
def g397:aH:=⟨3,69,[.c 6 2 true],
 (.seq
 (.ae [ba 3 0 (.box 3 2),
 ba 4 1 (.box 4 5),
 ba 5 2 (.box 5 5),
 bG 6 [bQ,bQ]] [3,4,5,6])
 (.seq
 (.seq
 (.ae [aS 11 4 2,
 aM 12 11 4 2 1 false,
 aS 13 5 2,
 aM 14 13 5 2 1 false,
 aV 15 12 14 (.bin .eql)] [3,4,5,6,15])
 (.cond (.t 15)
 (.seq
 (.ae [aM 16 3 3 0 2 true,
 aU 6 16 6 0 2] [6])
 .ret)
 .skip))
 (.seq
 (.ae [aS 17 4 2,
 aM 18 17 4 2 1 false,
 aS 19 5 2,
 aM 20 19 5 2 1 false,
 aV 21 18 20 .mn,
 aS 22 4 2,
 aM 23 22 4 2 1 false,
 aS 24 5 2,
 aM 25 24 5 2 1 false,
 aV 26 23 25 .mx,
 aa 7 21,
 aa 8 26] [3,6,7,8])
 (.seq
 (.ae [aS 27 3 0,
 aM 28 27 3 0 1 false,
 aa 29 7,
 aV 30 28 29 (.aE 8),
 aG 31 30 (.aN 8 true),
 aS 32 3 0,
 aM 33 32 3 0 1 false,
 aa 34 8,
 aV 35 33 34 (.aE 8),
 aG 36 35 (.aN 8 true),
 bG 9 [.bool false,a0,dN,a0,a0,bQ,a0,.bool false],
 bG 10 [.bool false,a0,dN,a0,a0,bQ,a0,.bool false],
 aU 9 31 9 0 8,
 aU 10 36 10 0 8] [3,6,7,8,9,10])
 (.seq
 (.ae [aS 37 9 6,
 aM 38 37 9 6 1 false,
 aS 39 10 6,
 aM 40 39 10 6 1 false,
 aV 41 38 40 .mn,
 aS 42 9 7,
 aM 43 42 9 7 1 false,
 aa 44 43,
 aW 45 44 false 10 (.v (.bh 7)),
 aW 46 44 false 45 (.bj 10 7 1 false),
 a_ 47 [.t 44,T_,.t 46] .pick,
 aS 48 9 6,
 aU 48 41 9 6 1,
 aS 49 9 7,
 aU 49 47 9 7 1] [3,6,7,8,9,10])
 (.seq
 (.ae [aa 50 7,
 ba 51 50 (.aB 63),
 aS 52 10 0,
 lP [.t 52,T_] (.cT 10 0 1),
 aS 53 10 1,
 aU 53 51 10 1 5] [3,6,7,8,9,10])
 (.seq
 (.ae [aM 55 3 3 0 2 true,
 aa 56 7,
 aM 57 9 9 0 8 true,
 bD 58 [.t 55,.t 56,.t 57] (.aB 393),
 aa 54 58,
 aG 59 54 (.ext 0),
 aG 60 54 (.ext 1),
 aU 3 59 3 0 2] [3,6,8,10])
 (.seq
 (.ae [aM 62 3 3 0 2 true,
 aa 63 8,
 aM 64 10 10 0 8 true,
 bD 65 [.t 62,.t 63,.t 64] (.aB 393),
 aa 61 65,
 aG 66 61 (.ext 0),
 aG 67 61 (.ext 1),
 aU 3 66 3 0 2] [3,6])
 (.seq
 (.ae [aM 68 3 3 0 2 true,
 aU 6 68 6 0 2] [6])
 .ret))))))))),none,false⟩
def g398B0:aw:=
 (.seq
 (.seq
 (.ae [aa 54 16,
 aa 55 15,
 aG 56 55 .len,
 aV 57 54 56 (.bin .lss)] [1,3,5,6,8,9,15,16,57])
 (.cond (.t 57)
 .skip
 (.exit 0)))
 (.seq
 (.block 1
 (.seq
 (.ae [aa 60 15,
 aa 61 16,
 aV 62 60 61 (.aE 5),
 aS 63 62 3,
 aG 64 63 (.aN 1 false),
 aS 65 8 6,
 aM 66 65 8 6 1 false,
 aV 67 64 66 (.bin .gtr)] [1,3,5,6,8,9,15,16,67])
 (.cond (.t 67)
 (.seq
 (.ae [aM 68 3 3 0 2 true,
 aU 6 68 6 0 2,
 a8 7 (k_ 13)] [6,7])
 .ret)
 .skip)))
 (.ae [aa 58 16,
 bg 59 58 1 (.bin .add),
 aa 16 59] [1,3,5,6,8,9,15,16])))
def g398L0:aw:=.loop [1,3,5,6,8,9,15,16] g398B0
theorem g398L0e: cl AP g398L0 st=after (cl AP g398L0) (cl AP g398B0 (norm (restrict [1,3,5,6,8,9,15,16] st))):=aF
def g398B1:aw:=
 (.seq
 (.seq
 (.ae [aa 69 17,
 aa 70 9,
 aG 71 70 .len,
 aV 72 69 71 (.bin .lss)] [1,3,5,6,8,9,17,72])
 (.cond (.t 72)
 .skip
 (.exit 2)))
 (.seq
 (.block 3
 (.seq
 (.ae [aa 75 9,
 aa 76 17,
 aV 77 75 76 (.aE 1),
 aG 78 77 (.aN 1 false),
 aS 79 3 0,
 aM 80 79 3 0 1 false,
 aG 81 80 .len,
 aV 82 78 81 (.bin .geq),
 aa 83 82,
 aW 84 83 true 8 (.v (.bh 6)),
 aW 85 83 true 84 (.bj 8 6 1 false),
 cJ 86 83 true [.t 85,k_ 0] (.v (.bin .lss)),
 a_ 87 [.t 83,.t 86,F_] .pick] [1,3,5,6,8,9,17,87])
 (.cond (.t 87)
 (.seq
 (.ae [aM 88 3 3 0 2 true,
 aU 6 88 6 0 2,
 a8 7 (k_ 13)] [6,7])
 .ret)
 .skip)))
 (.ae [aa 73 17,
 bg 74 73 1 (.bin .add),
 aa 17 74] [1,3,5,6,8,9,17])))
def g398L1:aw:=.loop [1,3,5,6,8,9,17] g398B1
theorem g398L1e: cl AP g398L1 st=after (cl AP g398L1) (cl AP g398B1 (norm (restrict [1,3,5,6,8,9,17] st))):=aF
def g398B2:aw:=
 (.seq
 (.seq
 (.ae [aa 89 18,
 aa 90 9,
 aG 91 90 .len,
 aV 92 89 91 (.bin .lss)] [1,3,5,6,8,9,18,92])
 (.cond (.t 92)
 .skip
 (.exit 4)))
 (.seq
 (.block 5
 (.seq
 (.ae [aa 95 9,
 aa 96 18,
 aV 97 95 96 (.aE 1),
 aG 98 97 (.aN 1 false),
 aS 99 3 0,
 aM 100 99 3 0 1 false,
 aG 101 100 .len,
 aV 102 98 101 (.bin .lss),
 aa 103 102,
 aW 104 103 true 3 (.v (.bh 0)),
 aW 105 103 true 104 (.bj 3 0 1 false),
 aW 106 103 true 9 (.v (.mv)),
 aW 107 103 true 18 (.v (.mv)),
 cJ 108 103 true [.t 106,.t 107] (.v (.aE 1)),
 aW 109 103 true 108 (.v (.aN 1 false)),
 cJ 110 103 true [.t 105,.t 109] (.v (.aE 8)),
 aW 111 103 true 110 (.v (.bh 6)),
 aW 112 103 true 111 (.v (.aN 1 false)),
 aW 113 103 true 8 (.v (.bh 6)),
 aW 114 103 true 113 (.bj 8 6 1 false),
 cJ 115 103 true [.t 112,.t 114] (.v (.bin .gtr)),
 a_ 116 [.t 103,.t 115,F_] .pick] [1,3,5,6,8,9,18,116])
 (.cond (.t 116)
 (.seq
 (.ae [aS 117 3 0,
 aM 118 117 3 0 1 false,
 aa 119 9,
 aa 120 18,
 aV 121 119 120 (.aE 1),
 aG 122 121 (.aN 1 false),
 aV 123 118 122 (.aE 8),
 aG 124 123 (.aN 8 true),
 bG 19 [.bool false,a0,dN,a0,a0,bQ,a0,.bool false],
 aU 19 124 19 0 8] [1,3,5,6,8,9,18,19])
 (.seq
 (.ae [aS 125 8 6,
 aM 126 125 8 6 1 false,
 aS 127 19 6,
 aU 127 126 19 6 1] [1,3,5,6,8,9,18,19])
 (.ae [aM 129 3 3 0 2 true,
 aa 130 9,
 aa 131 18,
 aV 132 130 131 (.aE 1),
 aG 133 132 (.aN 1 false),
 aM 134 19 19 0 8 true,
 bD 135 [.t 129,.t 133,.t 134] (.aB 393),
 aa 128 135,
 aG 136 128 (.ext 0),
 aG 137 128 (.ext 1),
 aU 3 136 3 0 2] [1,3,5,6,8,9,18])))
 .skip)))
 (.ae [aa 93 18,
 bg 94 93 1 (.bin .add),
 aa 18 94] [1,3,5,6,8,9,18])))
def g398L2:aw:=.loop [1,3,5,6,8,9,18] g398B2
theorem g398L2e: cl AP g398L2 st=after (cl AP g398L2) (cl AP g398B2 (norm (restrict [1,3,5,6,8,9,18] st))):=aF
def g398:aH:=⟨3,149,[.c 6 2 true,.t 7],
 (.seq
 (.ae [ba 3 0 (.box 3 2),
 ba 5 2 (.box 5 5),
 bG 6 [bQ,bQ],
 a8 7 (k_ 0)] [1,3,5,6])
 (.seq
 (.ae [aS 20 3 0,
 aM 21 20 3 0 1 false,
 aa 22 1,
 aV 23 21 22 (.aE 8),
 aG 24 23 (.aN 8 true),
 bG 8 [.bool false,a0,dN,a0,a0,bQ,a0,.bool false],
 aU 8 24 8 0 8] [1,3,5,6,8])
 (.seq
 (.ae [aM 25 3 3 0 2 true,
 aM 26 5 5 0 5 true,
 aG 27 26 (.aT 5),
 bK 28 25 27 (.aB 372),
 aa 9 28] [1,3,5,6,8,9])
 (.seq
 (.seq
 (.ae [aa 29 9,
 aa 30 1,
 bK 31 29 30 (.aB 95)] [1,3,5,6,8,9,31])
 (.cond (.t 31)
 (.seq
 (.ae [aM 32 3 3 0 2 true,
 aU 6 32 6 0 2,
 a8 7 (k_ 12)] [6,7])
 .ret)
 .skip))
 (.seq
 (.seq
 (.ae [aM 34 5 5 0 5 true,
 ba 35 34 (.aB 194),
 aa 33 35,
 aG 36 33 (.ext 0),
 aG 37 33 (.ext 1),
 aG 38 33 (.ext 2),
 bG 10 ej,
 bG 11 ej,
 aU 10 36 10 0 5,
 aU 11 37 11 0 5,
 aa 12 38] [1,3,5,6,8,9,12])
 (.seq
 (.ae [aa 39 12,
 aa 40 39,
 aW 41 40 true 8 (.v (.bh 7)),
 aW 42 40 true 41 (.bj 8 7 1 false),
 a_ 43 [.t 40,.t 42,F_] .pick] [1,3,5,6,8,9,43])
 (.cond (.t 43)
 (.seq
 (.ae [aM 44 3 3 0 2 true,
 aU 6 44 6 0 2,
 a8 7 (k_ 14)] [6,7])
 .ret)
 .skip)))
 (.seq
 (.ae [aM 46 3 3 0 2 true,
 aM 47 5 5 0 5 true,
 bK 48 46 47 (.aB 358),
 aa 45 48,
 aG 49 45 (.ext 0),
 aG 50 45 (.ext 1),
 bG 13 ej,
 aU 13 49 13 0 5,
 aa 14 50] [1,3,5,6,8,9,13])
 (.seq
 (.ae [aM 51 13 13 0 5 true,
 aG 52 51 (.aT 5),
 ba 53 52 (.aB 59),
 aa 15 53] [1,3,5,6,8,9,15])
 (.seq
 (.seq
 (.ae [a8 16 (k_ 0)] [1,3,5,6,8,9,15,16])
 (.block 0
 g398L0))
 (.seq
 (.seq
 (.ae [a8 17 (k_ 0)] [1,3,5,6,8,9,17])
 (.block 2
 g398L1))
 (.seq
 (.seq
 (.ae [a8 18 (k_ 0)] [1,3,5,6,8,9,18])
 (.block 4
 g398L2))
 (.seq
 (.ae [aM 138 5 5 0 5 true,
 aS 139 8 0,
 lP [.t 139,T_] (.cT 8 0 1),
 aS 140 8 1,
 aU 140 138 8 1 5] [1,3,6,8])
 (.seq
 (.ae [aM 142 3 3 0 2 true,
 aa 143 1,
 aM 144 8 8 0 8 true,
 bD 145 [.t 142,.t 143,.t 144] (.aB 393),
 aa 141 145,
 aG 146 141 (.ext 0),
 aG 147 141 (.ext 1),
 aU 3 146 3 0 2] [3,6])
 (.seq
 (.ae [aM 148 3 3 0 2 true,
 aU 6 148 6 0 2,
 a8 7 (k_ 0)] [6,7])
 .ret))))))))))))),none,false⟩
def g400B0:aw:=
 (.seq
 (.seq
 (.ae [aa 48 13,
 aa 49 3,
 bD 50 [.t 49,k_ 6] (.aB 26),
 aV 51 48 50 (.bin .lss)] [3,9,10,11,12,13,51])
 (.cond (.t 51)
 .skip
 (.exit 0)))
 (.seq
 (.block 1
 (.seq
 (.ae [aM 54 12 12 0 11 true,
 ba 55 54 (.aB 145),
 aa 14 55] [3,9,10,11,12,13,14])
 (.seq
 (.seq
 (.ae [aa 56 14,
 aG 57 56 .len,
 bg 58 57 0 (.bin .eql)] [3,9,10,11,12,13,14,58])
 (.cond (.t 58)
 (.exit 0)
 .skip))
 (.seq
 (.ae [aa 59 3,
 aa 60 13,
 a_ 61 [k_ 3,.t 60] (.bin .mul),
 aV 62 59 61 (.bin .add),
 aa 63 14,
 aG 64 63 .len,
 bK 65 62 64 (.aB 26),
 aa 15 65] [3,9,10,11,12,13,14,15])
 (.ae [aa 66 11,
 aa 67 15,
 aG 68 67 (.aT 1),
 bK 69 66 68 (.append 1 8),
 aa 70 14,
 aa 71 15,
 aV 72 70 71 (.aE 11),
 aG 73 72 (.aN 11 true),
 aa 11 69,
 aU 12 73 12 0 11] [3,9,10,11,12,13])))))
 (.ae [aa 52 13,
 bg 53 52 1 (.bin .add),
 aa 13 53] [3,9,10,11,12,13])))
def g400L0:aw:=.loop [3,9,10,11,12,13] g400B0
theorem g400L0e: cl AP g400L0 st=after (cl AP g400L0) (cl AP g400B0 (norm (restrict [3,9,10,11,12,13] st))):=aF
def g400B1:aw:=
 (.seq
 (.seq
 (.ae [aa 78 17,
 aS 79 9 1,
 aM 80 79 9 1 1 false,
 aG 81 80 .len,
 aV 82 78 81 (.bin .lss)] [9,12,16,17,82])
 (.cond (.t 82)
 .skip
 (.exit 2)))
 (.seq
 (.block 3
 (.ae [aa 85 16,
 aS 86 9 1,
 aM 87 86 9 1 1 false,
 aa 88 17,
 aV 89 87 88 (.aE 20),
 aS 90 89 2,
 aG 91 90 (.aN 1 false),
 aG 92 91 (.aT 1),
 bK 93 85 92 (.c_ 1 16 false),
 aa 16 93] [9,12,16,17]))
 (.ae [aa 83 17,
 bg 84 83 1 (.bin .add),
 aa 17 84] [9,12,16,17])))
def g400L1:aw:=.loop [9,12,16,17] g400B1
theorem g400L1e: cl AP g400L1 st=after (cl AP g400L1) (cl AP g400B1 (norm (restrict [9,12,16,17] st))):=aF
def g400:aH:=⟨4,101,[.t 8],
 (.seq
 (.ae [a8 8 F_] [0,1,2,3])
 (.seq
 (.seq
 (.ae [bD 18 [] (.aB 401),
 aG 19 18 (.un .not)] [0,1,2,3,19])
 (.cond (.t 19)
 (.seq
 (.ae [a8 8 F_] [8])
 .ret)
 .skip))
 (.seq
 (.seq
 (.ae [aa 20 1,
 ba 21 20 (.aB 15),
 aG 22 21 (.un .not)] [0,1,2,3,22])
 (.cond (.t 22)
 (.seq
 (.ae [a8 8 T_] [8])
 .ret)
 .skip))
 (.seq
 (.ae [aa 23 0,
 aa 24 1,
 aa 25 2,
 bD 26 [.t 23,.t 24,.t 25] (.aB 310),
 bG 9 [bQ,bQ],
 aU 9 26 9 0 2] [3,9])
 (.seq
 (.seq
 (.ae [aM 27 9 9 0 2 true,
 ba 28 27 (.aB 403),
 aG 29 28 (.field 0 1 false),
 bg 30 29 0 (.bin .neq),
 aa 31 30,
 aW 32 31 false 9 (.v (.bh 1)),
 aW 33 31 false 32 (.bj 9 1 1 false),
 aW 34 31 false 33 (.v (.len)),
 cJ 35 31 false [.t 34,k_ 0] (.v (.bin .eql)),
 a_ 36 [.t 31,T_,.t 35] .pick] [3,9,36])
 (.cond (.t 36)
 (.seq
 (.ae [a8 8 T_] [8])
 .ret)
 .skip))
 (.seq
 (.ae [aS 37 9 1,
 aM 38 37 9 1 1 false,
 aa 39 3,
 aS 40 9 1,
 aM 41 40 9 1 1 false,
 aG 42 41 .len,
 bK 43 39 42 (.aB 26),
 aV 44 38 43 (.aE 20),
 aG 45 44 (.aN 20 true),
 bG 10 [a0,.bool false,dN,.bool false,a0,dN,a0,a0,bQ,a0,a0,dN,a0,bQ,bQ,a0,dN,a0,a0,bQ],
 aU 10 45 10 0 20] [3,9,10])
 (.seq
 (.ae [a_ 11 [.c (.bB [])] .mv] [3,9,10,11])
 (.seq
 (.ae [aS 46 10 9,
 aM 47 46 10 9 11 true,
 bG 12 ek,
 aU 12 47 12 0 11] [3,9,10,11,12])
 (.seq
 (.seq
 (.ae [a8 13 (k_ 0)] [3,9,10,11,12,13])
 (.block 0
 g400L0))
 (.seq
 (.ae [aS 74 10 9,
 aM 75 74 10 9 11 true,
 aa 76 11,
 bK 77 75 76 (.aI 404 []),
 aa 16 77] [9,12,16])
 (.seq
 (.seq
 (.ae [a8 17 (k_ 0)] [9,12,16,17])
 (.block 2
 g400L1))
 (.seq
 (.seq
 (.de [16])
 (.ae [aS 94 9 0,
 aM 95 94 9 0 1 false,
 aa 96 16,
 aM 97 12 12 0 11 true,
 bD 98 [.t 95,.t 96,.t 97] (.dW 405),
 aG 99 98 (.field 0 1 false),
 bg 100 99 0 (.bin .eql),
 aa 8 100] [8]))
 .ret)))))))))))),none,false⟩
def g401:aH:=⟨0,40,[.t 0],
 (.seq
 (.ae [a8 0 F_] [])
 (.seq
 (.ae [bD 5 [.c (.pv (.str [92,120,46,32,108,101,116,32,121,32,61,32,63,32,105,110,32,63]))] (.aB 406),
 bG 1 ek,
 aU 1 5 1 0 11] [1])
 (.seq
 (.ae [bD 6 [k_ 2] (.aB 32),
 aa 2 6] [1,2])
 (.seq
 (.ae [aa 8 2,
 bD 9 [.c (.pv (.str [99,97,115,101,32,120,32,111,102,32,78,111,110,101,46,32,49,32,124,32,83,111,109,101,32,120,46,32,120,32,101,110,100]))] (.aB 406),
 aG 10 9 (.field 5 1 false),
 bK 11 8 10 (.aB 407),
 aa 7 11,
 aG 12 7 (.ext 0),
 aG 13 7 (.ext 1),
 aa 3 12,
 aa 4 13] [1,2,3,4])
 (.seq
 (.ae [aM 14 1 1 0 11 true,
 a_ 15 [k_ 0,k_ 0] (.aT 1),
 bK 16 14 15 (.aB 404),
 a_ 17 [.c (.pv (.str [120]))] (.aT 1),
 bK 18 16 17 (.aB 408),
 aa 19 18,
 aW 20 19 true 1 (.bj 1 0 11 true),
 cJ 21 19 true [k_ 0,k_ 1] (.v (.aT 1)),
 cJ 22 19 true [.t 20,.t 21] (.aB 404),
 cJ 23 19 true [.c (.pv (.str [120])),.c (.pv (.str [121]))] (.v (.aT 1)),
 cJ 24 19 true [.t 22,.t 23] (.aB 408),
 a_ 25 [.t 19,.t 24,F_] .pick,
 aa 26 25,
 aW 27 26 true 4 (.v (.mv)),
 a_ 28 [.t 26,.t 27,F_] .pick,
 aa 29 28,
 aW 30 29 true 3 (.v (.mv)),
 cJ 31 29 true [.t 30,k_ 0] (.v (.bin .eql)),
 a_ 32 [.t 29,.t 31,F_] .pick,
 aa 33 32,
 aW 34 33 true 2 (.v (.mv)),
 cJ 35 33 true [.c (.pv (.str [120]))] (.aB 406),
 cJ 36 33 true [.t 34,.c (.bB []),.t 35] (.aB 405),
 aW 37 33 true 36 (.v (.field 0 1 false)),
 cJ 38 33 true [.t 37,k_ 9] (.v (.bin .eql)),
 a_ 39 [.t 33,.t 38,F_] .pick,
 aa 0 39] [0])
 .ret))))),none,false⟩
def g403B0:aw:=
 (.seq
 (.ae [aV 21 20 19 (.bin .lss)] [1,2,4,18,19,20,21])
 (.seq
 (.cond (.t 21)
 .skip
 (.exit 0))
 (.seq
 (.block 1
 (.seq
 (.ae [aV 22 18 20 (.aE 20),
 aG 23 22 (.aN 20 true),
 bG 6 [a0,.bool false,dN,.bool false,a0,dN,a0,a0,bQ,a0,a0,dN,a0,bQ,bQ,a0,dN,a0,a0,bQ],
 aU 6 23 6 0 20] [1,2,4,6,18,19,20])
 (.seq
 (.seq
 (.ae [aa 24 4,
 aS 25 6 2,
 aM 26 25 6 2 1 false,
 bK 27 24 26 (.aB 214)] [1,2,4,6,18,19,20,27])
 (.cond (.t 27)
 (.seq
 (.ae [aS 28 6 0,
 aM 29 28 6 0 1 false,
 a_ 30 [k_ 6,.t 29] (.build [a0,a0] [(0,1),(1,1)]),
 aU 2 30 2 0 2] [2])
 .ret)
 .skip))
 (.seq
 (.seq
 (.ae [aS 31 6 3,
 aM 32 31 6 3 1 false] [1,2,4,6,18,19,20,32])
 (.cond (.t 32)
 (.seq
 (.ae [aS 33 1 0,
 aM 34 33 1 0 1 false,
 aS 35 6 4,
 aM 36 35 6 4 5 true,
 aS 37 6 4,
 aM 38 37 6 4 5 true,
 ba 39 38 (.aB 195),
 bD 40 [.t 34,.t 36,.t 39] (.aB 185),
 aa 7 40] [1,2,4,6,7,18,19,20])
 (.seq
 (.ae [aa 41 7,
 bg 42 41 0 (.bin .neq)] [1,2,4,6,7,18,19,20,42])
 (.cond (.t 42)
 (.seq
 (.ae [aa 43 7,
 aS 44 6 0,
 aM 45 44 6 0 1 false,
 aV 46 43 45 (.build [a0,a0] [(0,1),(1,1)]),
 aU 2 46 2 0 2] [2])
 .ret)
 .skip)))
 .skip))
 (.seq
 (.ae [aa 47 4,
 aa 8 47] [1,2,4,6,8,18,19,20])
 (.seq
 (.seq
 (.ae [aS 48 6 1,
 aM 49 48 6 1 1 false] [1,2,4,6,8,18,19,20,49])
 (.cond (.t 49)
 (.ae [aa 50 4,
 aS 51 6 2,
 aM 52 51 6 2 1 false,
 aG 53 52 (.aT 1),
 bK 54 50 53 (.aB 409),
 aa 8 54] [1,2,4,6,8,18,19,20])
 .skip))
 (.seq
 (.seq
 (.ae [aS 55 1 0,
 aM 56 55 1 0 1 false,
 aa 57 8,
 aS 58 6 9,
 aM 59 58 6 9 11 true,
 bD 60 [.t 56,.t 57,.t 59] (.aB 405),
 bG 9 [a0,a0],
 aU 9 60 9 0 2] [1,2,4,6,9,18,19,20])
 (.seq
 (.ae [aS 61 9 0,
 aM 62 61 9 0 1 false,
 bg 63 62 0 (.bin .neq)] [1,2,4,6,9,18,19,20,63])
 (.cond (.t 63)
 (.seq
 (.ae [aM 64 9 9 0 2 true,
 aU 2 64 2 0 2] [2])
 .ret)
 .skip)))
 (.ae [aa 65 4,
 aS 66 6 2,
 aM 67 66 6 2 1 false,
 aG 68 67 (.aT 1),
 bK 69 65 68 (.aB 409),
 aa 4 69] [1,2,4,18,19,20]))))))))
 (.ae [bg 70 20 1 (.bin .add),
 aa 20 70] [1,2,4,18,19,20]))))
def g403L0:aw:=.loop [1,2,4,18,19,20] g403B0
theorem g403L0e: cl AP g403L0 st=after (cl AP g403L0) (cl AP g403B0 (norm (restrict [1,2,4,18,19,20] st))):=aF
def g403:aH:=⟨1,72,[.c 2 2 true],
 (.seq
 (.ae [ba 1 0 (.box 1 2),
 bG 2 [a0,a0]] [1,2])
 (.seq
 (.seq
 (.ae [aS 10 1 0,
 aM 11 10 1 0 1 false,
 ba 12 11 (.aB 188),
 bG 3 [a0,a0],
 aU 3 12 3 0 2] [1,2,3])
 (.seq
 (.ae [aS 13 3 0,
 aM 14 13 3 0 1 false,
 bg 15 14 0 (.bin .neq)] [1,2,3,15])
 (.cond (.t 15)
 (.seq
 (.ae [aM 16 3 3 0 2 true,
 aU 2 16 2 0 2] [2])
 .ret)
 .skip)))
 (.seq
 (.ae [a_ 4 [.c (.bB [])] .mv] [1,2,4])
 (.seq
 (.seq
 (.ae [aS 17 1 1,
 aM 18 17 1 1 1 false,
 aG 19 18 .len,
 a8 20 (k_ 0)] [1,2,4,18,19,20])
 (.block 0
 g403L0))
 (.seq
 (.ae [a_ 71 [] (.build [a0,a0] []),
 aU 2 71 2 0 2] [2])
 .ret))))),none,false⟩
def g404B1:aw:=
 (.seq
 (.ae [aV 31 30 29 (.bin .lss)] [2,7,9,20,21,22,28,29,30,31])
 (.seq
 (.cond (.t 31)
 .skip
 (.exit 2))
 (.seq
 (.block 3
 (.seq
 (.ae [aV 32 28 30 (.aE 1),
 aG 33 32 (.aN 1 false),
 bD 11 [] (.hH [dN]),
 lP [.t 11,.t 33] (.cU 1)] [2,7,9,11,20,21,22,28,29,30])
 (.seq
 (.ae [aa 34 7,
 aG 35 11 (.CG 413),
 bK 36 34 35 (.aI 412 [0]),
 aa 7 36] [2,7,9,11,20,21,22,28,29,30])
 (.ae [aa 37 7,
 ba 38 11 (.aZ 1 false),
 aG 39 38 (.aT 1),
 bK 40 37 39 (.c_ 1 16 false),
 aa 7 40] [2,7,9,20,21,22,28,29,30]))))
 (.ae [bg 41 30 1 (.bin .add),
 aa 30 41] [2,7,9,20,21,22,28,29,30]))))
def g404L1:aw:=.loop [2,7,9,20,21,22,28,29,30] g404B1
theorem g404L1e: cl AP g404L1 st=after (cl AP g404L1) (cl AP g404B1 (norm (restrict [2,7,9,20,21,22,28,29,30] st))):=aF
def g404B0:aw:=
 (.seq
 (.ae [aV 23 22 21 (.bin .lss)] [2,7,20,21,22,23])
 (.seq
 (.cond (.t 23)
 .skip
 (.exit 0))
 (.seq
 (.block 1
 (.seq
 (.ae [aV 24 20 22 (.aE 1),
 aG 25 24 (.aN 1 false),
 aa 9 25] [2,7,9,20,21,22])
 (.seq
 (.seq
 (.ae [aM 26 2 2 0 11 true,
 aa 27 9,
 bK 28 26 27 (.aB 411),
 aG 29 28 .len,
 a8 30 (k_ 0)] [2,7,9,20,21,22,28,29,30])
 (.block 2
 g404L1))
 (.ae [aM 42 2 2 0 11 true,
 ba 43 42 (.aB 414),
 aa 44 9,
 aV 45 43 44 (.aE 11),
 aG 46 45 (.aN 11 true),
 aU 2 46 2 0 11] [2,7,20,21,22]))))
 (.ae [bg 47 22 1 (.bin .add),
 aa 22 47] [2,7,20,21,22]))))
def g404L0:aw:=.loop [2,7,20,21,22] g404B0
theorem g404L0e: cl AP g404L0 st=after (cl AP g404L0) (cl AP g404B0 (norm (restrict [2,7,20,21,22] st))):=aF
def g404:aH:=⟨2,49,[.t 4],
 (.seq
 (.ae [ba 2 0 (.box 2 11),
 a_ 4 [.c (.bB [])] .mv] [1,2])
 (.seq
 (.seq
 (.ae [aM 13 2 2 0 11 true,
 aa 14 1,
 bK 15 13 14 (.aB 410),
 aa 12 15,
 aG 16 12 (.ext 0),
 aG 17 12 (.ext 1),
 bG 5 ek,
 aU 5 16 5 0 11,
 aa 6 17] [1,2,6])
 (.seq
 (.ae [aa 18 6,
 aG 19 18 (.un .not)] [1,2,19])
 (.cond (.t 19)
 (.seq
 (.ae [a_ 4 [.c (.bB [])] .mv] [4])
 .ret)
 .skip)))
 (.seq
 (.ae [a_ 7 [.c (.bB [])] .mv] [1,2,7])
 (.seq
 (.seq
 (.ae [aa 20 1,
 aG 21 20 .len,
 a8 22 (k_ 0)] [2,7,20,21,22])
 (.block 0
 g404L0))
 (.seq
 (.ae [aa 48 7,
 aa 4 48] [4])
 .ret))))),none,true⟩
def g405B0:aw:=
 (.seq
 (.ae [aV 67 66 65 (.bin .lss)] [0,1,5,6,64,65,66,67])
 (.seq
 (.cond (.t 67)
 .skip
 (.exit 1))
 (.seq
 (.block 2
 (.seq
 (.ae [aa 68 66,
 aV 69 64 66 (.aE 11),
 aG 70 69 (.aN 11 true),
 bG 13 ek,
 aa 12 68,
 aU 13 70 13 0 11] [0,1,5,6,12,13,64,65,66])
 (.seq
 (.ae [aa 71 0,
 aa 72 1,
 aM 73 5 5 0 11 true,
 aa 74 12,
 bK 75 73 74 (.aB 411),
 bK 76 72 75 (.aB 409),
 aM 77 13 13 0 11 true,
 bD 78 [.t 71,.t 76,.t 77] (.aB 405),
 bG 14 [a0,a0],
 aU 14 78 14 0 2] [0,1,5,6,14,64,65,66])
 (.seq
 (.ae [aS 79 14 0,
 aM 80 79 14 0 1 false,
 bg 81 80 0 (.bin .neq)] [0,1,5,6,14,64,65,66,81])
 (.cond (.t 81)
 (.seq
 (.ae [aM 82 14 14 0 2 true,
 aU 6 82 6 0 2] [6])
 .ret)
 .skip)))))
 (.ae [bg 83 66 1 (.bin .add),
 aa 66 83] [0,1,5,6,64,65,66]))))
def g405L0:aw:=.loop [0,1,5,6,64,65,66] g405B0
theorem g405L0e: cl AP g405L0 st=after (cl AP g405L0) (cl AP g405B0 (norm (restrict [0,1,5,6,64,65,66] st))):=aF
def g405:aH:=⟨3,85,[.c 6 2 true],
 (.seq
 (.ae [ba 5 2 (.box 5 11),
 bG 6 [a0,a0]] [0,1,5,6])
 (.seq
 (.ae [bG 7 [a0,a0]] [0,1,5,6,7])
 (.seq
 (.seq
 (.ae [aS 15 5 0,
 aM 16 15 5 0 1 false] [0,1,5,6,7,16])
 (.block 0
 (.seq
 (.ae [bg 18 16 1 (.bin .eql),
 aa 17 18] [0,1,5,6,7,16,17])
 (.cond (.t 17)
 (.seq
 (.ae [aa 19 1,
 aS 20 5 2,
 aM 21 20 5 2 1 false,
 bK 22 19 21 (.aB 214),
 aG 23 22 (.un .not)] [0,1,5,6,7,23])
 (.cond (.t 23)
 (.ae [aS 24 5 1,
 aM 25 24 5 1 1 false,
 a_ 26 [k_ 9,.t 25] (.build [a0,a0] [(0,1),(1,1)]),
 aU 7 26 7 0 2] [0,1,5,6,7])
 .skip))
 (.seq
 (.ae [bg 28 16 2 (.bin .eql),
 aa 27 28] [0,1,5,6,7,16,27])
 (.cond (.t 27)
 (.seq
 (.ae [aa 30 0,
 aS 31 5 2,
 aM 32 31 5 2 1 false,
 bK 33 30 32 (.aB 190),
 aa 29 33,
 aG 34 29 (.ext 0),
 aG 35 29 (.ext 1),
 aG 36 29 (.ext 2),
 aa 8 34,
 aa 9 35,
 aa 10 36] [0,1,5,6,7,10])
 (.seq
 (.ae [aa 37 10,
 aG 38 37 (.un .not)] [0,1,5,6,7,38])
 (.cond (.t 38)
 (.ae [aS 39 5 1,
 aM 40 39 5 1 1 false,
 a_ 41 [k_ 9,.t 40] (.build [a0,a0] [(0,1),(1,1)]),
 aU 7 41 7 0 2] [0,1,5,6,7])
 .skip)))
 (.seq
 (.ae [bg 43 16 8 (.bin .eql),
 aa 42 43] [0,1,5,6,7,16,42])
 (.cond (.t 42)
 (.ae [aa 44 0,
 aM 45 5 5 0 11 true,
 bK 46 44 45 (.aB 415),
 aU 7 46 7 0 2] [0,1,5,6,7])
 (.seq
 (.ae [bg 48 16 9 (.bin .eql),
 aa 47 48] [0,1,5,6,7,47])
 (.cond (.t 47)
 (.seq
 (.ae [aa 49 0,
 aS 50 5 6,
 aM 51 50 5 6 5 true,
 bD 52 [.t 49,.t 51,.c (.bB [])] (.aB 185),
 aa 11 52] [0,1,5,6,7,11])
 (.seq
 (.ae [aa 53 11,
 bg 54 53 0 (.bin .neq)] [0,1,5,6,7,11,54])
 (.cond (.t 54)
 (.ae [aa 55 11,
 aS 56 5 1,
 aM 57 56 5 1 1 false,
 aV 58 55 57 (.build [a0,a0] [(0,1),(1,1)]),
 aU 7 58 7 0 2] [0,1,5,6,7])
 .skip)))
 .skip))))))))))
 (.seq
 (.seq
 (.ae [aS 59 7 0,
 aM 60 59 7 0 1 false,
 bg 61 60 0 (.bin .neq)] [0,1,5,6,7,61])
 (.cond (.t 61)
 (.seq
 (.ae [aM 62 7 7 0 2 true,
 aU 6 62 6 0 2] [6])
 .ret)
 .skip))
 (.seq
 (.seq
 (.ae [aM 63 5 5 0 11 true,
 ba 64 63 (.aB 414),
 aG 65 64 .len,
 a8 66 (k_ 0)] [0,1,5,6,64,65,66])
 (.block 1
 g405L0))
 (.seq
 (.ae [a_ 84 [] (.build [a0,a0] []),
 aU 6 84 6 0 2] [6])
 .ret)))))),none,false⟩
def g406:aH:=⟨1,11,[.c 2 11 true],
 (.seq
 (.ae [bG 2 ek] [0,2])
 (.seq
 (.ae [aa 6 0,
 ba 7 6 (.aB 250),
 aa 5 7,
 aG 8 5 (.ext 0),
 aG 9 5 (.ext 1),
 bG 3 ek,
 bG 4 [a0,a0],
 aU 3 8 3 0 11,
 aU 4 9 4 0 2] [2,3])
 (.seq
 (.ae [aM 10 3 3 0 11 true,
 aU 2 10 2 0 11] [2])
 .ret))),none,false⟩
def g407:aH:=⟨2,14,[.t 4,.t 5],
 (.seq
 (.ae [ba 3 1 (.lS 1),
 a8 4 (k_ 0),
 a8 5 F_] [0,3])
 (.seq
 (.ae [aa 7 0,
 aG 8 3 (.CG 417),
 bK 9 7 8 (.aI 416 []),
 aa 6 9] [6])
 (.seq
 (.ae [aa 10 6,
 bg 11 10 0 .mx,
 aa 12 6,
 bg 13 12 0 (.bin .geq),
 aa 4 11,
 aa 5 13] [4,5])
 .ret))),none,false⟩
def g408B0:aw:=
 (.seq
 (.seq
 (.ae [aa 11 5,
 aa 12 0,
 aG 13 12 .len,
 aV 14 11 13 (.bin .lss)] [0,1,5,14])
 (.cond (.t 14)
 .skip
 (.exit 0)))
 (.seq
 (.block 1
 (.seq
 (.ae [aa 17 0,
 aa 18 5,
 aV 19 17 18 (.aE 1),
 aG 20 19 (.aN 1 false),
 aa 21 1,
 aa 22 5,
 aV 23 21 22 (.aE 1),
 aG 24 23 (.aN 1 false),
 aV 25 20 24 (.bin .neq)] [0,1,5,25])
 (.cond (.t 25)
 (.seq
 (.ae [a8 4 F_] [4])
 .ret)
 .skip)))
 (.ae [aa 15 5,
 bg 16 15 1 (.bin .add),
 aa 5 16] [0,1,5])))
def g408L0:aw:=.loop [0,1,5] g408B0
theorem g408L0e: cl AP g408L0 st=after (cl AP g408L0) (cl AP g408B0 (norm (restrict [0,1,5] st))):=aF
def g408:aH:=⟨2,26,[.t 4],
 (.seq
 (.ae [a8 4 F_] [0,1])
 (.seq
 (.seq
 (.ae [aa 6 0,
 aG 7 6 .len,
 aa 8 1,
 aG 9 8 .len,
 aV 10 7 9 (.bin .neq)] [0,1,10])
 (.cond (.t 10)
 (.seq
 (.ae [a8 4 F_] [4])
 .ret)
 .skip))
 (.seq
 (.seq
 (.ae [a8 5 (k_ 0)] [0,1,5])
 (.block 0
 g408L0))
 (.seq
 (.ae [a8 4 T_] [4])
 .ret)))),none,false⟩
def g409:aH:=⟨2,9,[.t 4],
 (.seq
 (.ae [a_ 4 [.c (.bB [])] .mv] [0,1])
 (.seq
 (.ae [aa 5 0,
 ba 6 5 (.clone 1 16),
 aa 7 1,
 bK 8 6 7 (.append 1 16),
 aa 4 8] [4])
 .ret)),none,false⟩
def g410B0:aw:=
 (.seq
 (.ae [aV 12 11 10 (.bin .lss)] [2,4,9,10,11,12])
 (.seq
 (.cond (.t 12)
 .skip
 (.exit 0))
 (.seq
 (.block 1
 (.seq
 (.ae [aV 13 9 11 (.aE 1),
 aG 14 13 (.aN 1 false),
 aa 7 14] [2,4,7,9,10,11])
 (.seq
 (.ae [aM 15 2 2 0 11 true,
 ba 16 15 (.aB 414),
 aa 8 16] [2,4,7,8,9,10,11])
 (.seq
 (.seq
 (.ae [aa 17 7,
 bg 18 17 0 (.bin .lss),
 aa 19 18,
 aW 20 19 false 7 (.v (.mv)),
 aW 21 19 false 8 (.v (.mv)),
 aW 22 19 false 21 (.v (.len)),
 cJ 23 19 false [.t 20,.t 22] (.v (.bin .geq)),
 a_ 24 [.t 19,T_,.t 23] .pick] [2,4,7,8,9,10,11,24])
 (.cond (.t 24)
 (.seq
 (.ae [a_ 25 [] (.build ek []),
 aU 4 25 4 0 11,
 a8 5 F_] [4,5])
 .ret)
 .skip))
 (.ae [aa 26 8,
 aa 27 7,
 aV 28 26 27 (.aE 11),
 aG 29 28 (.aN 11 true),
 aU 2 29 2 0 11] [2,4,9,10,11])))))
 (.ae [bg 30 11 1 (.bin .add),
 aa 11 30] [2,4,9,10,11]))))
def g410L0:aw:=.loop [2,4,9,10,11] g410B0
theorem g410L0e: cl AP g410L0 st=after (cl AP g410L0) (cl AP g410B0 (norm (restrict [2,4,9,10,11] st))):=aF
def g410:aH:=⟨2,32,[.c 4 11 true,.t 5],
 (.seq
 (.ae [ba 2 0 (.box 2 11),
 bG 4 ek,
 a8 5 F_] [1,2,4])
 (.seq
 (.seq
 (.ae [aa 9 1,
 aG 10 9 .len,
 a8 11 (k_ 0)] [2,4,9,10,11])
 (.block 0
 g410L0))
 (.seq
 (.ae [aM 31 2 2 0 11 true,
 aU 4 31 4 0 11,
 a8 5 T_] [4,5])
 .ret))),none,false⟩
def g411:aH:=⟨2,37,[.t 4],
 (.seq
 (.ae [ba 2 0 (.box 2 11),
 a_ 4 [.c (.bB [])] .mv] [1,2])
 (.seq
 (.seq
 (.ae [aS 5 2 0,
 aM 6 5 2 0 1 false] [1,2,6])
 (.block 0
 (.seq
 (.seq
 (.ae [bg 8 6 4 (.bin .eql),
 aa 7 8] [1,2,6,7])
 (.cond (.t 7)
 .skip
 (.ae [bg 9 6 7 (.bin .eql),
 aa 7 9] [1,2,6,7])))
 (.cond (.t 7)
 (.seq
 (.ae [aS 10 2 2,
 aM 11 10 2 2 1 false,
 aG 12 11 (.aT 1),
 aa 4 12] [4])
 .ret)
 (.seq
 (.ae [bg 14 6 6 (.bin .eql),
 aa 13 14] [1,2,6,13])
 (.cond (.t 13)
 (.seq
 (.ae [aa 15 1,
 bg 16 15 1 (.bin .eql)] [2,16])
 (.cond (.t 16)
 (.seq
 (.ae [aS 17 2 2,
 aM 18 17 2 2 1 false,
 aG 19 18 (.aT 1),
 aa 4 19] [4])
 .ret)
 .skip))
 (.seq
 (.ae [bg 21 6 8 (.bin .eql),
 aa 20 21] [1,2,20])
 (.cond (.t 20)
 (.seq
 (.ae [aa 22 1,
 aS 23 2 4,
 aM 24 23 2 4 1 false,
 aG 25 24 .len,
 aV 26 22 25 (.bin .geq)] [1,2,26])
 (.cond (.t 26)
 (.seq
 (.ae [aS 27 2 5,
 aM 28 27 2 5 1 false,
 aa 29 1,
 aS 30 2 4,
 aM 31 30 2 4 1 false,
 aG 32 31 .len,
 aV 33 29 32 (.bin .sub),
 aV 34 28 33 (.aE 14),
 aS 35 34 2,
 aG 36 35 (.aN 1 false),
 aa 4 36] [4])
 .ret)
 .skip))
 .skip))))))))
 (.seq
 (.ae [a_ 4 [.c (.bB [])] .mv] [4])
 .ret))),none,false⟩
def g412B0:aw:=
 (.seq
 (.seq
 (.ae [aa 16 6,
 aa 17 0,
 aG 18 17 .len,
 aV 19 16 18 (.bin .lss)] [0,1,5,6,19])
 (.cond (.t 19)
 .skip
 (.exit 0)))
 (.seq
 (.block 1
 (.seq
 (.ae [aa 22 0,
 aa 23 6,
 aV 24 22 23 (.aE 1),
 ba 25 24 (.aZ 1 false),
 aa 7 25] [0,1,5,6,7])
 (.seq
 (.ae [aa 26 1,
 aa 27 7,
 bK 28 26 27 .eK,
 aG 29 28 (.un .not)] [0,1,5,6,7,29])
 (.cond (.t 29)
 (.seq
 (.ae [aa 30 0,
 aa 31 5,
 aa 32 7,
 aV 33 30 31 (.aE 1),
 lP [.t 33,.t 32] (.cU 1)] [0,1,5,6])
 (.ae [aa 34 5,
 bg 35 34 1 (.bin .add),
 aa 5 35] [0,1,5,6]))
 .skip))))
 (.ae [aa 20 6,
 bg 21 20 1 (.bin .add),
 aa 6 21] [0,1,5,6])))
def g412L0:aw:=.loop [0,1,5,6] g412B0
theorem g412L0e: cl AP g412L0 st=after (cl AP g412L0) (cl AP g412B0 (norm (restrict [0,1,5,6] st))):=aF
def g412:aH:=⟨2,42,[.t 4],
 (.seq
 (.ae [a_ 4 [.c (.bB [])] .mv] [0,1])
 (.seq
 (.ae [aa 8 0,
 aa 9 1,
 bK 10 8 9 (.aI 421 []),
 aa 5 10] [0,1,5])
 (.seq
 (.seq
 (.ae [aa 11 5,
 bg 12 11 (-1) (.bin .eql)] [0,1,5,12])
 (.cond (.t 12)
 (.seq
 (.ae [aa 13 0,
 aa 4 13] [4])
 .ret)
 .skip))
 (.seq
 (.seq
 (.ae [aa 14 5,
 bg 15 14 1 (.bin .add),
 aa 6 15] [0,1,5,6])
 (.block 0
 g412L0))
 (.seq
 (.ae [aa 36 0,
 aa 37 5,
 aV 38 36 37 (.p6 1 true false),
 lP [.t 38] (.fR 1 [.str []])] [0,5])
 (.seq
 (.ae [aa 39 0,
 aa 40 5,
 aV 41 39 40 (.p6 1 false true),
 aa 4 41] [4])
 .ret)))))),none,true⟩
def g413:aH:=⟨1,7,[.t 3],
 (.seq
 (.ae [a8 3 F_] [0,1])
 (.seq
 (.ae [aa 4 0,
 ba 5 1 (.aZ 1 false),
 aV 6 4 5 (.bin .eql),
 aa 3 6] [3])
 .ret)),none,false⟩
def g414B0:aw:=
 (.seq
 (.ae [aV 13 12 11 (.bin .lss)] [3,10,11,12,13])
 (.seq
 (.cond (.t 13)
 .skip
 (.exit 0))
 (.seq
 (.block 1
 (.seq
 (.ae [aV 14 10 12 (.aE 14),
 aG 15 14 (.aN 14 true),
 bG 5 [a0,dN,bQ,a0,a0,dN,a0,bQ,bQ,a0,dN,a0,a0,bQ],
 aU 5 15 5 0 14] [3,5,10,11,12])
 (.ae [aa 16 3,
 aS 17 5 3,
 aM 18 17 5 3 11 true,
 aG 19 18 (.aT 11),
 bK 20 16 19 (.append 11 152),
 aa 3 20] [3,10,11,12])))
 (.ae [bg 21 12 1 (.bin .add),
 aa 12 21] [3,10,11,12]))))
def g414L0:aw:=.loop [3,10,11,12] g414B0
theorem g414L0e: cl AP g414L0 st=after (cl AP g414L0) (cl AP g414B0 (norm (restrict [3,10,11,12] st))):=aF
def g414:aH:=⟨1,23,[.t 2],
 (.seq
 (.ae [ba 1 0 (.box 1 11),
 a_ 2 [.c (.bB [])] .mv] [1])
 (.seq
 (.ae [aS 6 1 4,
 aM 7 6 1 4 1 false,
 ba 8 7 (.clone 11 152),
 aa 3 8] [1,3])
 (.seq
 (.seq
 (.ae [aS 9 1 5,
 aM 10 9 1 5 1 false,
 aG 11 10 .len,
 a8 12 (k_ 0)] [3,10,11,12])
 (.block 0
 g414L0))
 (.seq
 (.ae [aa 22 3,
 aa 2 22] [2])
 .ret)))),none,false⟩
def g415B0:aw:=
 (.seq
 (.ae [aV 20 19 18 (.bin .lss)] [0,3,4,17,18,19,20])
 (.seq
 (.cond (.t 20)
 .skip
 (.exit 0))
 (.seq
 (.block 1
 (.seq
 (.ae [aV 21 17 19 (.aE 14),
 aG 22 21 (.aN 14 true),
 bG 6 [a0,dN,bQ,a0,a0,dN,a0,bQ,bQ,a0,dN,a0,a0,bQ],
 aU 6 22 6 0 14] [0,3,4,6,17,18,19])
 (.seq
 (.ae [aa 24 0,
 aS 25 6 1,
 aM 26 25 6 1 1 false,
 bK 27 24 26 (.aB 190),
 aa 23 27,
 aG 28 23 (.ext 0),
 aG 29 23 (.ext 1),
 aG 30 23 (.ext 2),
 aa 7 28,
 aa 8 29,
 aa 9 30] [0,3,4,6,9,17,18,19])
 (.seq
 (.ae [aa 31 9,
 aG 32 31 (.un .not)] [0,3,4,6,17,18,19,32])
 (.cond (.t 32)
 (.seq
 (.ae [aS 33 6 0,
 aM 34 33 6 0 1 false,
 a_ 35 [k_ 9,.t 34] (.build [a0,a0] [(0,1),(1,1)]),
 aU 4 35 4 0 2] [4])
 .ret)
 .skip)))))
 (.ae [bg 36 19 1 (.bin .add),
 aa 19 36] [0,3,4,17,18,19]))))
def g415L0:aw:=.loop [0,3,4,17,18,19] g415B0
theorem g415L0e: cl AP g415L0 st=after (cl AP g415L0) (cl AP g415B0 (norm (restrict [0,3,4,17,18,19] st))):=aF
def g415B2:aw:=
 (.seq
 (.ae [aV 78 77 76 (.bin .lss)] [0,4,10,13,50,51,52,75,76,77,78])
 (.seq
 (.cond (.t 78)
 .skip
 (.exit 4))
 (.seq
 (.block 5
 (.seq
 (.ae [aa 79 77,
 aV 80 75 77 (.aE 1),
 aG 81 80 (.aN 1 false),
 aa 14 79,
 aa 15 81] [0,4,10,13,14,15,50,51,52,75,76,77])
 (.seq
 (.ae [aS 82 13 2,
 aM 83 82 13 2 1 false,
 aa 84 14,
 aV 85 83 84 (.slice false 1 false true false),
 aa 86 15,
 bK 87 85 86 (.aB 214)] [0,4,10,13,50,51,52,75,76,77,87])
 (.cond (.t 87)
 (.seq
 (.ae [aS 88 13 0,
 aM 89 88 13 0 1 false,
 a_ 90 [k_ 6,.t 89] (.build [a0,a0] [(0,1),(1,1)]),
 aU 4 90 4 0 2] [4])
 .ret)
 .skip))))
 (.ae [bg 91 77 1 (.bin .add),
 aa 77 91] [0,4,10,13,50,51,52,75,76,77]))))
def g415L2:aw:=.loop [0,4,10,13,50,51,52,75,76,77] g415B2
theorem g415L2e: cl AP g415L2 st=after (cl AP g415L2) (cl AP g415B2 (norm (restrict [0,4,10,13,50,51,52,75,76,77] st))):=aF
def g415B1:aw:=
 (.seq
 (.ae [aV 53 52 51 (.bin .lss)] [0,4,10,50,51,52,53])
 (.seq
 (.cond (.t 53)
 .skip
 (.exit 2))
 (.seq
 (.block 3
 (.seq
 (.ae [aa 54 52,
 aV 55 50 52 (.aE 14),
 aG 56 55 (.aN 14 true),
 bG 13 [a0,dN,bQ,a0,a0,dN,a0,bQ,bQ,a0,dN,a0,a0,bQ],
 aa 12 54,
 aU 13 56 13 0 14] [0,4,10,12,13,50,51,52])
 (.seq
 (.seq
 (.ae [aS 57 13 2,
 aM 58 57 13 2 1 false,
 aG 59 58 .len,
 aa 60 0,
 aa 61 10,
 aV 62 60 61 (.aE 4),
 aS 63 62 3,
 aG 64 63 (.aN 1 false),
 aa 65 12,
 aV 66 64 65 (.aE 3),
 aS 67 66 2,
 aG 68 67 (.aN 1 false),
 aG 69 68 .len,
 aV 70 59 69 (.bin .neq)] [0,4,10,13,50,51,52,70])
 (.cond (.t 70)
 (.seq
 (.ae [aS 71 13 0,
 aM 72 71 13 0 1 false,
 a_ 73 [k_ 8,.t 72] (.build [a0,a0] [(0,1),(1,1)]),
 aU 4 73 4 0 2] [4])
 .ret)
 .skip))
 (.seq
 (.ae [aS 74 13 2,
 aM 75 74 13 2 1 false,
 aG 76 75 .len,
 a8 77 (k_ 0)] [0,4,10,13,50,51,52,75,76,77])
 (.block 4
 g415L2)))))
 (.ae [bg 92 52 1 (.bin .add),
 aa 52 92] [0,4,10,50,51,52]))))
def g415L1:aw:=.loop [0,4,10,50,51,52] g415B1
theorem g415L1e: cl AP g415L1 st=after (cl AP g415L1) (cl AP g415B1 (norm (restrict [0,4,10,50,51,52] st))):=aF
def g415:aH:=⟨2,94,[.c 4 2 true],
 (.seq
 (.ae [ba 3 1 (.box 3 11),
 bG 4 [a0,a0]] [0,3,4])
 (.seq
 (.seq
 (.ae [aS 16 3 5,
 aM 17 16 3 5 1 false,
 aG 18 17 .len,
 a8 19 (k_ 0)] [0,3,4,17,18,19])
 (.block 0
 g415L0))
 (.seq
 (.ae [aa 38 0,
 aS 39 3 5,
 aM 40 39 3 5 1 false,
 bK 41 38 40 (.aB 407),
 aa 37 41,
 aG 42 37 (.ext 0),
 aG 43 37 (.ext 1),
 aa 10 42,
 aa 11 43] [0,3,4,10,11])
 (.seq
 (.seq
 (.ae [aa 44 11,
 aG 45 44 (.un .not)] [0,3,4,10,45])
 (.cond (.t 45)
 (.seq
 (.ae [aS 46 3 1,
 aM 47 46 3 1 1 false,
 a_ 48 [k_ 10,.t 47] (.build [a0,a0] [(0,1),(1,1)]),
 aU 4 48 4 0 2] [4])
 .ret)
 .skip))
 (.seq
 (.seq
 (.ae [aS 49 3 5,
 aM 50 49 3 5 1 false,
 aG 51 50 .len,
 a8 52 (k_ 0)] [0,4,10,50,51,52])
 (.block 2
 g415L1))
 (.seq
 (.ae [a_ 93 [] (.build [a0,a0] []),
 aU 4 93 4 0 2] [4])
 .ret)))))),none,false⟩
def g416B0:aw:=
 (.seq
 (.ae [aV 9 8 7 (.bin .lss)] [0,1,7,8,9])
 (.seq
 (.cond (.t 9)
 .skip
 (.exit 0))
 (.seq
 (.block 1
 (.seq
 (.ae [aa 10 8,
 aa 5 10] [0,1,5,7,8])
 (.seq
 (.ae [aa 11 1,
 aa 12 0,
 aa 13 5,
 aV 14 12 13 (.aE 4),
 ba 15 14 (.aZ 4 true),
 bK 16 11 15 .eK] [0,1,5,7,8,16])
 (.cond (.t 16)
 (.seq
 (.ae [aa 17 5,
 aa 4 17] [4])
 .ret)
 .skip))))
 (.ae [bg 18 8 1 (.bin .add),
 aa 8 18] [0,1,7,8]))))
def g416L0:aw:=.loop [0,1,7,8] g416B0
theorem g416L0e: cl AP g416L0 st=after (cl AP g416L0) (cl AP g416B0 (norm (restrict [0,1,7,8] st))):=aF
def g416:aH:=⟨2,19,[.t 4],
 (.seq
 (.ae [a8 4 (k_ 0)] [0,1])
 (.seq
 (.seq
 (.ae [aa 6 0,
 aG 7 6 .len,
 a8 8 (k_ 0)] [0,1,7,8])
 (.block 0
 g416L0))
 (.seq
 (.ae [a8 4 (k_ (-1))] [4])
 .ret))),none,false⟩
def g417:aH:=⟨1,8,[.t 3],
 (.seq
 (.ae [ba 2 0 (.box 2 4),
 a8 3 F_] [1,2])
 (.seq
 (.ae [aS 4 2 3,
 aM 5 4 2 3 1 false,
 ba 6 1 (.aZ 1 false),
 bD 7 [.t 5,.t 6,.c (.fn 419 [])] (.aI 418 []),
 aa 3 7] [3])
 .ret)),none,false⟩
def g418B0:aw:=
 (.seq
 (.ae [aV 18 17 16 (.bin .lss)] [1,2,15,16,17,18])
 (.seq
 (.cond (.t 18)
 .skip
 (.exit 0))
 (.seq
 (.block 1
 (.seq
 (.ae [aa 19 17,
 aV 20 15 17 (.aE 3),
 ba 21 20 (.aZ 3 true),
 bG 8 [a0,dN,bQ],
 aa 7 19,
 aU 8 21 8 0 3] [1,2,7,8,15,16,17])
 (.seq
 (.ae [aa 22 1,
 aa 23 7,
 aV 24 22 23 (.aE 14),
 ba 25 24 (.aZ 14 true),
 bG 9 [a0,dN,bQ,a0,a0,dN,a0,bQ,bQ,a0,dN,a0,a0,bQ],
 aU 9 25 9 0 14] [1,2,8,9,15,16,17])
 (.seq
 (.ae [aa 26 2,
 aM 27 8 8 0 3 true,
 aM 28 9 9 0 14 true,
 bD 29 [.t 26,.t 27,.t 28] .eK,
 aG 30 29 (.un .not)] [1,2,15,16,17,30])
 (.cond (.t 30)
 (.seq
 (.ae [a8 6 F_] [6])
 .ret)
 .skip)))))
 (.ae [bg 31 17 1 (.bin .add),
 aa 17 31] [1,2,15,16,17]))))
def g418L0:aw:=.loop [1,2,15,16,17] g418B0
theorem g418L0e: cl AP g418L0 st=after (cl AP g418L0) (cl AP g418B0 (norm (restrict [1,2,15,16,17] st))):=aF
def g418:aH:=⟨3,32,[.t 6],
 (.seq
 (.ae [a8 6 F_] [0,1,2])
 (.seq
 (.seq
 (.ae [aa 10 0,
 aG 11 10 .len,
 aa 12 1,
 aG 13 12 .len,
 aV 14 11 13 (.bin .neq)] [0,1,2,14])
 (.cond (.t 14)
 (.seq
 (.ae [a8 6 F_] [6])
 .ret)
 .skip))
 (.seq
 (.seq
 (.ae [aa 15 0,
 aG 16 15 .len,
 a8 17 (k_ 0)] [1,2,15,16,17])
 (.block 0
 g418L0))
 (.seq
 (.ae [a8 6 T_] [6])
 .ret)))),none,false⟩
def g419:aH:=⟨2,10,[.t 4],
 (.seq
 (.ae [ba 2 0 (.box 2 3),
 ba 3 1 (.box 3 14),
 a8 4 F_] [2,3])
 (.seq
 (.ae [aS 5 2 1,
 aM 6 5 2 1 1 false,
 aS 7 3 1,
 aM 8 7 3 1 1 false,
 aV 9 6 8 (.bin .eql),
 aa 4 9] [4])
 .ret)),none,false⟩
def g421B0:aw:=
 (.seq
 (.ae [aV 9 8 7 (.bin .lss)] [0,1,7,8,9])
 (.seq
 (.cond (.t 9)
 .skip
 (.exit 0))
 (.seq
 (.block 1
 (.seq
 (.ae [aa 10 8,
 aa 5 10] [0,1,5,7,8])
 (.seq
 (.ae [aa 11 1,
 aa 12 0,
 aa 13 5,
 aV 14 12 13 (.aE 1),
 ba 15 14 (.aZ 1 false),
 bK 16 11 15 .eK] [0,1,5,7,8,16])
 (.cond (.t 16)
 (.seq
 (.ae [aa 17 5,
 aa 4 17] [4])
 .ret)
 .skip))))
 (.ae [bg 18 8 1 (.bin .add),
 aa 8 18] [0,1,7,8]))))
def g421L0:aw:=.loop [0,1,7,8] g421B0
theorem g421L0e: cl AP g421L0 st=after (cl AP g421L0) (cl AP g421B0 (norm (restrict [0,1,7,8] st))):=aF
def g421:aH:=⟨2,19,[.t 4],
 (.seq
 (.ae [a8 4 (k_ 0)] [0,1])
 (.seq
 (.seq
 (.ae [aa 6 0,
 aG 7 6 .len,
 a8 8 (k_ 0)] [0,1,7,8])
 (.block 0
 g421L0))
 (.seq
 (.ae [a8 4 (k_ (-1))] [4])
 .ret))),none,false⟩
end
def AP (g:Nat):Option aH:=match g with
 | 15=>some g15
 | 20=>some g20
 | 22=>some g22
 | 26=>some g26
 | 27=>some g27
 | 32=>some g32
 | 34=>some g34
 | 46=>some g46
 | 48=>some g48
 | 52=>some g52
 | 55=>some g55
 | 56=>some g56
 | 57=>some g57
 | 59=>some g59
 | 62=>some g62
 | 63=>some g63
 | 67=>some g67
 | 68=>some g68
 | 69=>some g69
 | 71=>some g71
 | 72=>some g72
 | 77=>some g77
 | 78=>some g78
 | 79=>some g79
 | 95=>some g95
 | 96=>some g96
 | 97=>some g97
 | 98=>some g98
 | 99=>some g99
 | 106=>some g106
 | 108=>some g108
 | 109=>some g109
 | 110=>some g110
 | 111=>some g111
 | 112=>some g112
 | 116=>some g116
 | 117=>some g117
 | 118=>some g118
 | 119=>some g119
 | 120=>some g120
 | 121=>some g121
 | 122=>some g122
 | 123=>some g123
 | 124=>some g124
 | 125=>some g125
 | 126=>some g126
 | 127=>some g127
 | 128=>some g128
 | 129=>some g129
 | 130=>some g130
 | 131=>some g131
 | 132=>some g132
 | 133=>some g133
 | 134=>some g134
 | 135=>some g135
 | 136=>some g136
 | 137=>some g137
 | 138=>some g138
 | 139=>some g139
 | 140=>some g140
 | 141=>some g141
 | 142=>some g142
 | 143=>some g143
 | 144=>some g144
 | 145=>some g145
 | 146=>some g146
 | 162=>some g162
 | 175=>some g175
 | 176=>some g176
 | 179=>some g179
 | 181=>some g181
 | 185=>some g185
 | 188=>some g188
 | 190=>some g190
 | 191=>some g191
 | 193=>some g193
 | 194=>some g194
 | 195=>some g195
 | 196=>some g196
 | 198=>some g198
 | 201=>some g201
 | 207=>some g207
 | 208=>some g208
 | 214=>some g214
 | 215=>some g215
 | 216=>some g216
 | 221=>some g221
 | 222=>some g222
 | 223=>some g223
 | 238=>some g238
 | 240=>some g240
 | 247=>some g247
 | 250=>some g250
 | 306=>some g306
 | 307=>some g307
 | 310=>some g310
 | 325=>some g325
 | 326=>some g326
 | 327=>some g327
 | 335=>some g335
 | 348=>some g348
 | 349=>some g349
 | 350=>some g350
 | 351=>some g351
 | 352=>some g352
 | 355=>some g355
 | 358=>some g358
 | 359=>some g359
 | 361=>some g361
 | 362=>some g362
 | 363=>some g363
 | 371=>some g371
 | 372=>some g372
 | 373=>some g373
 | 374=>some g374
 | 375=>some g375
 | 376=>some g376
 | 377=>some g377
 | 378=>some g378
 | 381=>some g381
 | 385=>some g385
 | 386=>some g386
 | 387=>some g387
 | 388=>some g388
 | 389=>some g389
 | 391=>some g391
 | 392=>some g392
 | 393=>some g393
 | 394=>some g394
 | 395=>some g395
 | 396=>some g396
 | 397=>some g397
 | 398=>some g398
 | 400=>some g400
 | 401=>some g401
 | 403=>some g403
 | 404=>some g404
 | 405=>some g405
 | 406=>some g406
 | 407=>some g407
 | 408=>some g408
 | 409=>some g409
 | 410=>some g410
 | 411=>some g411
 | 412=>some g412
 | 413=>some g413
 | 414=>some g414
 | 415=>some g415
 | 416=>some g416
 | 417=>some g417
 | 418=>some g418
 | 419=>some g419
 | 421=>some g421
 | _=>none
end Go.Ab
