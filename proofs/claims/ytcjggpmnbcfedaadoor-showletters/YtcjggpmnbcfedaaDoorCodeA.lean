import Derived.Test.YtcjggpmnbcfedaaDoorAbEv
import Derived.Test.YtcjggpmnbcfedaaDoorAbPrim
import Derived.Test.YtcjggpmnbcfedaaDoorAbPin
/-
  The program's functions in slim code, as a program of ours printed them; what they have to do with the given program is proved in the text Impl.
-/
namespace Go.Ab
@[simp] abbrev a8 (d s:Nat):bN:=⟨some d,none,[.t s],.v .mv⟩
@[simp] abbrev gl (d x:Nat) (k:AK):bN:=⟨some d,none,[.t x],k⟩
@[simp] abbrev Aw (d x y:Nat) (k:AK):bN:=⟨some d,none,[.t x,.t y],k⟩
@[simp] abbrev oJ (d x:Nat) (k:mi):bN:=⟨some d,none,[.t x],.v k⟩
@[simp] abbrev kI (d x y:Nat) (k:mi):bN:=⟨some d,none,[.t x,.t y],.v k⟩
@[simp] abbrev dW (d:Nat) (a:List c_) (k:mi):bN:=⟨some d,none,a,.v k⟩
@[simp] abbrev nm (d:Nat) (a:List c_) (k:AK):bN:=⟨some d,none,a,k⟩
@[simp] abbrev CM (a:List c_) (k:AK):bN:=⟨none,none,a,k⟩
@[simp] abbrev yQ (d j:Nat) (b:Bool) (a:List c_) (k:AK):bN:=⟨some d,some (j,b),a,k⟩
@[simp] abbrev jH (d s n:Nat):bN:=⟨some d,none,[.t s],.v (.ga n)⟩
@[simp] abbrev kJ (d s a b c:Nat) (t:Bool):bN:=⟨some d,none,[.t s],.dv a b c t⟩
@[simp] abbrev yR (s v a b c:Nat):bN:=⟨none,none,[.t s,.t v],.dL a b c⟩
@[simp] abbrev k_ (n:Int):c_:=.c (.pv (.int .i64 n))
@[simp] abbrev T_:c_:=.c (.pv (.bool true))
@[simp] abbrev F_:c_:=.c (.pv (.bool false))
@[simp] abbrev en (d x:Nat) (n:Int) (k:mi):bN:=⟨some d,none,[.t x,.c (.pv (.int .i64 n))],.v k⟩
@[simp] abbrev y6 (d:Nat) (x:c_):bN:=⟨some d,none,[x],.v .mv⟩
@[simp] abbrev nn (d j:Nat) (b:Bool) (x:Nat) (k:AK):bN:=⟨some d,some (j,b),[.t x],k⟩
@[simp] abbrev yS (d:Nat) (l:List PV):bN:=⟨some d,none,[],.alloc d l⟩
@[simp] abbrev mL:PV:=.int .i64 0
@[simp] abbrev Ax:PV:=.str []
@[simp] abbrev yT:PV:=.bz []
@[simp] abbrev Ad:List PV:=[mL,Ax,mL,mL,yT]
@[simp] abbrev Bn:List PV:=[mL,mL,Ax,mL,yT,yT,mL,Ax,mL,mL,yT]
@[simp] abbrev CT:List PV:=[mL,Ax,yT,yT]
@[simp] abbrev CU:List PV:=[mL,mL,Ax,mL,mL,yT]
@[simp] abbrev fm:mi:=.bin .add
@[simp] abbrev jb:mi:=.bin .eql
@[simp] abbrev Ay:mi:=.bin .lss
@[simp] abbrev CN:mi:=.bin .gtr
@[simp] abbrev CV:mi:=.bin .sub
@[simp] abbrev Cz:mi:=.bin .neq
@[simp] abbrev CW:mi:=.eC 1 false
@[simp] abbrev B9:mi:=.eC 5 true
@[simp] abbrev bC (o:List bN) (l:List Nat) (c:aR):aR:=.seq (.iL o l) c
section
variable {AP:Nat→Option aK} {st:St}
def g26:aK:=⟨2,16,[.t 4],(bC [y6 4 (k_ 0)] [0,1] (.seq (bC [a8 5 1,en 6 5 1 Ay] [0,1,6] (.cond (.t 6) (bC [y6 4 (k_ 0)] [4] .ret) .skip)) (bC [a8 7 0,a8 8 1,kI 9 7 8 (.bin .rem),a8 0 9] [0,1] (.seq (bC [a8 10 0,en 11 10 0 Ay] [0,1,11] (.cond (.t 11) (.iL [a8 12 0,a8 13 1,kI 14 12 13 fm,a8 0 14] [0]) .skip)) (bC [a8 15 0,a8 4 15] [4] .ret))))),none,false⟩
def g62:aK:=⟨2,9,[.c 4 5 true],(bC [yS 4 Ad] [0,1,4] (bC [a8 5 0,a8 6 1,nm 7 [.c (.cw []),.t 6] (.append 5 64),dW 8 [k_ 4,.t 5,.t 7] (.build Ad [(0,1),(1,1),(4,1)]),yR 4 8 4 0 5] [4] .ret)),none,false⟩
def g63:aK:=⟨1,5,[.c 2 5 true],(bC [yS 2 Ad] [0,2] (bC [a8 3 0,dW 4 [k_ 1,.t 3] (.build Ad [(0,1),(2,1)]),yR 2 4 2 0 5] [2] .ret)),none,false⟩
def g69:aK:=⟨2,9,[.c 4 5 true],(bC [gl 2 0 (.box 2 5),gl 3 1 (.box 3 5),yS 4 Ad] [2,3,4] (bC [kJ 5 2 2 0 5 true,kJ 6 3 3 0 5 true,kI 7 5 6 (.d3 5),nm 8 [.c (.pv (.str [45,62])),.t 7] (.aQ 62),yR 4 8 4 0 5] [4] .ret)),none,false⟩
def g72:aK:=⟨1,5,[.c 2 5 true],(bC [yS 2 Ad] [0,2] (bC [a8 3 0,dW 4 [k_ 2,.t 3] (.build Ad [(0,1),(2,1)]),yR 2 4 2 0 5] [2] .ret)),none,false⟩
def g241:aK:=⟨1,20,[.t 2],(bC [y6 2 F_] [0] (bC [nm 3 [] (.aQ 244),a8 4 3,nn 5 4 true 0 (.v .mv),nn 6 4 true 5 (.aQ 245),nn 7 4 true 0 (.v .mv),nn 8 4 true 7 (.aQ 246),yQ 9 4 true [.t 6,.t 8] (.v jb),dW 10 [.t 4,.t 9,F_] .pick,a8 11 10,nn 12 11 true 0 (.v .mv),yQ 13 11 true [.t 12,k_ 100] (.aQ 26),nn 14 11 true 13 (.aQ 245),nn 15 11 true 0 (.v .mv),yQ 16 11 true [.t 15,k_ 100] (.aQ 26),nn 17 11 true 16 (.aQ 246),yQ 18 11 true [.t 14,.t 17] (.v jb),dW 19 [.t 11,.t 18,F_] .pick,a8 2 19] [2] .ret)),none,false⟩
def g244:aK:=⟨0,23,[.t 0],(bC [y6 0 F_] [] (bC [dW 3 [k_ 1,.c (.pv (.str [120]))] (.build Bn [(0,1),(2,1)]),nm 4 [.c (.pv (.str [103])),.t 3] (.aQ 254),nm 5 [.c (.pv (.str [102])),.t 4] (.aQ 254),yS 1 Bn,yR 1 5 1 0 11] [1] (bC [nm 6 [k_ 0] (.aQ 72),nm 7 [k_ 1] (.aQ 72),Aw 8 6 7 (.aQ 69),nm 9 [k_ 1] (.aQ 63),Aw 10 8 9 (.aQ 69),yS 2 Ad,yR 2 10 2 0 5] [1,2] (bC [kJ 11 1 1 0 11 true,gl 12 11 (.aQ 248),dW 13 [.t 12,.c (.pv (.str [102,32,40,103,32,120,41]))] jb,a8 14 13,nn 15 14 true 2 (.dv 2 0 5 true),nn 16 14 true 15 (.aQ 252),yQ 17 14 true [.t 16,.c (.pv (.str [40,97,32,45,62,32,98,41,32,45,62,32,95,98]))] (.v jb),dW 18 [.t 14,.t 17,F_] .pick,a8 19 18,yQ 20 19 true [k_ 27] (.aQ 245),yQ 21 19 true [.t 20,.c (.pv (.str [98,49]))] (.v jb),dW 22 [.t 19,.t 21,F_] .pick,a8 0 22] [0] .ret)))),none,false⟩
def g245:aK:=⟨1,24,[.t 2],(bC [dW 2 [.c (.pv (.str []))] .mv] [0] (bC [a8 5 0,en 6 5 0 .mx,a8 0 6] [0] (bC [dW 7 [.c (.pv (.int .u8 97)),.c (.pv (.int .u8 98)),.c (.pv (.int .u8 99)),.c (.pv (.int .u8 100)),.c (.pv (.int .u8 101)),.c (.pv (.int .u8 102)),.c (.pv (.int .u8 103)),.c (.pv (.int .u8 104)),.c (.pv (.int .u8 105)),.c (.pv (.int .u8 106)),.c (.pv (.int .u8 107)),.c (.pv (.int .u8 108)),.c (.pv (.int .u8 109)),.c (.pv (.int .u8 110)),.c (.pv (.int .u8 111)),.c (.pv (.int .u8 112)),.c (.pv (.int .u8 113)),.c (.pv (.int .u8 114)),.c (.pv (.int .u8 115)),.c (.pv (.int .u8 116)),.c (.pv (.int .u8 117)),.c (.pv (.int .u8 118)),.c (.pv (.int .u8 119)),.c (.pv (.int .u8 120)),.c (.pv (.int .u8 121)),.c (.pv (.int .u8 122))] (.d3 1),a8 3 7] [0,3] (bC [a8 8 3,a8 9 0,en 10 9 26 (.bin .rem),a8 11 0,en 12 11 26 (.bin .rem),en 13 12 1 fm,dW 14 [.t 8,.t 10,.t 13] (.slice false 1 true true false),oJ 15 14 .b2s,a8 4 15] [0,4] (.seq (bC [a8 16 0,en 17 16 26 (.bin .geq)] [0,4,17] (.cond (.t 17) (.iL [a8 18 4,a8 19 0,en 20 19 26 (.bin .quo),gl 21 20 (.aQ 255),kI 22 18 21 fm,a8 4 22] [4]) .skip)) (bC [a8 23 4,a8 2 23] [2] .ret)))))),none,false⟩
def g246:aK:=⟨1,20,[.t 2],(bC [dW 2 [.c (.pv (.str []))] .mv] [0] (bC [a8 4 0,en 5 4 0 .mx,a8 0 5] [0] (bC [a8 6 0,en 7 6 26 (.bin .rem),a8 8 0,en 9 8 26 (.bin .rem),en 10 9 1 fm,dW 11 [.c (.pv (.str [97,98,99,100,101,102,103,104,105,106,107,108,109,110,111,112,113,114,115,116,117,118,119,120,121,122])),.t 7,.t 10] (.slice true 0 true true false),a8 3 11] [0,3] (.seq (bC [a8 12 0,en 13 12 26 (.bin .geq)] [0,3,13] (.cond (.t 13) (.iL [a8 14 3,a8 15 0,en 16 15 26 (.bin .quo),gl 17 16 (.aQ 256),kI 18 14 17 fm,a8 3 18] [3]) .skip)) (bC [a8 19 3,a8 2 19] [2] .ret))))),none,false⟩
def g248:aK:=⟨1,117,[.t 2],(bC [gl 1 0 (.kV 11),dW 2 [.c (.pv (.str []))] .mv] [1] (bC [oJ 6 1 (.AA 257),a8 3 6] [1,3] (.seq (bC [jH 7 1 0,gl 8 7 (.ck 1 false)] [1,3,8] (.block 0 (.seq (bC [en 10 8 1 jb,a8 9 10] [1,3,8,9] (.cond (.t 9) .skip (.iL [en 11 8 2 jb,a8 9 11] [1,3,8,9]))) (.cond (.t 9) (bC [jH 12 1 2,gl 13 12 (.ck 1 false),a8 2 13] [2] .ret) (bC [en 15 8 3 jb,a8 14 15] [1,3,8,14] (.cond (.t 14) (bC [jH 16 1 3,gl 17 16 (.ck 1 false),gl 18 17 (.aQ 255),a8 2 18] [2] .ret) (bC [en 20 8 10 jb,a8 19 20] [1,3,8,19] (.cond (.t 19) (bC [dW 2 [.c (.pv (.str [63]))] .mv] [2] .ret) (bC [en 22 8 4 jb,a8 21 22] [1,3,8,21] (.cond (.t 21) (bC [jH 23 1 2,gl 24 23 (.ck 1 false),dW 25 [.c (.pv (.str [92])),.t 24] fm,dW 26 [.t 25,.c (.pv (.str [46,32]))] fm,a8 27 3,nm 28 [.t 27,k_ 0] .bP,kI 29 26 28 fm,a8 2 29] [2] .ret) (bC [en 31 8 5 jb,a8 30 31] [1,3,8,30] (.cond (.t 30) (.seq (bC [jH 32 1 4,gl 33 32 (.ck 1 false),oJ 34 33 .len,en 35 34 2 Ay] [1,3,35] (.cond (.t 35) (bC [dW 2 [.c (.pv (.str []))] .mv] [2] .ret) .skip)) (bC [jH 36 1 4,gl 37 36 (.ck 1 false),en 38 37 0 (.ed 11),oJ 39 38 (.eC 11 true),jH 40 1 4,gl 41 40 (.ck 1 false),en 42 41 1 (.ed 11),oJ 43 42 (.eC 11 true),yS 4 Bn,yS 5 Bn,yR 4 39 4 0 11,yR 5 43 5 0 11] [3,4,5] (bC [a8 44 3,nm 45 [.t 44,k_ 0] .bP,kJ 46 4 4 0 11 true,gl 47 46 (.aQ 259),oJ 48 47 (.un .not),a8 49 48,nn 50 49 true 4 (.v (.ga 0)),nn 51 49 true 50 (.dv 4 0 1 false),yQ 52 49 true [.t 51,k_ 5] (.v Cz),dW 53 [.t 49,.t 52,F_] .pick,Aw 54 45 53 (.aQ 258),dW 55 [.t 54,.c (.pv (.str [32]))] fm,a8 56 3,nm 57 [.t 56,k_ 1] .bP,kJ 58 5 5 0 11 true,gl 59 58 (.aQ 259),oJ 60 59 (.un .not),Aw 61 57 60 (.aQ 258),kI 62 55 61 fm,a8 2 62] [2] .ret))) (bC [en 64 8 6 jb,a8 63 64] [1,3,8,63] (.cond (.t 63) (bC [jH 65 1 2,gl 66 65 (.ck 1 false),dW 67 [.c (.pv (.str [108,101,116,32])),.t 66] fm,dW 68 [.t 67,.c (.pv (.str [32,61,32]))] fm,a8 69 3,nm 70 [.t 69,k_ 0] .bP,kI 71 68 70 fm,dW 72 [.t 71,.c (.pv (.str [32,105,110,32]))] fm,a8 73 3,nm 74 [.t 73,k_ 1] .bP,kI 75 72 74 fm,a8 2 75] [2] .ret) (bC [en 77 8 7 jb,a8 76 77] [1,3,8,76] (.cond (.t 76) (bC [jH 78 1 2,gl 79 78 (.ck 1 false),dW 80 [.c (.pv (.str [108,101,116,32,114,101,99,32])),.t 79] fm,dW 81 [.t 80,.c (.pv (.str [32,61,32]))] fm,a8 82 3,nm 83 [.t 82,k_ 0] .bP,kI 84 81 83 fm,dW 85 [.t 84,.c (.pv (.str [32,105,110,32]))] fm,a8 86 3,nm 87 [.t 86,k_ 1] .bP,kI 88 85 87 fm,a8 2 88] [2] .ret) (bC [en 90 8 8 jb,a8 89 90] [1,3,8,89] (.cond (.t 89) (bC [a8 91 3,nm 92 [.t 91,k_ 0] .bP,dW 93 [.c (.pv (.str [99,97,115,101,32])),.t 92] fm,dW 94 [.t 93,.c (.pv (.str [32,111,102,32]))] fm,jH 95 1 5,gl 96 95 (.ck 1 false),gl 97 96 (.aQ 260),kI 98 94 97 fm,dW 99 [.t 98,.c (.pv (.str [32,101,110,100]))] fm,a8 2 99] [2] .ret) (bC [en 101 8 9 jb,a8 100 101] [1,3,8,100] (.cond (.t 100) (bC [a8 102 3,nm 103 [.t 102,k_ 0] .bP,dW 104 [.c (.pv (.str [40])),.t 103] fm,dW 105 [.t 104,.c (.pv (.str [32,58,32]))] fm,jH 106 1 6,gl 107 106 (.ck 5 true),gl 108 107 (.aQ 252),kI 109 105 108 fm,dW 110 [.t 109,.c (.pv (.str [41]))] fm,a8 2 110] [2] .ret) (bC [en 112 8 11 jb,a8 111 112] [3,111] (.cond (.t 111) (bC [a8 113 3,nm 114 [.t 113,k_ 0] .bP,dW 115 [.c (.pv (.str [123])),.t 114] fm,dW 116 [.t 115,.c (.pv (.str [125]))] fm,a8 2 116] [2] .ret) .skip)))))))))))))))))))))) (bC [dW 2 [.c (.pv (.str []))] .mv] [2] .ret)))),none,false⟩
def g252B0:aR:=(bC [kI 55 54 53 Ay] [3,52,53,54,55] (.seq (.cond (.t 55) .skip (.exit 1)) (.seq (.block 2 (bC [kI 56 52 54 (.ed 5),oJ 57 56 B9,yS 5 Ad,yR 5 57 5 0 5] [3,5,52,53,54] (.iL [a8 58 3,kJ 59 5 5 0 5 true,gl 60 59 (.aQ 265),dW 61 [.c (.pv (.str [32])),.t 60] fm,kI 62 58 61 fm,a8 3 62] [3,52,53,54]))) (.iL [en 63 54 1 fm,a8 54 63] [3,52,53,54]))))
def g252L0:aR:=.loop [3,52,53,54] g252B0
theorem g252L0e: cl AP g252L0 st=after (cl AP g252L0) (cl AP g252B0 (norm (restrict [3,52,53,54] st))):=nW
def g252:aK:=⟨1,65,[.t 2],(bC [gl 1 0 (.box 1 5),dW 2 [.c (.pv (.str []))] .mv] [1] (.seq (bC [jH 6 1 0,kJ 7 6 1 0 1 false] [1,7] (.block 0 (bC [en 9 7 1 jb,a8 8 9] [1,7,8] (.cond (.t 8) (bC [jH 10 1 2,kJ 11 10 1 2 1 false,gl 12 11 (.aQ 245),dW 13 [.c (.pv (.str [95])),.t 12] fm,a8 2 13] [2] .ret) (bC [en 15 7 2 jb,a8 14 15] [1,7,14] (.cond (.t 14) (bC [jH 16 1 2,kJ 17 16 1 2 1 false,gl 18 17 (.aQ 245),a8 2 18] [2] .ret) (bC [en 20 7 3 jb,a8 19 20] [1,7,19] (.cond (.t 19) (bC [jH 21 1 2,kJ 22 21 1 2 1 false,gl 23 22 (.aQ 245),dW 24 [.c (.pv (.str [39])),.t 23] fm,a8 2 24] [2] .ret) (bC [en 26 7 5 jb,a8 25 26] [1,25] (.cond (.t 25) (bC [jH 27 1 1,kJ 28 27 1 1 1 false,a8 2 28] [2] .ret) .skip)))))))))) (.seq (bC [kJ 29 1 1 0 5 true,gl 30 29 (.aQ 264)] [1,30] (.cond (.t 30) (bC [jH 31 1 4,kJ 32 31 1 4 1 false,en 33 32 0 (.ed 5),oJ 34 33 B9,gl 35 34 (.aQ 252),jH 36 1 4,kJ 37 36 1 4 1 false,en 38 37 0 (.ed 5),oJ 39 38 B9,gl 40 39 (.aQ 264),Aw 41 35 40 (.aQ 258),dW 42 [.t 41,.c (.pv (.str [32,45,62,32]))] fm,jH 43 1 4,kJ 44 43 1 4 1 false,en 45 44 1 (.ed 5),oJ 46 45 B9,gl 47 46 (.aQ 252),kI 48 42 47 fm,a8 2 48] [2] .ret) .skip)) (bC [jH 49 1 1,kJ 50 49 1 1 1 false,a8 3 50] [1,3] (.seq (bC [jH 51 1 4,kJ 52 51 1 4 1 false,oJ 53 52 .len,y6 54 (k_ 0)] [3,52,53,54] (.block 1 g252L0)) (bC [a8 64 3,a8 2 64] [2] .ret)))))),none,false⟩
def g254:aK:=⟨2,10,[.c 4 11 true],(bC [gl 3 1 (.box 3 11),yS 4 Bn] [0,3,4] (bC [a8 5 0,dW 6 [k_ 1,.t 5] (.build Bn [(0,1),(2,1)]),kJ 7 3 3 0 11 true,kI 8 6 7 (.d3 11),dW 9 [k_ 5,.t 8] (.build Bn [(0,1),(4,1)]),yR 4 9 4 0 11] [4] .ret)),none,false⟩
def g255:aK:=⟨1,1,[],.exit 0,some (Prim.pure kT),false⟩
def g256B0:aR:=(.seq (bC [a8 9 4,en 10 9 0 Cz] [0,3,4,10] (.cond (.t 10) .skip (.exit 0))) (.seq (.block 1 (bC [a8 13 4,en 14 13 10 (.bin .rem),a8 5 14] [0,3,4,5] (.seq (bC [a8 15 5,en 16 15 0 Ay] [0,3,4,5,16] (.cond (.t 16) (.iL [a8 17 5,oJ 18 17 (.un .neg),a8 5 18] [0,3,4,5]) .skip)) (.iL [a8 19 5,a8 20 5,en 21 20 1 fm,dW 22 [.c (.pv (.str [48,49,50,51,52,53,54,55,56,57])),.t 19,.t 21] (.slice true 0 true true false),a8 23 3,kI 24 22 23 fm,a8 3 24] [0,3,4])))) (.iL [a8 11 4,en 12 11 10 (.bin .quo),a8 4 12] [0,3,4])))
def g256L0:aR:=.loop [0,3,4] g256B0
theorem g256L0e: cl AP g256L0 st=after (cl AP g256L0) (cl AP g256B0 (norm (restrict [0,3,4] st))):=nW
def g256:aK:=⟨1,30,[.t 2],(bC [dW 2 [.c (.pv (.str []))] .mv] [0] (.seq (bC [a8 6 0,en 7 6 0 jb] [0,7] (.cond (.t 7) (bC [dW 2 [.c (.pv (.str [48]))] .mv] [2] .ret) .skip)) (bC [dW 3 [.c (.pv (.str []))] .mv] [0,3] (.seq (bC [a8 8 0,a8 4 8] [0,3,4] (.block 0 g256L0)) (.seq (bC [a8 25 0,en 26 25 0 Ay] [3,26] (.cond (.t 26) (.iL [a8 27 3,dW 28 [.c (.pv (.str [45])),.t 27] fm,a8 3 28] [3]) .skip)) (bC [a8 29 3,a8 2 29] [2] .ret)))))),none,false⟩
def g257:aK:=⟨1,15,[.t 3],(bC [dW 3 [.c (.pv (.str []))] .mv] [0,1] (.seq (bC [a8 4 0,jH 5 1 4,gl 6 5 (.ck 1 false),oJ 7 6 .len,kI 8 4 7 Ay] [0,1,8] (.cond (.t 8) (bC [jH 9 1 4,gl 10 9 (.ck 1 false),a8 11 0,kI 12 10 11 (.ed 11),oJ 13 12 (.eC 11 true),gl 14 13 (.aQ 248),a8 3 14] [3] .ret) .skip)) (bC [dW 3 [.c (.pv (.str []))] .mv] [3] .ret))),none,false⟩
def g258:aK:=⟨2,10,[.t 4],(bC [dW 4 [.c (.pv (.str []))] .mv] [0,1] (.seq (bC [a8 5 1] [0,5] (.cond (.t 5) (bC [a8 6 0,dW 7 [.c (.pv (.str [40])),.t 6] fm,dW 8 [.t 7,.c (.pv (.str [41]))] fm,a8 4 8] [4] .ret) .skip)) (bC [a8 9 0,a8 4 9] [4] .ret))),none,false⟩
def g259:aK:=⟨1,12,[.t 2],(bC [gl 1 0 (.box 1 11),y6 2 F_] [1] (.seq (bC [jH 3 1 0,kJ 4 3 1 0 1 false] [4] (.block 0 (.seq (bC [en 6 4 1 jb,a8 5 6] [4,5] (.cond (.t 5) .skip (bC [en 7 4 2 jb,a8 5 7] [4,5] (.cond (.t 5) .skip (bC [en 8 4 3 jb,a8 5 8] [4,5] (.cond (.t 5) .skip (bC [en 9 4 10 jb,a8 5 9] [4,5] (.cond (.t 5) .skip (bC [en 10 4 9 jb,a8 5 10] [4,5] (.cond (.t 5) .skip (.iL [en 11 4 11 jb,a8 5 11] [5]))))))))))) (.cond (.t 5) (bC [y6 2 T_] [2] .ret) .skip)))) (bC [y6 2 F_] [2] .ret))),none,false⟩
def g260B0:aR:=(bC [kI 12 11 10 Ay] [3,9,10,11,12] (.seq (.cond (.t 12) .skip (.exit 0)) (.seq (.block 1 (bC [a8 13 11,kI 14 9 11 (.ed 14),oJ 15 14 (.eC 14 true),yS 5 [mL,Ax,yT,mL,mL,Ax,mL,yT,yT,mL,Ax,mL,mL,yT],a8 4 13,yR 5 15 5 0 14] [3,4,5,9,10,11] (.iL [a8 16 3,a8 17 4,jH 18 5 1,kJ 19 18 5 1 1 false,oJ 20 19 (.d3 1),jH 21 5 2,kJ 22 21 5 2 1 false,Aw 23 20 22 (.append 1 16),nm 24 [.t 23,.c (.pv (.str [32]))] (.aQ 269),dW 25 [.t 24,.c (.pv (.str [46,32]))] fm,jH 26 5 3,kJ 27 26 5 3 11 true,gl 28 27 (.aQ 248),kI 29 25 28 fm,kI 30 16 17 (.ed 1),CM [.t 30,.t 29] (.d4 1)] [3,9,10,11]))) (.iL [en 31 11 1 fm,a8 11 31] [3,9,10,11]))))
def g260L0:aR:=.loop [3,9,10,11] g260B0
theorem g260L0e: cl AP g260L0 st=after (cl AP g260L0) (cl AP g260B0 (norm (restrict [3,9,10,11] st))):=nW
def g260:aK:=⟨1,34,[.t 2],(bC [dW 2 [.c (.pv (.str []))] .mv] [0] (bC [a8 6 0,oJ 7 6 .len,Aw 8 7 7 (.gO 1 16 false [.str []]),a8 3 8] [0,3] (.seq (bC [a8 9 0,oJ 10 9 .len,y6 11 (k_ 0)] [3,9,10,11] (.block 0 g260L0)) (bC [a8 32 3,nm 33 [.t 32,.c (.pv (.str [32,124,32]))] (.eo 269),a8 2 33] [2] .ret)))),none,false⟩
def g264:aK:=⟨1,17,[.t 2],(bC [gl 1 0 (.box 1 5),y6 2 F_] [1] (bC [jH 3 1 0,kJ 4 3 1 0 1 false,en 5 4 4 jb,a8 6 5,nn 7 6 true 1 (.v (.ga 1)),nn 8 6 true 7 (.dv 1 1 1 false),yQ 9 6 true [.t 8,.c (.pv (.str [45,62]))] (.v jb),dW 10 [.t 6,.t 9,F_] .pick,a8 11 10,nn 12 11 true 1 (.v (.ga 4)),nn 13 11 true 12 (.dv 1 4 1 false),nn 14 11 true 13 (.v .len),yQ 15 11 true [.t 14,k_ 2] (.v jb),dW 16 [.t 11,.t 15,F_] .pick,a8 2 16] [2] .ret)),none,false⟩
def g265:aK:=⟨1,15,[.t 2],(bC [gl 1 0 (.box 1 5),dW 2 [.c (.pv (.str []))] .mv] [1] (bC [kJ 3 1 1 0 5 true,gl 4 3 (.aQ 252),jH 5 1 0,kJ 6 5 1 0 1 false,en 7 6 4 jb,a8 8 7,nn 9 8 true 1 (.v (.ga 4)),nn 10 8 true 9 (.dv 1 4 1 false),nn 11 8 true 10 (.v .len),yQ 12 8 true [.t 11,k_ 0] (.v CN),dW 13 [.t 8,.t 12,F_] .pick,Aw 14 4 13 (.aQ 258),a8 2 14] [2] .ret)),none,false⟩
def g269:aK:=⟨2,2,[],.exit 0,some (Prim.pure tG),false⟩
end
def AP (g:Nat):Option aK:=match g with
 | 26=>some g26
 | 62=>some g62
 | 63=>some g63
 | 69=>some g69
 | 72=>some g72
 | 241=>some g241
 | 244=>some g244
 | 245=>some g245
 | 246=>some g246
 | 248=>some g248
 | 252=>some g252
 | 254=>some g254
 | 255=>some g255
 | 256=>some g256
 | 257=>some g257
 | 258=>some g258
 | 259=>some g259
 | 260=>some g260
 | 264=>some g264
 | 265=>some g265
 | 269=>some g269
 | _=>none
end Go.Ab
