import Derived.Test.YtcjggpmnbcfedaaDoorCodeA
import Derived.Test.YtcjggpmnbcfedaaDoorAbBridge
import Derived.Test.YtcjggpmnbcfedaaDoorAbForce
import Derived.KernelRfl
/-
  The program's data.
  The makers: what their functions zX.
  The makers: what their functions zX.
  The data declarations that programs are made of: what the reader makes of their text.
  The makers: data declarations, chosen by bits.
  The makers: types and substitutions off the tape.
  Types and substitutions: what replaces variables.
  Types: rebuilding with new leaves.
  Substitutions: composing; equality of types and of substitutions.
  Functions of package slices over any elements.
  Ranges over a slice backward.
  Which types are valid.
  Contexts: their entries; looking names up.
  What the pure data of a parameter looks Fh.
  The variables of types, by the program and by the reference.
  Contexts: schemes, adding, hidden entries; what law 19 makes.
  The maker of types over any list of data types.
  Correct types in declarations.
  Expressions.
  Raw expressions: what the maker gives.
  The maker of raw expressions.
  Texts of types, by the program (over any table of functions that knows the package show) and by the reference.
  The maker of raw expressions: cases; all depths.
  slices.DeleteFunc over an array of texts that may be written.
  Arrays of structs in shared memory: their cells one behind the other.
  Expressions: children, the part at a path, and the names that are bound.
  Texts of expressions: the parts.
  Texts of expressions.
  Texts of expressions: all of them.
  The law ShowExprs.
-/
set_option linter.unusedVariables false
set_option linter.unusedSimpArgs false
set_option maxRecDepth 100000
set_option maxHeartbeats 8000000
namespace Go.Ab.Lw
structure Ty where
 kind:Int
 name:List UInt8
 id:Int
 home:Int
 args:List Ty
 deriving Inhabited
noncomputable instance:DecidableEq Ty:=fun _ _=>Classical.propDecidable _
mutual
def Ty.pv:Ty→PV
 | ⟨k,n,i,h,as⟩=>.agg [.int .i64 k,.str n,.int .i64 i,.int .i64 h,.a8 (Ty.cd as)]
def Ty.cd:List Ty→List PV
 | []=>[]
 | a::r=>a.pv::Ty.cd r
end
theorem Ty.ko:∀l:List Ty,Ty.cd l=l.map Ty.pv
 | []=>by simp [Ty.cd]
 | a::r=>by simp [Ty.cd,Ty.ko r]
@[simp] theorem Ty.oj (t:Ty):t.pv=.agg [.int .i64 t.kind,.str t.name,.int .i64 t.id,.int .i64 t.home,.a8 (t.args.map Ty.pv)]:=by
 cases t;simp only [Ty.pv,Ty.ko]
structure vV where
 pos:Int
 name:List UInt8
 fields:List Ty
 deriving Inhabited
structure Dt where
 pos:Int
 name:List UInt8
 params:List (List UInt8)
 cons:List vV
 deriving Inhabited
def vV.pv (c:vV):PV:=.agg [.int .i64 c.pos,.str c.name,.a8 (c.fields.map Ty.pv)]
def Dt.pv (d:Dt):PV:=.agg [.int .i64 d.pos,.str d.name,.a8 (d.params.map .str),.a8 (d.cons.map vV.pv)]
@[simp] theorem vV.oj (c:vV):c.pv=.agg [.int .i64 c.pos,.str c.name,.a8 (c.fields.map Ty.pv)]:=rfl
@[simp] theorem Dt.oj (d:Dt):d.pv=.agg [.int .i64 d.pos,.str d.name,.a8 (d.params.map .str),.a8 (d.cons.map vV.pv)]:=rfl
structure As where
 id:Int
 ty:Ty
 deriving Inhabited
def As.pv (a:As):PV:=.agg [.int .i64 a.id,.int .i64 a.ty.kind,.str a.ty.name,.int .i64 a.ty.id,.int .i64 a.ty.home,.a8 (a.ty.args.map Ty.pv)]
@[simp] theorem As.oj (a:As):a.pv=.agg [.int .i64 a.id,.int .i64 a.ty.kind,.str a.ty.name,.int .i64 a.ty.id,.int .i64 a.ty.home,.a8 (a.ty.args.map Ty.pv)]:=rfl
@[simp] theorem As.eta (t:As):As.mk t.id t.ty=t:=rfl
abbrev vI (n:Int):PV:=.int .i64 n
def tp (L:List Int) (i:Int):Sh:=[some [.pv (.a8 (L.map vI)),.pv (vI i)]]
@[simp] theorem Gp (L:List Int) (i:Int):tp L i=[some [.pv (.a8 (L.map vI)),.pv (vI i)]]:=rfl
def Sm {α:Type} (l:List α):Prop:=l.length<1099511627776
def Gy {α:Type} (l:List α):Prop:=l.length≤9223372036854775807
@[simp] theorem F7 (n:Nat):((n:Int)<0)↔False:=by simp
theorem sq {α:Type} {l:List α} {i:Nat} {x:α} (h:l[i]?=some x):l.drop i=x::l.drop (i+1):=by
 obtain ⟨hi,rfl⟩:=List.getElem?_eq_some_iff.1 h
 exact List.drop_eq_getElem_cons hi
theorem iQ {α:Type} {l:List α} {i:Nat} (h:i<l.length):∃x,l[i]?=some x:=⟨_,List.getElem?_eq_getElem h⟩
theorem ic {α:Type} {l:List α} {i:Nat} {x:α} (h:l[i]?=some x):x∈l:=List.mem_of_getElem? h
end Go.Ab.Lw
namespace Go.Ab.Lw
open Ev
theorem c26 {n m:Int} (h1:1≤m) (h2:m<4611686018427387904):∃r,(aQ AP).p 26 [vI n,vI m]=some [vI r]∧0≤r∧r<m:=by
 rw [aD (af:=g26) rfl rfl (by decide)]
 have a1:=Int.tmod_lt_of_pos n (show 0<m by omega)
 have a2:=Int.lt_tmod_of_pos n (show 0<m by omega)
 have e1:¬m<1:=by omega
 have e2:¬m=0:=by omega
 by_cases h:n.tmod m<0
 · refine ⟨n.tmod m+m,?_,by omega,by omega⟩
   simp (disch:=omega) [g26,e1,e2,h,bH]
 · refine ⟨n.tmod m,?_,by omega,by omega⟩
   simp [g26,e1,e2,h]
theorem c68 {L:List Int} (hL:Sm L) {i:Nat} (hi:i≤L.length) {n:Int} (h1:1≤n) (h2:n<4611686018427387904) :
   ∃(r:Int) (j:Nat),(aQ AP).i 68 [.aT 0 0,.pv (vI n)] (tp L i) []=some ([.pv (vI r)],tp L j,[])∧0≤r∧r<n∧j≤L.length:=by
 unfold Sm at hL
 rw [aZ (af:=g68) rfl (by simp [g68])]
 by_cases h:i<L.length
 · obtain ⟨x,hx⟩:=iQ h
   obtain ⟨r,e,e1,e2⟩:=c26 (n:=x) h1 h2
   refine ⟨r,i+1,?_,e1,e2,h⟩
   have h':¬L.length≤i:=by omega
   simp (disch:=omega) [-getElem?_pos,g68,h',bH,hx,e]
 · have h':L.length≤i:=by omega
   refine ⟨0,i,?_,by omega,by omega,hi⟩
   simp [g68,h']
theorem c62 {s:List UInt8} {l:List Ty} (h:Sm l):(aQ AP).p 62 [.str s,.a8 (l.map Ty.pv)]=some [(Ty.mk 4 s 0 0 l).pv]:=by
 unfold Sm at h
 rw [aD (af:=g62) rfl rfl (by decide)]
 cases l with
 | nil=>simp [g62]
 | cons a r=>
   have:(r.length+1)*64≤140737488355328:=by simp at h;omega
   simp [g62,this]
theorem c34:(aQ AP).p 34 []=some [(Ty.mk 4 [73,110,116] 0 0 []).pv]:=by
 rw [aD (af:=g34) rfl rfl (by decide)]
 have h:=c62 (s:=[73,110,116]) (l:=[]) (by simp [Sm])
 simp at h
 simp [g34,h]
theorem c69 {a b:Ty}:(aQ AP).p 69 [a.pv,b.pv]=some [(Ty.mk 4 [45,62] 0 0 [a,b]).pv]:=by
 rw [aD (af:=g69) rfl rfl (by decide)]
 have h:=c62 (s:=[45,62]) (l:=[a,b]) (by simp [Sm])
 simp at h
 simp [g69,h]
theorem c15 {l:List Int}:(aQ AP).p 15 [.a8 (l.map vI)]=some [.bool (decide (l.length≤60))]:=by
 rw [aD (af:=g15) rfl rfl (by decide)]
 simp [g15]
 omega
end Go.Ab.Lw
namespace Go.Ab.Lw
open Ev
def iu:Ty:=⟨4,[73,110,116],0,0,[]⟩
end Go.Ab.Lw
namespace Go.Ab.Lw
def FG:List UInt8:=[100,97,116,97,32,66,111,111,108,32,61,32,84,114,117,101,32,124,32,70,97,108,115,101,59,32,100,97,116,97,32,79,112,116,105,111,110,32,97,32,61,32,78,111,110,101,32,124,32,83,111,109,101,32,97,59,32,100,97,116,97,32,76,105,115,116,32,97,32,61,32,78,105,108,32,124,32,67,111,110,115,32,97,32,40,76,105,115,116,32,97,41,59,100,97,116,97,32,80,97,105,114,32,97,32,98,32,61,32,80,97,105,114,32,97,32,98,59,32,100,97,116,97,32,78,97,116,32,61,32,90,101,114,111,32,124,32,83,117,99,99,32,78,97,116,59,32,100,97,116,97,32,70,117,110,32,97,32,98,32,61,32,70,117,110,32,40,97,32,45,62,32,98,41,59,32,100,97,116,97,32,84,119,111,32,97,32,61,32,66,111,116,104,32,97,32,97,32,124,32,79,110,101,32,40,79,112,116,105,111,110,32,97,41,59]
def DO:List PV:=[.a8 [.agg [.int .i64 4,.str [100,97,116,97],.int .i64 0],.agg [.int .i64 2,.str [66,111,111,108],.int .i64 5],.agg [.int .i64 5,.str [61],.int .i64 10],.agg [.int .i64 2,.str [84,114,117,101],.int .i64 12],.agg [.int .i64 5,.str [124],.int .i64 17],.agg [.int .i64 2,.str [70,97,108,115,101],.int .i64 19],.agg [.int .i64 5,.str [59],.int .i64 24],.agg [.int .i64 4,.str [100,97,116,97],.int .i64 26],.agg [.int .i64 2,.str [79,112,116,105,111,110],.int .i64 31],.agg [.int .i64 1,.str [97],.int .i64 38],.agg [.int .i64 5,.str [61],.int .i64 40],.agg [.int .i64 2,.str [78,111,110,101],.int .i64 42],.agg [.int .i64 5,.str [124],.int .i64 47],.agg [.int .i64 2,.str [83,111,109,101],.int .i64 49],.agg [.int .i64 1,.str [97],.int .i64 54],.agg [.int .i64 5,.str [59],.int .i64 55],.agg [.int .i64 4,.str [100,97,116,97],.int .i64 57],.agg [.int .i64 2,.str [76,105,115,116],.int .i64 62],.agg [.int .i64 1,.str [97],.int .i64 67],.agg [.int .i64 5,.str [61],.int .i64 69],.agg [.int .i64 2,.str [78,105,108],.int .i64 71],.agg [.int .i64 5,.str [124],.int .i64 75],.agg [.int .i64 2,.str [67,111,110,115],.int .i64 77],.agg [.int .i64 1,.str [97],.int .i64 82],.agg [.int .i64 5,.str [40],.int .i64 84],.agg [.int .i64 2,.str [76,105,115,116],.int .i64 85],.agg [.int .i64 1,.str [97],.int .i64 90],.agg [.int .i64 5,.str [41],.int .i64 91],.agg [.int .i64 5,.str [59],.int .i64 92],.agg [.int .i64 4,.str [100,97,116,97],.int .i64 93],.agg [.int .i64 2,.str [80,97,105,114],.int .i64 98],.agg [.int .i64 1,.str [97],.int .i64 103],.agg [.int .i64 1,.str [98],.int .i64 105],.agg [.int .i64 5,.str [61],.int .i64 107],.agg [.int .i64 2,.str [80,97,105,114],.int .i64 109],.agg [.int .i64 1,.str [97],.int .i64 114],.agg [.int .i64 1,.str [98],.int .i64 116],.agg [.int .i64 5,.str [59],.int .i64 117],.agg [.int .i64 4,.str [100,97,116,97],.int .i64 119],.agg [.int .i64 2,.str [78,97,116],.int .i64 124],.agg [.int .i64 5,.str [61],.int .i64 128],.agg [.int .i64 2,.str [90,101,114,111],.int .i64 130],.agg [.int .i64 5,.str [124],.int .i64 135],.agg [.int .i64 2,.str [83,117,99,99],.int .i64 137],.agg [.int .i64 2,.str [78,97,116],.int .i64 142],.agg [.int .i64 5,.str [59],.int .i64 145],.agg [.int .i64 4,.str [100,97,116,97],.int .i64 147],.agg [.int .i64 2,.str [70,117,110],.int .i64 152],.agg [.int .i64 1,.str [97],.int .i64 156],.agg [.int .i64 1,.str [98],.int .i64 158],.agg [.int .i64 5,.str [61],.int .i64 160],.agg [.int .i64 2,.str [70,117,110],.int .i64 162],.agg [.int .i64 5,.str [40],.int .i64 166],.agg [.int .i64 1,.str [97],.int .i64 167],.agg [.int .i64 5,.str [45,62],.int .i64 169],.agg [.int .i64 1,.str [98],.int .i64 172],.agg [.int .i64 5,.str [41],.int .i64 173],.agg [.int .i64 5,.str [59],.int .i64 174],.agg [.int .i64 4,.str [100,97,116,97],.int .i64 176],.agg [.int .i64 2,.str [84,119,111],.int .i64 181],.agg [.int .i64 1,.str [97],.int .i64 185],.agg [.int .i64 5,.str [61],.int .i64 187],.agg [.int .i64 2,.str [66,111,116,104],.int .i64 189],.agg [.int .i64 1,.str [97],.int .i64 194],.agg [.int .i64 1,.str [97],.int .i64 196],.agg [.int .i64 5,.str [124],.int .i64 198],.agg [.int .i64 2,.str [79,110,101],.int .i64 200],.agg [.int .i64 5,.str [40],.int .i64 204],.agg [.int .i64 2,.str [79,112,116,105,111,110],.int .i64 205],.agg [.int .i64 1,.str [97],.int .i64 212],.agg [.int .i64 5,.str [41],.int .i64 213],.agg [.int .i64 5,.str [59],.int .i64 214]],.agg [.int .i64 0,.int .i64 0]]
def cv:List Dt:=[⟨0,[66,111,111,108],[],[⟨12,[84,114,117,101],[]⟩,⟨19,[70,97,108,115,101],[]⟩]⟩,
 ⟨26,[79,112,116,105,111,110],[[97]],[⟨42,[78,111,110,101],[]⟩,⟨49,[83,111,109,101],[⟨5,[97],0,0,[]⟩]⟩]⟩,
 ⟨57,[76,105,115,116],[[97]],[⟨71,[78,105,108],[]⟩,⟨77,[67,111,110,115],[⟨5,[97],0,0,[]⟩,⟨4,[76,105,115,116],0,0,[⟨5,[97],0,0,[]⟩]⟩]⟩]⟩,
 ⟨93,[80,97,105,114],[[97],[98]],[⟨109,[80,97,105,114],[⟨5,[97],0,0,[]⟩,⟨5,[98],0,0,[]⟩]⟩]⟩,
 ⟨119,[78,97,116],[],[⟨130,[90,101,114,111],[]⟩,⟨137,[83,117,99,99],[⟨4,[78,97,116],0,0,[]⟩]⟩]⟩,
 ⟨147,[70,117,110],[[97],[98]],[⟨162,[70,117,110],[⟨4,[45,62],0,0,[⟨5,[97],0,0,[]⟩,⟨5,[98],0,0,[]⟩]⟩]⟩]⟩,
 ⟨176,[84,119,111],[[97]],[⟨189,[66,111,116,104],[⟨5,[97],0,0,[]⟩,⟨5,[97],0,0,[]⟩]⟩,⟨200,[79,110,101],[⟨4,[79,112,116,105,111,110],0,0,[⟨5,[97],0,0,[]⟩]⟩]⟩]⟩]
theorem FH:(aQ AP).p 118 [.str FG]=some DO:=Fc.FE (k:=400) (n:=20) (by kernel_rfl)
def Gq (g:Nat) (x:List PV):Option (List PV):=match g,x with
 | 118,[.str s]=>if s=FG then some DO else none
 | _,_=>none
theorem EE:∀g x r,Gq g x=some r→(aQ AP).p g x=some r:=by
 intro g x r h
 unfold Gq at h
 split at h
 · split at h
   · rename_i e;subst e;cases h;exact FH
   · cases h
 · cases h
theorem c79:(aQ AP).p 79 []=some [.a8 (cv.map Dt.pv)]:=Fc.FF (k:=400) (n:=40) EE (by kernel_rfl)
end Go.Ab.Lw
namespace Go.Ab.Lw
open Ev
@[simp] theorem EV {l:List Dt}:bj 4 (l.map Dt.pv)=true:=by cases l<;>simp
@[simp] theorem EW {l:List Ty}:bj 5 (l.map Ty.pv)=true:=by cases l<;>simp
theorem B5 {n:Int} (h1:0≤n) (h2:n<18446744073709551616):IntKind.u64.wrap n=n:=by
 simp [IntKind.wrap,IntKind.bits,IntKind.signed]
 omega
def FI (bits:Int) (ds:List Dt):Option (aH×St):=
 some (.exit 0,⟨[(0,.pv (vI bits)),(3,.pv (.a8 (cv.map Dt.pv))),(4,.own (ds.map Dt.pv) 0),(5,.pv (vI 7)),(24,.pv (.bool false))],[],[],[ds.length]⟩)
theorem FZ (bits:Int):∀(n i:Nat),7-i=n→i≤7→∀acc:List Dt,(∀d∈acc,d∈cv)→acc.length≤1+i →
   ∃ds:List Dt,cl AP g32L0 ⟨[(0,.pv (vI bits)),(3,.pv (.a8 (cv.map Dt.pv))),(4,.own (acc.map Dt.pv) 0),(5,.pv (vI i))],[],[],[acc.length]⟩=FI bits ds ∧
     (∀d∈ds,d∈cv)∧ds.length≤8
 | 0,i,hn,hi,acc,ha,hl=>by
   have:i=7:=by omega
   subst this
   refine ⟨acc,?_,ha,by omega⟩
   rw [g32L0e]
   have h7:cv.length=7:=rfl
   simp [g32B0,h7,FI]
 | n+1,i,hn,hi,acc,ha,hl=>by
   have h7:cv.length=7:=rfl
   have hi:i<7:=by omega
   obtain ⟨x,hx⟩:=iQ (l:=cv) (i:=i) (by omega)
   have hb:(acc.length+1)*72≤140737488355328:=by omega
   obtain ⟨d1,e1,m1,l1⟩:=FZ bits n (i+1) (by omega) (by omega) (acc++[x]) (by
     intro d hd;simp at hd;rcases hd with hd | rfl
     · exact ha d hd
     · exact ic hx) (by simp;omega)
   obtain ⟨d2,e2,m2,l2⟩:=FZ bits n (i+1) (by omega) (by omega) acc ha (by omega)
   simp at e1 e2
   have hi':(i:Int)<7:=by omega
   have key:∀S,S=cl AP g32L0 ⟨[(0,.pv (vI bits)),(3,.pv (.a8 (cv.map Dt.pv))),(4,.own (acc.map Dt.pv) 0),(5,.pv (vI i))],[],[],[acc.length]⟩→S=FI bits d1∨S=FI bits d2:=by
     intro S hS
     rw [g32L0e] at hS
     simp (disch:=omega) [-getElem?_pos,g32B0,h7,hi',hx,bH,B5,hb,e1,e2] at hS
     subst hS
     (repeat' split)<;>simp
   rcases key _ rfl with h | h
   · exact ⟨d1,h,m1,l1⟩
   · exact ⟨d2,h,m2,l2⟩
theorem c32 (bits:Int):∃ds:List Dt,(aQ AP).p 32 [vI bits]=some [.a8 (ds.map Dt.pv)]∧(∀d∈ds,d∈cv)∧ds.length≤8:=by
 have hp:=c79
 have h7:cv.length=7:=rfl
 obtain ⟨x,hx⟩:=iQ (l:=cv) (i:=1) (by decide)
 obtain ⟨d1,e1,m1,l1⟩:=FZ bits 7 0 rfl (by omega) [x] (by intro d hd;simp at hd;subst hd;exact ic hx) (by simp)
 obtain ⟨d2,e2,m2,l2⟩:=FZ bits 7 0 rfl (by omega) [] (by simp) (by simp)
 rw [g32L0e] at e1 e2
 simp at e1 e2
 have key:∀S,S=(aQ AP).p 32 [vI bits]→S=some [.a8 (d1.map Dt.pv)]∨S=some [.a8 (d2.map Dt.pv)]:=by
   intro S hS
   rw [aD (af:=g32) rfl rfl (by decide)] at hS
   simp [-getElem?_pos,g32,hp,g32L0e,hx,e1,e2,FI] at hS
   subst hS
   (repeat' split)<;>simp
 rcases key _ rfl with h | h
 · exact ⟨d1,h,m1,l1⟩
 · exact ⟨d2,h,m2,l2⟩
end Go.Ab.Lw
namespace Go.Ab.Lw
open Ev
inductive Made (lv:Ty→Prop):Ty→Prop
 | leaf {t:Ty}:lv t→Made lv t
 | int:Made lv iu
 | kp {d:Dt} {args:List Ty}:d∈cv→args.length=d.params.length→(∀x∈args,Made lv x)→Made lv ⟨4,d.name,0,0,args⟩
 | arrow {a b:Ty}:Made lv a→Made lv b→Made lv ⟨4,[45,62],0,0,[a,b]⟩
def Ty.av (t:Ty):AV:=.agg [.pv (vI t.kind),.pv (.str t.name),.pv (vI t.id),.pv (vI t.home),.pv (.a8 (t.args.map Ty.pv))]
@[simp] theorem Ty.Gr (t:Ty):t.av=.agg [.pv (vI t.kind),.pv (.str t.name),.pv (vI t.id),.pv (vI t.home),.pv (.a8 (t.args.map Ty.pv))]:=rfl
def nI (L:List Int) (ds:List Dt) (lv:List Ty) (dep:Nat):Prop:=∀i:Nat,i≤L.length→∃(t:Ty) (j:Nat),
 (aQ AP).i 27 [.aT 0 0,.pv (.a8 (ds.map Dt.pv)),.pv (.a8 (lv.map Ty.pv)),.pv (vI dep)] (tp L i) []=some ([t.av],tp L j,[])∧Made (·∈lv) t∧j≤L.length
theorem vW {r:Int} {n:Nat} (h0:0≤r) (h1:r<n):∃m:Nat,r=m∧m<n:=⟨r.toNat,by omega,by omega⟩
end Go.Ab.Lw
namespace Go.Ab.Lw
open Ev
inductive Ty.Ok:Ty→Prop
 | mk {t:Ty}:Sm t.args→(∀x∈t.args,Ty.Ok x)→Ty.Ok t
inductive Ty.Wf:Ty→Prop
 | mk {t:Ty}:(t.kind=1→t.args=[])→(∀x∈t.args,Ty.Wf x)→Ty.Wf t
end Go.Ab.Lw
namespace Go.Ab.Lw
open Ev
def jm (sh:Sh):Prop:=∀cs,some cs∈sh→∀v∈cs,∃p,v=AV.pv p
theorem sr {aC ts:au}:∀{cs:List AV},(∀v∈cs,∃p,v=AV.pv p)→aV aC ts cs=(cs,aC,ts)
 | [],_=>rfl
 | v::r,h=>by
   obtain ⟨p,rfl⟩:=h v (by simp)
   simp only [mK,rb,sr (cs:=r) (fun v hv=>h v (by simp [hv]))]
theorem jm.norm:∀{sh:Sh},jm sh→∀aC ts,bQ aC ts sh=(sh,aC,ts)
 | [],_,_,_=>rfl
 | none::sh,h,aC,ts=>by
   simp only [mL,jm.norm (sh:=sh) (fun cs hc=>h cs (by simp [hc]))]
 | some cs::sh,h,aC,ts=>by
   simp only [mM,sr (h cs (by simp)),jm.norm (sh:=sh) (fun cs hc=>h cs (by simp [hc]))]
theorem jm.one {cs:List AV} (h:∀v∈cs,∃p,v=AV.pv p):jm [some cs]:=by
 intro cs' hc
 simp at hc
 subst hc
 exact h
theorem B6 {l:List AV} (h:∀v∈l,∃p,v=.pv p):cV l=false:=by
 cases l with
 | nil=>rfl
 | cons c r=>obtain ⟨p,rfl⟩:=h c (by simp);rfl
end Go.Ab.Lw
namespace Go.Ab.Lw
open Ev
noncomputable instance:DecidableEq As:=fun _ _=>Classical.propDecidable _
end Go.Ab.Lw
namespace Go.Ab.Lw
open Ev
structure El {α:Type} (f:α→PV) (sz:Nat) (ag:Bool):Prop where
 len:∀x,(aK (f x)).length=sz
 of:∀x,bS ag sz (aK (f x))=some (.pv (f x))
theorem El.head {α:Type} {f:α→PV} {sz:Nat} {ag:Bool} (h:El f sz ag) (l:List α):bj sz (l.map f)=true:=by
 cases l with
 | nil=>rfl
 | cons x r=>simp [bj,h.len x]
theorem EF:El PV.str 1 false:=⟨fun _=>rfl,fun _=>rfl⟩
end Go.Ab.Lw
namespace Go.Ab.Lw
open Ev
def vX (f:St→Option (aH×St)) (live:List Nat) (pi px sz:Nat) (ag:Bool) (env:List (Nat×AV)) (r:List (PV×Nat)):Option (aH×St)→Option (aH×St)
 | some (.normal,st')=>fw f live pi px sz ag env r st'
 | some (e,st')=>some (e,{ st' with env:=env })
 | none=>none
@[simp] theorem Cg {f:St→Option (aH×St)} {live:List Nat} {pi px sz:Nat} {ag:Bool} {env:List (Nat×AV)} {r:List (PV×Nat)} {st:St}:vX f live pi px sz ag env r (some (.normal,st))=fw f live pi px sz ag env r st:=rfl
@[simp] theorem EG {f:St→Option (aH×St)} {live:List Nat} {pi px sz:Nat} {ag:Bool} {env e:List (Nat×AV)} {r:List (PV×Nat)} {mem:List (Nat×List AV)} {sh:Sh} {aa:au}:vX f live pi px sz ag env r (some (.ret,⟨e,mem,sh,aa⟩))=some (.ret,⟨env,mem,sh,aa⟩):=rfl
@[simp] theorem DP {f:St→Option (aH×St)} {live:List Nat} {pi px sz:Nat} {ag:Bool} {env e:List (Nat×AV)} {r:List (PV×Nat)} {mem:List (Nat×List AV)} {sh:Sh} {aa:au} {id:Nat}:vX f live pi px sz ag env r (some (.exit id,⟨e,mem,sh,aa⟩))=some (.exit id,⟨env,mem,sh,aa⟩):=rfl
@[simp] theorem EX {f:St→Option (aH×St)} {live:List Nat} {pi px sz:Nat} {ag:Bool} {env e:List (Nat×AV)} {mem:List (Nat×List AV)} {sh:Sh} {aa:au}:fw f live pi px sz ag env [] ⟨e,mem,sh,aa⟩=some (.normal,⟨env,mem,sh,aa⟩):=rfl
def F8 (g:St→Option (aH×St)):Option (aH×St)→Option (aH×St)
 | some (.normal,st')=>g st'
 | _=>none
@[simp] theorem DQ {g:St→Option (aH×St)} {st:St}:F8 g (some (.normal,st))=g st:=rfl
end Go.Ab.Lw
namespace Go.Ab.Lw
open Ev
inductive Ty.Nm:Ty→Prop
 | mk {t:Ty}:Gy t.name→(∀x∈t.args,Ty.Nm x)→Ty.Nm t
end Go.Ab.Lw
namespace Go.Ab.Lw
open Ev
abbrev Sc:=As
structure En where
 name:List UInt8
 sc:Sc
 deriving Inhabited
def En.pv (a:En):PV:=.agg [.str a.name,.int .i64 a.sc.id,.int .i64 a.sc.ty.kind,.str a.sc.ty.name,.int .i64 a.sc.ty.id,.int .i64 a.sc.ty.home,.a8 (a.sc.ty.args.map Ty.pv)]
@[simp] theorem En.oj (a:En):a.pv=.agg [.str a.name,.int .i64 a.sc.id,.int .i64 a.sc.ty.kind,.str a.sc.ty.name,.int .i64 a.sc.ty.id,.int .i64 a.sc.ty.home,.a8 (a.sc.ty.args.map Ty.pv)]:=rfl
@[simp] theorem En.eta (t:En):En.mk t.name t.sc=t:=rfl
noncomputable instance:DecidableEq En:=fun _ _=>Classical.propDecidable _
end Go.Ab.Lw
namespace Go.Ab.Lw
section
variable {P:Program} {n:Nat} {t e:TypeId} {p:PV}
theorem wH (hu:P.underlying t=some (.int .i64)) (h:oc P n t p):∃i,p=vI i:=by
 cases n with
 | zero=>simp [oc] at h
 | succ n=>simp only [oc,hu] at h;obtain ⟨i,rfl,_⟩:=h;exact ⟨i,rfl⟩
theorem B7 {α:Type} {f:α→PV} (hu:P.underlying t=some (.slice e)) (he:∀(m:Nat) (q:PV),oc P m e q→∃x,q=f x) (h:oc P n t p):∃l:List α,p=.a8 (l.map f):=by
 cases n with
 | zero=>simp [oc] at h
 | succ n=>
   simp only [oc,hu] at h
   obtain ⟨els,rfl,_,h⟩:=h
   have key:∀els:List PV,(∀q∈els,oc P n e q)→∃l:List α,els=l.map f:=by
     intro els
     induction els with
     | nil=>intro _;exact ⟨[],rfl⟩
     | cons q r ih=>
       intro h
       obtain ⟨x,rfl⟩:=he n q (h q (by simp))
       obtain ⟨l,rfl⟩:=ih (fun q hq=>h q (by simp [hq]))
       exact ⟨x::l,rfl⟩
   obtain ⟨l,rfl⟩:=key els h
   exact ⟨l,rfl⟩
theorem B8 (hu:P.underlying t=some (.slice e)) (he:P.underlying e=some (.int .i64)) (h:oc P n t p):∃L:List Int,p=.a8 (L.map vI):=
 B7 hu (fun _ _ h=>wH he h) h
end
end Go.Ab.Lw
namespace Go.Ab.Lw
open Ev
mutual
def Ty.nodes:Ty→List Ty
 | ⟨k,n,i,h,as⟩=>⟨k,n,i,h,as⟩::Ty.B9 as
def Ty.B9:List Ty→List Ty
 | []=>[]
 | a::r=>a.nodes++Ty.B9 r
end
def F9 (out:List Int) (x:Ty):List Int:=if x.kind=1∧x.id∉out then out++[x.id] else out
def vars (l:List Ty):List Int:=(l.flatMap Ty.nodes).foldl F9 []
end Go.Ab.Lw
namespace Go.Ab.Lw
open Ev
def varNames:List (List UInt8):=[[120],[121],[122],[102],[103],[118,49],[118,50],[105,100]]
theorem c175 {L:List Int} (hL:Sm L) {i:Nat} (hi:i≤L.length):∃(s:List UInt8) (j:Nat),(aQ AP).i 175 [.aT 0 0] (tp L i) []=some ([.pv (.str s)],tp L j,[])∧s∈varNames∧j≤L.length:=by
 obtain ⟨k,j,e,k0,k8,hj⟩:=c68 hL hi (n:=8) (by omega) (by omega)
 obtain ⟨m,rfl,hm⟩:=vW (n:=varNames.length) k0 (by simpa [varNames] using k8)
 obtain ⟨s,hs⟩:=iQ hm
 refine ⟨s,j,?_,ic hs,hj⟩
 simp at e
 rw [aZ (af:=g175) rfl (by simp [g175])]
 have hs':([PV.str [120],.str [121],.str [122],.str [102],.str [103],.str [118,49],.str [118,50],.str [105,100]]:List PV)[m]?=some (.str s):=by
   have:([PV.str [120],.str [121],.str [122],.str [102],.str [103],.str [118,49],.str [118,50],.str [105,100]]:List PV)=varNames.map PV.str:=rfl
   rw [this];simp [hs]
 simp [-getElem?_pos,g175,e,hs']
end Go.Ab.Lw
namespace Go.Ab.Lw
open Ev
inductive gw (D:Dt→Prop) (lv:List Ty):Nat→Ty→Prop
 | leaf {n:Nat} {t:Ty}:t∈lv→gw D lv n t
 | int {n:Nat}:gw D lv n iu
 | kp {n:Nat} {d:Dt} {args:List Ty}:D d→args.length=d.params.length→(∀x∈args,gw D lv n x)→gw D lv (n+1) ⟨4,d.name,0,0,args⟩
 | arrow {n:Nat} {a b:Ty}:gw D lv n a→gw D lv n b→gw D lv (n+1) ⟨4,[45,62],0,0,[a,b]⟩
def m8 (L:List Int) (ds:List Dt) (lv:List Ty) (dep:Nat):Prop:=∀i:Nat,i≤L.length→∃(t:Ty) (j:Nat),
 (aQ AP).i 27 [.aT 0 0,.pv (.a8 (ds.map Dt.pv)),.pv (.a8 (lv.map Ty.pv)),.pv (vI dep)] (tp L i) []=some ([t.av],tp L j,[])∧gw (·∈ds) lv dep t∧j≤L.length
theorem FJ {L:List Int} {ds:List Dt} {lv:List Ty} {dep:Nat} (hdep:dep<1000) (hg:m8 L ds lv dep) {d:Dt} (hS:Sm d.params):∀(n k:Nat),d.params.length-k=n→k≤d.params.length→∀(acc:List Ty) (i:Nat),acc.length=k→(∀x∈acc,gw (·∈ds) lv dep x)→i≤L.length →
   ∃(r:List Ty) (j:Nat),cl AP g27L0 ⟨[(0,.aT 0 0),(1,.pv (.a8 (ds.map Dt.pv))),(2,.pv (.a8 (lv.map Ty.pv))),(3,.pv (vI (dep+1))),(8,.bt 8 0),(10,.bt 10 0),(11,.own (acc.map Ty.pv) 0),(12,.pv (vI k))],
     [(8,[.pv (vI 0),.pv (.str []),.pv (vI 0),.pv (vI 0),.own [] 1]),(10,[.pv (vI d.pos),.pv (.str d.name),.pv (.a8 (d.params.map .str)),.pv (.a8 (d.cons.map vV.pv))])],tp L i,[acc.length,0]⟩ =
     some (.exit 1,⟨[(0,.aT 0 0),(1,.pv (.a8 (ds.map Dt.pv))),(2,.pv (.a8 (lv.map Ty.pv))),(3,.pv (vI (dep+1))),(8,.bt 8 0),(10,.bt 10 0),(11,.own (r.map Ty.pv) 0),(12,.pv (vI d.params.length)),(65,.pv (.bool false))],
     [(8,[.pv (vI 0),.pv (.str []),.pv (vI 0),.pv (vI 0),.own [] 1]),(10,[.pv (vI d.pos),.pv (.str d.name),.pv (.a8 (d.params.map .str)),.pv (.a8 (d.cons.map vV.pv))])],tp L j,[r.length,0]⟩) ∧
     r.length=d.params.length∧(∀x∈r,gw (·∈ds) lv dep x)∧j≤L.length
 | 0,k,hn,hk,acc,i,ha,hm,hi=>by
   have:k=d.params.length:=by omega
   subst this
   refine ⟨acc,i,?_,ha,hm,hi⟩
   rw [g27L0e]
   simp [g27B0]
 | n+1,k,hn,hk,acc,i,ha,hm,hi=>by
   unfold Sm at hS
   have hk:k<d.params.length:=by omega
   have hb:(acc.length+1)*64≤140737488355328:=by omega
   obtain ⟨t,j,e,mt,hj⟩:=hg i hi
   simp at e
   obtain ⟨r,j',e',hr,hm',hj'⟩:=FJ hdep hg hS n (k+1) (by omega) (by omega) (acc++[t]) j (by simp;omega) (by
     intro x hx;simp at hx;rcases hx with hx | rfl
     · exact hm x hx
     · exact mt) hj
   simp at e'
   refine ⟨r,j',?_,hr,hm',hj'⟩
   rw [g27L0e]
   have h1:(dep:Int)+1-1=dep:=by omega
   simp (disch:=omega) [-getElem?_pos,g27B0,hk,bH,h1,e,hb]
   rw [e']
theorem g27_0 {L:List Int} (hL:Sm L) {ds:List Dt} {lv:List Ty} (hlv:Sm lv):m8 L ds lv 0:=by
 intro i hi
 obtain ⟨k,j1,e1,k0,k7,hj1⟩:=c68 hL hi (n:=7) (by omega) (by omega)
 simp at e1
 unfold Sm at hlv
 by_cases h1:k<3
 · by_cases h2:lv=[]
   · subst h2
     refine ⟨iu,j1,?_,.int,hj1⟩
     have c:=c34
     simp at c
     rw [aZ (af:=g27) rfl (by simp [g27])]
     simp [-getElem?_pos,g27,e1,h1,c,iu]
   · have hp:0<lv.length:=List.length_pos_iff.2 h2
     obtain ⟨r,j2,e2,r0,r1,hj2⟩:=c68 hL hj1 (n:=lv.length) (by omega) (by omega)
     obtain ⟨m,rfl,hm⟩:=vW r0 r1
     obtain ⟨x,hx⟩:=iQ hm
     simp at e2
     refine ⟨x,j2,?_,.leaf (ic hx),hj2⟩
     rw [aZ (af:=g27) rfl (by simp [g27])]
     simp [-getElem?_pos,g27,e1,h1,hp,e2,hx]
 · refine ⟨iu,j1,?_,.int,hj1⟩
   have c:=c34
   simp at c
   rw [aZ (af:=g27) rfl (by simp [g27])]
   simp [-getElem?_pos,g27,e1,h1,c,iu]
theorem g27_s {L:List Int} (hL:Sm L) {ds:List Dt} (hds:ds.length≤20) (hda:∀d∈ds,d.params.length≤8) {lv:List Ty} (hlv:Sm lv) {dep:Nat} (hdep:dep<1000) (hg:m8 L ds lv dep):m8 L ds lv (dep+1):=by
 intro i hi
 obtain ⟨k,j1,e1,k0,k7,hj1⟩:=c68 hL hi (n:=7) (by omega) (by omega)
 simp at e1
 unfold Sm at hlv
 have hd1:¬((dep:Int)+1<1):=by omega
 have hd2:(dep:Int)+1-1=dep:=by omega
 have leafCase:∀h1:k<3,∀h2:¬lv=[],∃(t:Ty) (j:Nat),(aQ AP).i 27 [.aT 0 0,.pv (.a8 (ds.map Dt.pv)),.pv (.a8 (lv.map Ty.pv)),.pv (vI ((dep+1:Nat):Int))] (tp L i) []=some ([t.av],tp L j,[])∧gw (·∈ds) lv (dep+1) t∧j≤L.length:=by
   intro h1 h2
   have hp:0<lv.length:=List.length_pos_iff.2 h2
   obtain ⟨r,j2,e2,r0,r1,hj2⟩:=c68 hL hj1 (n:=lv.length) (by omega) (by omega)
   obtain ⟨m,rfl,hm⟩:=vW r0 r1
   obtain ⟨x,hx⟩:=iQ hm
   simp at e2
   refine ⟨x,j2,?_,.leaf (ic hx),hj2⟩
   rw [aZ (af:=g27) rfl (by simp [g27])]
   simp [-getElem?_pos,g27,e1,h1,hp,e2,hx]
 by_cases h1:k<3∧¬lv=[]
 · exact leafCase h1.1 h1.2
 · have h1':¬k<3∨lv=[]:=by
     by_cases h:k<3
     · right;by_cases h':lv=[]
       · exact h'
       · exact absurd ⟨h,h'⟩ h1
     · exact .inl h
   by_cases h2:k<4
   · refine ⟨iu,j1,?_,.int,hj1⟩
     have c:=c34
     simp at c
     rw [aZ (af:=g27) rfl (by simp [g27])]
     rcases h1' with h | h
     · simp [-getElem?_pos,g27,e1,h,h2,c,iu]
     · subst h
       simp [-getElem?_pos,g27,e1,h2,c,iu]
   · have h3:¬k<3:=by omega
     by_cases h4:(k=4∨k=5)∧¬ds=[]
     · obtain ⟨h4,h5⟩:=h4
       have hp:0<ds.length:=List.length_pos_iff.2 h5
       obtain ⟨r,j2,e2,r0,r1,hj2⟩:=c68 hL hj1 (n:=ds.length) (by omega) (by omega)
       obtain ⟨m,rfl,hm⟩:=vW r0 r1
       obtain ⟨d,hx⟩:=iQ hm
       simp at e2
       have hdm:=ic hx
       have hps:Sm d.params:=by
         unfold Sm
         have:=hda d hdm
         omega
       obtain ⟨as,j3,e3,ha,hm3,hj3⟩:=FJ hdep hg hps d.params.length 0 rfl (by omega) [] j2 rfl (by simp) hj2
       rw [g27L0e] at e3
       simp at e3
       have hsa:Sm as:=by unfold Sm at hps ⊢;omega
       have c:=c62 (s:=d.name) (l:=as) hsa
       simp at c
       refine ⟨⟨4,d.name,0,0,as⟩,j3,?_,.kp hdm ha hm3,hj3⟩
       rw [aZ (af:=g27) rfl (by simp [g27])]
       rcases h4 with rfl | rfl
       · simp [-getElem?_pos,g27,e1,hp,hd1,e2,hx,g27L0e,e3,c]
       · simp [-getElem?_pos,g27,e1,hp,hd1,e2,hx,g27L0e,e3,c]
     · obtain ⟨a,j2,ea,ma,hj2⟩:=hg j1 hj1
       obtain ⟨b,j3,eb,mb,hj3⟩:=hg j2 hj2
       simp at ea eb
       have c:=c69 (a:=a) (b:=b)
       simp at c
       refine ⟨⟨4,[45,62],0,0,[a,b]⟩,j3,?_,.arrow ma mb,hj3⟩
       rw [aZ (af:=g27) rfl (by simp [g27])]
       by_cases h5:ds=[]
       · subst h5
         simp at ea eb
         simp (disch:=omega) [-getElem?_pos,g27,e1,h2,h3,hd1,hd2,bH,ea,eb,c]
       · have h6:¬k=4∧¬k=5:=by
           constructor
           · intro h;exact h4 ⟨.inl h,h5⟩
           · intro h;exact h4 ⟨.inr h,h5⟩
         simp (disch:=omega) [-getElem?_pos,g27,e1,h2,h3,h6.1,h6.2,hd1,hd2,bH,ea,eb,c]
theorem FK {L:List Int} (hL:Sm L) {ds:List Dt} (hds:ds.length≤20) (hda:∀d∈ds,d.params.length≤8) {lv:List Ty} (hlv:Sm lv):∀dep:Nat,dep<1000→m8 L ds lv dep
 | 0,_=>g27_0 hL hlv
 | dep+1,h=>g27_s hL hds hda hlv (by omega) (FK hL hds hda hlv dep (by omega))
end Go.Ab.Lw
namespace Go.Ab.Lw
open Ev
abbrev f_:=List UInt8
def Gz (t:Ty):List AV:=[.pv (vI t.kind),.pv (.str t.name),.pv (vI t.id),.pv (vI t.home),.pv (.a8 (t.args.map Ty.pv))]
@[simp] theorem F' (t:Ty):Gz t=[.pv (vI t.kind),.pv (.str t.name),.pv (vI t.id),.pv (vI t.home),.pv (.a8 (t.args.map Ty.pv))]:=rfl
inductive Ty.Cw:Ty→Prop
 | mk {t:Ty}:(t.kind≠4→t.args=[])→(∀x∈t.args,Ty.Cw x)→Ty.Cw t
end Go.Ab.Lw
namespace Go.Ab.Lw
structure wI (E:Type) where
 pos:Int
 kp:List UInt8
 vars:List (List UInt8)
 body:E
structure Ex where
 kind:Int
 pos:Int
 name:List UInt8
 num:Int
 kids:List Ex
 br:List (wI Ex)
 ty:Ty
abbrev Ar:=wI Ex
def fq:Ty:=⟨0,[],0,0,[]⟩
instance:Inhabited Ex:=⟨⟨0,0,[],0,[],[],fq⟩⟩
instance:Inhabited Ar:=⟨⟨0,[],[],default⟩⟩
def Ty.cells (t:Ty):List PV:=[.int .i64 t.kind,.str t.name,.int .i64 t.id,.int .i64 t.home,.a8 (t.args.map Ty.pv)]
mutual
def Ex.cells:Ex→List PV
 | ⟨k,p,n,m,ks,as,t⟩=>.int .i64 k::.int .i64 p::.str n::.int .i64 m::.a8 (Ex.cd ks)::.a8 (Ex.FL as)::t.cells
def Ex.cd:List Ex→List PV
 | []=>[]
 | e::r=>.agg (Ex.cells e)::Ex.cd r
def Ex.FL:List (wI Ex)→List PV
 | []=>[]
 | ⟨p,c,v,b⟩::r=>.agg (.int .i64 p::.str c::.a8 (v.map .str)::Ex.cells b)::Ex.FL r
end
def Ex.pv (e:Ex):PV:=.agg e.cells
def Ar.pv (a:Ar):PV:=.agg (.int .i64 a.pos::.str a.kp::.a8 (a.vars.map .str)::a.body.cells)
theorem Ex.ko:∀l:List Ex,Ex.cd l=l.map Ex.pv
 | []=>by simp [Ex.cd]
 | e::r=>by simp [Ex.cd,Ex.ko r,Ex.pv]
theorem Ex.wJ:∀l:List Ar,Ex.FL l=l.map Ar.pv
 | []=>by simp [Ex.FL]
 | ⟨p,c,v,b⟩::r=>by simp [Ex.FL,Ex.wJ r,Ar.pv]
theorem Ex.dr (e:Ex):e.cells=[.int .i64 e.kind,.int .i64 e.pos,.str e.name,.int .i64 e.num,.a8 (e.kids.map Ex.pv),.a8 (e.br.map Ar.pv),.int .i64 e.ty.kind,.str e.ty.name,.int .i64 e.ty.id,.int .i64 e.ty.home,.a8 (e.ty.args.map Ty.pv)]:=by
 cases e;simp only [Ex.cells,Ex.ko,Ex.wJ,Ty.cells]
@[simp] theorem Ex.oj (e:Ex):e.pv=.agg [.int .i64 e.kind,.int .i64 e.pos,.str e.name,.int .i64 e.num,.a8 (e.kids.map Ex.pv),.a8 (e.br.map Ar.pv),.int .i64 e.ty.kind,.str e.ty.name,.int .i64 e.ty.id,.int .i64 e.ty.home,.a8 (e.ty.args.map Ty.pv)]:=by
 rw [Ex.pv,Ex.dr]
@[simp] theorem Ar.oj (a:Ar):a.pv=.agg [.int .i64 a.pos,.str a.kp,.a8 (a.vars.map .str),.int .i64 a.body.kind,.int .i64 a.body.pos,.str a.body.name,.int .i64 a.body.num,.a8 (a.body.kids.map Ex.pv),.a8 (a.body.br.map Ar.pv),.int .i64 a.body.ty.kind,.str a.body.ty.name,.int .i64 a.body.ty.id,.int .i64 a.body.ty.home,.a8 (a.body.ty.args.map Ty.pv)]:=by
 rw [Ar.pv,Ex.dr]
theorem EH:El Ar.pv 14 true:=⟨fun x=>by simp,fun x=>by simp⟩
@[simp] theorem EY {l:List Ar}:bj 14 (l.map Ar.pv)=true:=EH.head l
@[simp] theorem EI {l:List (List UInt8)}:bj 1 (l.map PV.str)=true:=EF.head l
def Ex.ch (e:Ex):List Ex:=e.kids++e.br.map wI.body
end Go.Ab.Lw
namespace Go.Ab.Lw
open Ev
abbrev iR:List (List UInt8):=varNames
inductive d8 (ds:List Dt):Nat→Ex→Prop
 | var {n:Nat} {s:List UInt8}:s∈iR→d8 ds n ⟨1,0,s,0,[],[],fq⟩
 | int {n:Nat} {m:Int}:0≤m→m<4→d8 ds n ⟨3,0,[],m,[],[],fq⟩
 | kp {n:Nat} {d:Dt} {c:vV}:d∈ds→c∈d.cons→d8 ds n ⟨2,0,c.name,0,[],[],fq⟩
 | gone {n:Nat}:d8 ds n ⟨2,0,[71,111,110,101],0,[],[],fq⟩
 | hole {n:Nat}:d8 ds n ⟨10,0,[],0,[],[],fq⟩
 | lam {n:Nat} {s:List UInt8} {a:Ex}:s∈iR→d8 ds n a→d8 ds (n+1) ⟨4,0,s,0,[a],[],fq⟩
 | app {n:Nat} {a b:Ex}:d8 ds n a→d8 ds n b→d8 ds (n+1) ⟨5,0,[],0,[a,b],[],fq⟩
 | vY {n:Nat} {k:Int} {s:List UInt8} {a b:Ex}:k=6∨k=7→s∈iR→d8 ds n a→d8 ds n b→d8 ds (n+1) ⟨k,0,s,0,[a,b],[],fq⟩
 | EJ {n:Nat} {a:Ex} {t:Ty}:d8 ds n a→gw (·∈ds) [] 2 t→d8 ds (n+1) ⟨9,0,[],0,[a],[],t⟩
 | held {n:Nat} {a:Ex}:d8 ds n a→d8 ds (n+1) ⟨11,0,[],0,[a],[],fq⟩
 | up {n:Nat} {a:Ex}:d8 ds n a→d8 ds (n+1) a
 | m9 {n:Nat} {d:Dt} {a:Ex} {as:List Ar}:d∈ds→d8 ds n a→as.length=d.cons.length→(∀x∈as,d8 ds n x.body)→(∀x∈as,x.pos=0∧∀v∈x.vars,v∈iR) →
     (∀(i:Nat) (c:vV) (x:Ar),d.cons[i]?=some c→as[i]?=some x→x.kp=c.name∧x.vars.length=c.fields.length)→d8 ds (n+1) ⟨8,0,[],0,[a],as,fq⟩
end Go.Ab.Lw
namespace Go.Ab.Lw
open Ev
def D8 (d:Dt):Prop:=d.params.length≤8∧0<d.cons.length∧d.cons.length≤8∧∀c∈d.cons,c.fields.length≤8
theorem EK:∀d∈cv,D8 d:=by
 intro d hd
 simp [cv] at hd
 rcases hd with rfl | rfl | rfl | rfl | rfl | rfl | rfl<;>simp [D8]
structure GA (e:Ex) (C:List AV):Prop where
 len:C.length=11
 leaf:C.all aG=true
 eF:∀sh,dF sh C=some e.cells
 flat:a7.dn C=true
 Dp:ef C=true
def kM (f:Bool) (l:List PV):AV:=if f then .cg l else .pv (.a8 l)
def gM (fk fa fg:Bool) (e:Ex):List AV:=[.pv (vI e.kind),.pv (vI e.pos),.pv (.str e.name),.pv (vI e.num),kM fk (e.kids.map Ex.pv),kM fa (e.br.map Ar.pv),.pv (vI e.ty.kind),.pv (.str e.ty.name),.pv (vI e.ty.id),.pv (vI e.ty.home),kM fg (e.ty.args.map Ty.pv)]
theorem ie (fk fa fg:Bool) (e:Ex):GA e (gM fk fa fg e):=by
 refine ⟨rfl,?_,?_,?_,?_⟩
 · cases fk<;>cases fa<;>cases fg<;>rfl
 · intro sh
   rw [Ex.dr]
   cases fk<;>cases fa<;>cases fg<;>simp [gM,kM]
 · cases fk<;>cases fa<;>cases fg<;>simp [gM,kM]
 · cases fk<;>cases fa<;>cases fg<;>simp [gM,kM]
def pM (L:List Int) (ds:List Dt) (dep:Nat):Prop:=∀i:Nat,i≤L.length→∃(e:Ex) (fk fa fg:Bool) (j:Nat),
 (aQ AP).i 247 [.aT 0 0,.pv (.a8 (ds.map Dt.pv)),.pv (vI dep)] (tp L i) []=some ([.agg (gM fk fa fg e)],tp L j,[])∧d8 ds dep e∧j≤L.length
theorem ss {L:List Int} (hL:Sm L) {ds:List Dt} (hds:ds.length≤8) (hD:∀d∈ds,D8 d) {dep:Nat} {i j1:Nat} {k:Int} (hj1:j1≤L.length)
   (e1:(aQ AP).i 68 [.aT 0 0,.pv (vI 14)] (tp L i) []=some ([.pv (vI k)],tp L j1,[])) (k0:0≤k) (hk:if dep=0 then True else k<5) :
   ∃(e:Ex) (fk fa fg:Bool) (j:Nat),(aQ AP).i 247 [.aT 0 0,.pv (.a8 (ds.map Dt.pv)),.pv (vI dep)] (tp L i) []=some ([.agg (gM fk fa fg e)],tp L j,[])∧d8 ds dep e∧j≤L.length:=by
 simp at e1
 obtain ⟨r,hr,hr0,hr1⟩:∃r:Int,(if dep=0 then k.tmod 5 else k)=r∧0≤r∧r<5:=by
   by_cases h:dep=0
   · refine ⟨k.tmod 5,by simp [h],?_,?_⟩
     · exact Int.tmod_nonneg 5 k0
     · exact Int.tmod_lt_of_pos k (by omega)
   · simp [h] at hk
     exact ⟨k,by simp [h],k0,hk⟩
 have hcase:r=0∨r=1∨r=2∨r=3∨r=4:=by omega
 have hd:dep=0∧k.tmod 5=r∨¬((dep:Int)<1)∧k=r:=by
   by_cases h:dep=0
   · simp [h] at hr;exact .inl ⟨h,hr⟩
   · simp [h] at hr;exact .inr ⟨by omega,hr⟩
 clear hr
 have hvar:r=0∨r=1→∃(e:Ex) (fk fa fg:Bool) (j:Nat),(aQ AP).i 247 [.aT 0 0,.pv (.a8 (ds.map Dt.pv)),.pv (vI dep)] (tp L i) []=some ([.agg (gM fk fa fg e)],tp L j,[])∧d8 ds dep e∧j≤L.length:=by
   intro h
   obtain ⟨s,j,e2,hs,hj⟩:=c175 hL hj1
   simp at e2
   refine ⟨⟨1,0,s,0,[],[],fq⟩,true,true,true,j,?_,.var hs,hj⟩
   rw [aZ (af:=g247) rfl (by simp [g247])]
   rcases h with rfl | rfl<;>rcases hd with ⟨rfl,h2⟩ | ⟨h1,rfl⟩
   · simp [g247,e1,h2,e2,gM,kM,fq]
   · simp [g247,e1,h1,e2,gM,kM,fq]
   · simp [g247,e1,h2,e2,gM,kM,fq]
   · simp [g247,e1,h1,e2,gM,kM,fq]
 rcases hcase with rfl | rfl | rfl | rfl | rfl
 · exact hvar (.inl rfl)
 · exact hvar (.inr rfl)
 · obtain ⟨m,j,e2,m0,m4,hj⟩:=c68 hL hj1 (n:=4) (by omega) (by omega)
   simp at e2
   refine ⟨⟨3,0,[],m,[],[],fq⟩,true,true,true,j,?_,.int m0 m4,hj⟩
   rw [aZ (af:=g247) rfl (by simp [g247])]
   rcases hd with ⟨rfl,h2⟩ | ⟨h1,rfl⟩
   · simp [g247,e1,h2,e2,gM,kM,fq]
   · simp [g247,e1,h1,e2,gM,kM,fq]
 · by_cases h0:ds=[]
   · subst h0
     refine ⟨⟨2,0,[71,111,110,101],0,[],[],fq⟩,true,true,true,j1,?_,.gone,hj1⟩
     rw [aZ (af:=g247) rfl (by simp [g247])]
     rcases hd with ⟨rfl,h2⟩ | ⟨h1,rfl⟩
     · simp [g247,e1,h2,gM,kM,fq]
     · simp [g247,e1,h1,gM,kM,fq]
   · have hp:0<ds.length:=List.length_pos_iff.2 h0
     obtain ⟨n,j2,e2,n0,n1,hj2⟩:=c68 hL hj1 (n:=ds.length) (by omega) (by omega)
     obtain ⟨m,rfl,hm⟩:=vW n0 n1
     obtain ⟨d,hx⟩:=iQ hm
     obtain ⟨_,hc0,hc8,_⟩:=hD d (ic hx)
     obtain ⟨n',j3,e3,n0',n1',hj3⟩:=c68 hL hj2 (n:=d.cons.length) (by omega) (by omega)
     obtain ⟨m',rfl,hm'⟩:=vW n0' n1'
     obtain ⟨c,hy⟩:=iQ hm'
     simp at e2 e3
     refine ⟨⟨2,0,c.name,0,[],[],fq⟩,true,true,true,j3,?_,.kp (ic hx) (ic hy),hj3⟩
     rw [aZ (af:=g247) rfl (by simp [g247])]
     rcases hd with ⟨rfl,h2⟩ | ⟨h1,rfl⟩
     · simp [-getElem?_pos,g247,e1,h2,e2,e3,hp,hx,hy,gM,kM,fq]
     · simp [-getElem?_pos,g247,e1,h1,e2,e3,hp,hx,hy,gM,kM,fq]
 · refine ⟨⟨10,0,[],0,[],[],fq⟩,true,true,true,j1,?_,.hole,hj1⟩
   rw [aZ (af:=g247) rfl (by simp [g247])]
   rcases hd with ⟨rfl,h2⟩ | ⟨h1,rfl⟩
   · simp [g247,e1,h2,gM,kM,fq]
   · simp [g247,e1,h1,gM,kM,fq]
theorem B_ {L:List Int} (hL:Sm L) {ds:List Dt} (hds:ds.length≤8) (hD:∀d∈ds,D8 d) {dep:Nat} (hdep:dep<1000) (hg:pM L ds dep) {i j1:Nat} {k:Int} (hj1:j1≤L.length)
   (e1:(aQ AP).i 68 [.aT 0 0,.pv (vI 14)] (tp L i) []=some ([.pv (vI k)],tp L j1,[])) (k5:5≤k) (k12:k≤12) :
   ∃(e:Ex) (fk fa fg:Bool) (j:Nat),(aQ AP).i 247 [.aT 0 0,.pv (.a8 (ds.map Dt.pv)),.pv (vI (dep+1:Nat))] (tp L i) []=some ([.agg (gM fk fa fg e)],tp L j,[])∧d8 ds (dep+1) e∧j≤L.length:=by
 simp at e1
 have h1:¬((dep:Int)+1<1):=by omega
 have h2:(dep:Int)+1-1=dep:=by omega
 have hc:k=5∨k=6∨k=7∨k=8∨k=9∨k=10∨k=11∨k=12:=by omega
 have hlam:k=5∨k=6→∃(e:Ex) (fk fa fg:Bool) (j:Nat),(aQ AP).i 247 [.aT 0 0,.pv (.a8 (ds.map Dt.pv)),.pv (vI (dep+1:Nat))] (tp L i) []=some ([.agg (gM fk fa fg e)],tp L j,[])∧d8 ds (dep+1) e∧j≤L.length:=by
   intro h
   obtain ⟨s,j2,e2,hs,hj2⟩:=c175 hL hj1
   obtain ⟨a,f1,f2,f3,j3,e3,ha,hj3⟩:=hg j2 hj2
   have hA:=ie f1 f2 f3 a
   generalize gM f1 f2 f3 a=A at e3 hA
   simp at e2 e3
   refine ⟨⟨4,0,s,0,[a],[],fq⟩,true,true,true,j3,?_,.lam hs ha,hj3⟩
   rw [aZ (af:=g247) rfl (by simp [g247])]
   have ac:=Ex.dr a
   rcases h with rfl | rfl<;>simp (disch:=omega) [g247,e1,h1,h2,bH,e2,e3,hA.eF,hA.flat,hA.Dp,hA.len,hA.leaf,ac,gM,kM,fq]
 have happ:k=7∨k=8∨k=9→∃(e:Ex) (fk fa fg:Bool) (j:Nat),(aQ AP).i 247 [.aT 0 0,.pv (.a8 (ds.map Dt.pv)),.pv (vI (dep+1:Nat))] (tp L i) []=some ([.agg (gM fk fa fg e)],tp L j,[])∧d8 ds (dep+1) e∧j≤L.length:=by
   intro h
   obtain ⟨a,f1,f2,f3,j2,e2,ha,hj2⟩:=hg j1 hj1
   obtain ⟨b,f4,f5,f6,j3,e3,hb,hj3⟩:=hg j2 hj2
   have hA:=ie f1 f2 f3 a
   generalize gM f1 f2 f3 a=A at e2 hA
   have hB:=ie f4 f5 f6 b
   generalize gM f4 f5 f6 b=B at e3 hB
   simp at e2 e3
   refine ⟨⟨5,0,[],0,[a,b],[],fq⟩,true,true,true,j3,?_,.app ha hb,hj3⟩
   rw [aZ (af:=g247) rfl (by simp [g247])]
   have ac:=Ex.dr a
   have bc:=Ex.dr b
   have tA:A.take 11=A:=List.take_of_length_le (by rw [hA.len];omega)
   rcases h with rfl | rfl | rfl<;>simp (disch:=omega) [g247,e1,h1,h2,bH,e2,e3,hA.eF,hA.flat,hA.Dp,hA.len,hA.leaf,hB.eF,hB.flat,hB.Dp,hB.len,hB.leaf,tA,ac,bc,dP,gM,kM,fq]
 rcases hc with h | h | h | h | h | rfl | rfl | rfl
 · exact hlam (.inl h)
 · exact hlam (.inr h)
 · exact happ (.inl h)
 · exact happ (.inr (.inl h))
 · exact happ (.inr (.inr h))
 · obtain ⟨r,j2,e2,r0,r1,hj2⟩:=c68 hL hj1 (n:=2) (by omega) (by omega)
   obtain ⟨s,j3,e3,hs,hj3⟩:=c175 hL hj2
   obtain ⟨a,f1,f2,f3,j4,e4,ha,hj4⟩:=hg j3 hj3
   obtain ⟨b,f4,f5,f6,j5,e5,hb,hj5⟩:=hg j4 hj4
   have hA:=ie f1 f2 f3 a
   generalize gM f1 f2 f3 a=A at e4 hA
   have hB:=ie f4 f5 f6 b
   generalize gM f4 f5 f6 b=B at e5 hB
   simp at e2 e3 e4 e5
   have ac:=Ex.dr a
   have bc:=Ex.dr b
   have tA:A.take 11=A:=List.take_of_length_le (by rw [hA.len];omega)
   have hk:6+r=6∨6+r=7:=by omega
   refine ⟨⟨6+r,0,s,0,[a,b],[],fq⟩,true,true,true,j5,?_,.vY hk hs ha hb,hj5⟩
   rw [aZ (af:=g247) rfl (by simp [g247])]
   simp (disch:=omega) [g247,e1,h1,h2,bH,e2,e3,e4,e5,hA.eF,hA.flat,hA.Dp,hA.len,hA.leaf,hB.eF,hB.flat,hB.Dp,hB.len,hB.leaf,tA,ac,bc,dP,gM,kM,fq]
 · obtain ⟨a,f1,f2,f3,j2,e2,ha,hj2⟩:=hg j1 hj1
   have hA:=ie f1 f2 f3 a
   generalize gM f1 f2 f3 a=A at e2 hA
   obtain ⟨t,j3,e3,ht,hj3⟩:=FK hL (ds:=ds) (by omega) (fun d hd=>(hD d hd).1) (lv:=[]) (by simp [Sm]) 2 (by omega) j2 hj2
   simp [Ty.av] at e2 e3
   have ac:=Ex.dr a
   refine ⟨⟨9,0,[],0,[a],[],t⟩,true,true,false,j3,?_,.EJ ha ht,hj3⟩
   rw [aZ (af:=g247) rfl (by simp [g247])]
   simp (disch:=omega) [g247,e1,h1,h2,bH,e2,e3,hA.eF,hA.flat,hA.Dp,hA.len,hA.leaf,ac,gM,kM,fq]
 · obtain ⟨a,f1,f2,f3,j2,e2,ha,hj2⟩:=hg j1 hj1
   have hA:=ie f1 f2 f3 a
   generalize gM f1 f2 f3 a=A at e2 hA
   simp at e2
   have ac:=Ex.dr a
   refine ⟨⟨11,0,[],0,[a],[],fq⟩,true,true,true,j2,?_,.held ha,hj2⟩
   rw [aZ (af:=g247) rfl (by simp [g247])]
   simp (disch:=omega) [g247,e1,h1,h2,bH,e2,hA.eF,hA.flat,hA.Dp,hA.len,hA.leaf,ac,gM,kM,fq]
end Go.Ab.Lw
namespace Go.Ab.Lw
open Ev
theorem bX {a b:List UInt8} (h:a.length+b.length≤9223372036854775807):a_ (.bin .add) [.pv (.str a),.pv (.str b)]=some (.pv (.str (a++b))):=by rw [bo,if_pos h]
structure ei (AQ:Nat→Option aB):Prop where
 m_:AQ 248=some g248
 EL:AQ 252=some g252
 Ga:AQ 255=some g255
 Gb:AQ 257=some g257
 Gc:AQ 258=some g258
 Gd:AQ 259=some g259
 Ge:AQ 260=some g260
 Gf:AQ 264=some g264
 Gg:AQ 265=some g265
 Gi:AQ 269=some g269
inductive EM:Nat→Ty→Prop
 | name {n:Nat} {t:Ty}:t.kind=5→t.name.length≤100→EM n t
 | kp {n:Nat} {t:Ty}:t.kind=4→t.name.length≤100→t.args.length≤10→(∀x∈t.args,EM n x)→EM (n+1) t
def d5 (b:Bool) (s:f_):f_:=if b then 40::(s++[41]) else s
theorem gN {b:Bool} {s:f_}:(d5 b s).length≤s.length+2:=by cases b<;>simp [d5]
theorem skolem {α β:Type} [Inhabited β] {l:List α} {P:α→β→Prop} (h:∀x∈l,∃y,P x y):∃f:α→β,∀x∈l,P x (f x):=by
 classical
 refine ⟨fun x=>if hx:x∈l then Classical.choose (h x hx) else default,fun x hx=>?_⟩
 simp only [hx,dif_pos]
 exact Classical.choose_spec (h x hx)
section
variable {AQ:Nat→Option aB}
theorem c258 (hQ:ei AQ) {s:f_} {b:Bool} (h:s.length≤1000000000000000000):(aQ AQ).p 258 [.str s,.bool b]=some [.str (d5 b s)]:=by
 rw [aD (af:=g258) hQ.Gc rfl (by decide)]
 cases b<;>simp (disch:=first | omega | (simp only [List.length_append,List.length_cons,List.length_nil];omega)) [-bo,bX,g258,d5]
def Ty.ek (t:Ty):Bool:=decide (t.kind=4) && (decide (t.name=[45,62]) && decide (t.args.length=2))
theorem c264 (hQ:ei AQ) {t:Ty}:(aQ AQ).p 264 [t.pv]=some [.bool t.ek]:=by
 rw [aD (af:=g264) hQ.Gf rfl (by decide)]
 by_cases h1:t.kind=4
 · by_cases h2:t.name=[45,62]
   · have e:decide ((t.args.length:Int)=2)=decide (t.args.length=2):=by simp;omega
     simp [g264,Ty.ek,h1,h2,e]
     omega
   · simp [g264,Ty.ek,h1,h2]
 · simp [g264,Ty.ek,h1]
theorem c265 (hQ:ei AQ) {t:Ty} {s:f_} (h:(aQ AQ).p 252 [t.pv]=some [.str s]) (hs:s.length≤1000000000000000000) :
   (aQ AQ).p 265 [t.pv]=some [.str (d5 (decide (t.kind=4) && decide (t.args≠[])) s)]:=by
 have k:∀b,(aQ AQ).p 258 [.str s,.bool b]=some [.str (d5 b s)]:=fun b=>c258 hQ (b:=b) hs
 rw [aD (af:=g265) hQ.Gg rfl (by decide)]
 have kt:=k true
 have kf:=k false
 clear k
 simp [d5] at kt kf
 by_cases h1:t.kind=4
 · by_cases h2:t.args=[]
   · simp [h1,h2] at h
     simp [g265,h,h1,h2,kf,d5]
   · have h3:0<t.args.length:=List.length_pos_iff.2 h2
     simp [h1] at h
     simp [g265,h,h1,h2,h3,kt,d5]
 · simp at h
   simp [g265,h,h1,kf,d5]
theorem FM (hQ:ei AQ) {args:List Ty} {f:Ty→f_} {M:Nat} (hA:args.length≤10) (hM:M≤10000000000000000) (hf:∀x∈args,(aQ AQ).p 265 [x.pv]=some [.str (f x)]∧(f x).length≤M) :
   ∀(n i:Nat),args.length-i=n→i≤args.length→∀acc:f_,acc.length≤100+i*(M+1) →
   cl AQ g252L0 ⟨[(3,.pv (.str acc)),(52,.pv (.a8 (args.map Ty.pv))),(53,.pv (vI args.length)),(54,.pv (vI i))],[],[],[]⟩ =
     some (.exit 1,⟨[(3,.pv (.str (acc++(args.drop i).flatMap fun x=>32::f x))),(52,.pv (.a8 (args.map Ty.pv))),(53,.pv (vI args.length)),(54,.pv (vI args.length)),(55,.pv (.bool false))],[],[],[]⟩)
 | 0,i,hn,hi,acc,ha=>by
   have:i=args.length:=by omega
   subst this
   rw [g252L0e]
   simp [g252B0]
 | n+1,i,hn,hi,acc,ha=>by
   have hi:i<args.length:=by omega
   obtain ⟨x,hx⟩:=iQ hi
   obtain ⟨c,hl⟩:=hf x (ic hx)
   have hmul:(i+1)*(M+1)=i*(M+1)+(M+1):=Nat.add_mul _ _ _ |>.trans (by omega)
   have hi10:i*(M+1)≤10*(M+1):=Nat.mul_le_mul_right _ (by omega)
   have ih:=FM hQ hA hM hf n (i+1) (by omega) (by omega) (acc++32::f x) (by simp;omega)
   rw [g252L0e] at ih ⊢
   rw [sq hx]
   simp at c ih
   simp (disch:=first | omega | (simp only [List.length_append,List.length_cons,List.length_nil];omega)) [-bo,bX,-getElem?_pos,g252B0,hi,hx,c,bH]
   rw [g252L0e]
   simp [ih]
end
theorem FN {t:Ty} {f:Ty→f_} {M:Nat} (hA:t.args.length≤10) (hM:M≤10000000000000000) (hf:∀x∈t.args,(aQ AP).p 270 [x.pv]=some [.str (f x)]∧(f x).length≤M) :
   ∀(n i:Nat),t.args.length-i=n→i≤t.args.length→∀acc:f_,acc.length≤100+i*(M+1) →
   cl AP g263L0 ⟨[(1,.bt 1 0),(10,.pv (.str acc)),(11,.pv (vI i))],[(1,[.pv (vI t.kind),.pv (.str t.name),.pv (vI t.id),.pv (vI t.home),.pv (.a8 (t.args.map Ty.pv))])],[],[]⟩ =
     some (.exit 1,⟨[(1,.bt 1 0),(10,.pv (.str (acc++(t.args.drop i).flatMap fun x=>32::f x))),(11,.pv (vI t.args.length)),(65,.pv (.bool false))],[(1,[.pv (vI t.kind),.pv (.str t.name),.pv (vI t.id),.pv (vI t.home),.pv (.a8 (t.args.map Ty.pv))])],[],[]⟩)
 | 0,i,hn,hi,acc,ha=>by
   have:i=t.args.length:=by omega
   subst this
   rw [g263L0e]
   simp [g263B0]
 | n+1,i,hn,hi,acc,ha=>by
   have hi:i<t.args.length:=by omega
   obtain ⟨x,hx⟩:=iQ hi
   obtain ⟨c,hl⟩:=hf x (ic hx)
   have hmul:(i+1)*(M+1)=i*(M+1)+(M+1):=Nat.add_mul _ _ _ |>.trans (by omega)
   have hi10:i*(M+1)≤10*(M+1):=Nat.mul_le_mul_right _ (by omega)
   have ih:=FN hA hM hf n (i+1) (by omega) (by omega) (acc++32::f x) (by simp;omega)
   rw [g263L0e] at ih ⊢
   rw [sq hx]
   simp at c ih
   simp (disch:=first | omega | (simp only [List.length_append,List.length_cons,List.length_nil];omega)) [-bo,bX,-getElem?_pos,g263B0,hi,hx,c,bH]
   rw [g263L0e]
   simp [ih]
theorem c270 {t:Ty} {s:f_} (h:(aQ AP).p 263 [t.pv]=some [.str s]) (hs:s.length≤1000000000000000000) :
   (aQ AP).p 270 [t.pv]=some [.str (d5 (decide (t.kind=4) && decide (t.args≠[])) s)]:=by
 rw [aD (af:=g270) rfl rfl (by decide)]
 by_cases h1:t.kind=4
 · by_cases h2:t.args=[]
   · simp [h1,h2] at h
     simp [g270,h,h1,h2,d5]
   · have h3:0<t.args.length:=List.length_pos_iff.2 h2
     simp [h1] at h
     simp (disch:=first | omega | (simp only [List.length_append,List.length_cons,List.length_nil];omega)) [-bo,bX,g270,h,h1,h2,h3,d5]
 · simp at h
   simp [g270,h,h1,d5]
theorem c194s {t:Ty}:(aQ AP).p 194 [t.pv]=some (match t.ek,t.args with
   | true,[a,b]=>[a.pv,b.pv,.bool true]
   | _,_=>[fq.pv,fq.pv,.bool false]):=by
 rw [aD (af:=g194) rfl rfl (by decide)]
 by_cases h1:t.kind=4
 · by_cases h2:t.name=[45,62]
   · match e:t.args with
     | [a,b]=>simp [g194,Ty.ek,h1,h2,e]
     | []=>simp [g194,Ty.ek,h1,h2,e,fq]
     | [a]=>simp [g194,Ty.ek,h1,h2,e,fq]
     | a::b::c::r=>
       have:¬((r.length:Int)+1+1+1=2):=by omega
       simp [g194,Ty.ek,h1,h2,e,fq,this]
   · simp [g194,Ty.ek,h1,h2,fq]
 · simp [g194,Ty.ek,h1,fq]
def BT (n:Nat):Nat:=1000*20 ^ n
theorem Dq (n:Nat):BT (n+1)=20*BT n:=by unfold BT;rw [Nat.pow_succ];omega
theorem B' (n:Nat):1000≤BT n:=by unfold BT;have:0<20 ^ n:=Nat.pow_pos (by omega);omega
theorem FO {n:Nat} (h:n≤9):BT n≤1000000000000000:=by
 unfold BT
 have:20 ^ n≤20 ^ 9:=Nat.pow_le_pow_right (by omega) h
 omega
theorem Dr {AQ:Nat→Option aB} (hQ:ei AQ):∀(n:Nat) {t:Ty},n≤9→EM n t→∃s:f_,s.length≤BT n∧(aQ AQ).p 252 [t.pv]=some [.str s]∧(aQ AP).p 263 [t.pv]=some [.str s]:=by
 have name:∀(n:Nat) {t:Ty},t.kind=5→t.name.length≤100→∃s:f_,s.length≤BT n∧(aQ AQ).p 252 [t.pv]=some [.str s]∧(aQ AP).p 263 [t.pv]=some [.str s]:=by
   intro n t hk hl
   have:=B' n
   refine ⟨t.name,by omega,?_,?_⟩
   · rw [aD (af:=g252) hQ.EL rfl (by decide)]
     simp [g252,hk]
   · rw [aD (af:=g263) rfl rfl (by decide)]
     simp [g263,hk]
 intro n
 induction n with
 | zero=>
   intro t hn h
   cases h with
   | name hk hl=>exact name 0 hk hl
 | succ n ih=>
   intro t hn h
   cases h with
   | name hk hl=>exact name (n+1) hk hl
   | kp hk hl ha hx=>
     have hB:=FO (n:=n) (by omega)
     have hB1:=B' n
     have hBs:=Dq n
     obtain ⟨f,hf⟩:=skolem fun x hm=>ih (t:=x) (by omega) (hx x hm)
     have k264:=c264 hQ (t:=t)
     by_cases hr:t.ek=true
     · obtain ⟨a,b,he⟩:∃a b,t.args=[a,b]:=by
         simp only [Ty.ek,Bool.and_eq_true,decide_eq_true_eq] at hr
         match e:t.args,hr.2.2 with
         | [a,b],_=>exact ⟨a,b,rfl⟩
       obtain ⟨la,pa,qa⟩:=hf a (by simp [he])
       obtain ⟨lb,pb,qb⟩:=hf b (by simp [he])
       have ka:=c264 hQ (t:=a)
       have ke:=c258 hQ (s:=f a) (b:=a.ek) (by omega)
       have hel:=gN (b:=a.ek) (s:=f a)
       have r1:=c194s (t:=t)
       have r2:=c194s (t:=a)
       rw [hr] at k264 r1
       rw [he] at r1
       refine ⟨d5 a.ek (f a)++[32,45,62,32]++f b,by simp;omega,?_,?_⟩
       · rw [aD (af:=g252) hQ.EL rfl (by decide)]
         generalize d5 a.ek (f a)=E at *
         simp [he,hk] at k264 pa pb ka ke
         simp (disch:=first | omega | (simp only [List.length_append,List.length_cons,List.length_nil];omega)) [-bo,bX,g252,hk,he,k264,pa,pb,ka,ke]
       · rw [aD (af:=g263) rfl rfl (by decide)]
         simp [he,hk] at r1 qa qb
         cases q:a.ek with
         | false=>
           rw [q] at r2
           simp [fq] at r2
           simp (disch:=first | omega | (simp only [List.length_append,List.length_cons,List.length_nil];omega)) [-bo,bX,g263,hk,he,r1,r2,qa,qb,d5]
         | true=>
           obtain ⟨c,d,hc⟩:∃c d,a.args=[c,d]:=by
             simp only [Ty.ek,Bool.and_eq_true,decide_eq_true_eq] at q
             match e:a.args,q.2.2 with
             | [c,d],_=>exact ⟨c,d,rfl⟩
           rw [q,hc] at r2
           simp [hc,hk] at r2 qa r1
           simp (disch:=first | omega | (simp only [List.length_append,List.length_cons,List.length_nil];omega)) [-bo,bX,g263,hk,he,hc,r1,r2,qa,qb,d5]
     · have hr':t.ek=false:=by simpa using hr
       have h1:=FM hQ (args:=t.args) (f:=fun x=>d5 (decide (x.kind=4) && decide (x.args≠[])) (f x)) (M:=BT n+2) ha (by omega)
         (fun x hm=>⟨c265 hQ (hf x hm).2.1 (by have:=(hf x hm).1;omega),by have:=(hf x hm).1;have:=gN (b:=decide (x.kind=4) && decide (x.args≠[])) (s:=f x);omega⟩) _ 0 rfl (by omega) t.name (by omega)
       have h2:=FN (t:=t) (f:=fun x=>d5 (decide (x.kind=4) && decide (x.args≠[])) (f x)) (M:=BT n+2) ha (by omega)
         (fun x hm=>⟨c270 (hf x hm).2.2 (by have:=(hf x hm).1;omega),by have:=(hf x hm).1;have:=gN (b:=decide (x.kind=4) && decide (x.args≠[])) (s:=f x);omega⟩) _ 0 rfl (by omega) t.name (by omega)
       have hlen:((t.args).flatMap fun x=>32::d5 (decide (x.kind=4) && decide (x.args≠[])) (f x)).length≤t.args.length*(BT n+3):=by
         have:∀l:List Ty,(∀x∈l,x∈t.args)→(l.flatMap fun x=>32::d5 (decide (x.kind=4) && decide (x.args≠[])) (f x)).length≤l.length*(BT n+3):=by
           intro l
           induction l with
           | nil=>intro _;simp
           | cons x r ihr=>
             intro hl
             have h1:=ihr fun y hy=>hl y (by simp [hy])
             have h2:=(hf x (hl x (by simp))).1
             have h3:=gN (b:=decide (x.kind=4) && decide (x.args≠[])) (s:=f x)
             simp only [List.flatMap_cons,List.length_append,List.length_cons,Nat.add_mul]
             omega
         exact this _ fun x hm=>hm
       have hmul:t.args.length*(BT n+3)≤10*(BT n+3):=Nat.mul_le_mul_right _ ha
       rw [List.drop_zero] at h1 h2
       refine ⟨t.name++(t.args).flatMap fun x=>32::d5 (decide (x.kind=4) && decide (x.args≠[])) (f x),by rw [List.length_append];omega,?_,?_⟩
       · rw [aD (af:=g252) hQ.EL rfl (by decide)]
         generalize ((t.args).flatMap fun x=>32::d5 (decide (x.kind=4) && decide (x.args≠[])) (f x))=E at *
         rw [hr'] at k264
         rw [g252L0e] at h1
         simp [hk] at k264 h1
         simp [g252,hk,k264,g252L0e,h1]
       · rw [aD (af:=g263) rfl rfl (by decide)]
         have r1:=c194s (t:=t)
         rw [hr'] at r1
         generalize ((t.args).flatMap fun x=>32::d5 (decide (x.kind=4) && decide (x.args≠[])) (f x))=E at *
         rw [g263L0e] at h2
         simp [fq,hk] at r1 h2
         simp [g263,hk,r1,g263L0e,h2]
end Go.Ab.Lw
namespace Go.Ab.Lw
open Ev
def m6:List AV:=[.pv (vI 0),.pv (vI 0),.pv (.str []),.pv (vI 0),.own [] 0,.own [] 1,.pv (vI 0),.pv (.str []),.pv (vI 0),.pv (vI 0),.own [] 2]
def Du (d:Dt):List AV:=[.pv (vI d.pos),.pv (.str d.name),.pv (.a8 (d.params.map .str)),.pv (.a8 (d.cons.map vV.pv))]
def Dv (a:Ex) (as:List Ar):List AV:=[.pv (vI 8),.pv (vI 0),.pv (.str []),.pv (vI 0),.own [a.pv] 3,.own (as.map Ar.pv) 4,.pv (vI 0),.pv (.str []),.pv (vI 0),.pv (vI 0),.own [] 5]
def FP (c:vV) (vs:List f_):List AV:=[.pv (vI 0),.pv (.str c.name),.own (vs.map .str) 6,.pv (vI 0),.pv (vI 0),.pv (.str []),.pv (vI 0),.own [] 7,.own [] 8,.pv (vI 0),.pv (.str []),.pv (vI 0),.pv (vI 0),.own [] 9]
theorem DR {L:List Int} (hL:Sm L) {ds:List Dt} {dep:Nat} {d:Dt} {a:Ex} {as:List Ar} {ci:Nat} {c:vV} (hc:d.cons[ci]?=some c) (h8:c.fields.length≤8):∀(n k:Nat),c.fields.length-k=n→k≤c.fields.length→∀(vs:List f_) (i:Nat),vs.length=k→(∀v∈vs,v∈iR)→i≤L.length →
   ∃(r:List f_) (j:Nat),cl AP g247L1 ⟨[(0,.aT 0 0),(1,.pv (.a8 (ds.map Dt.pv))),(2,.pv (vI (dep+1))),(6,.bt 6 0),(13,.bt 13 0),(14,.bt 14 0),(15,.pv (vI ci)),(16,.bt 16 0),(17,.pv (vI k))],
     [(6,m6),(13,Du d),(14,Dv a as),(16,FP c vs)],tp L i,[0,0,0,1,as.length,0,vs.length,0,0,0]⟩ =
     some (.exit 3,⟨[(0,.aT 0 0),(1,.pv (.a8 (ds.map Dt.pv))),(2,.pv (vI (dep+1))),(6,.bt 6 0),(13,.bt 13 0),(14,.bt 14 0),(15,.pv (vI ci)),(16,.bt 16 0),(17,.pv (vI c.fields.length)),(179,.pv (.bool false))],
     [(6,m6),(13,Du d),(14,Dv a as),(16,FP c r)],tp L j,[0,0,0,1,as.length,0,r.length,0,0,0]⟩) ∧
     r.length=c.fields.length∧(∀v∈r,v∈iR)∧j≤L.length
 | 0,k,hn,hk,vs,i,hv,hm,hi=>by
   have:k=c.fields.length:=by omega
   subst this
   refine ⟨vs,i,?_,hv,hm,hi⟩
   have hcl:=(List.getElem?_eq_some_iff.1 hc).1
   rw [g247L1e]
   simp [-getElem?_pos,g247B1,m6,Du,Dv,FP,hc,hcl]
 | n+1,k,hn,hk,vs,i,hv,hm,hi=>by
   have hk:k<c.fields.length:=by omega
   have hcl:=(List.getElem?_eq_some_iff.1 hc).1
   have hb:(vs.length+1)*16≤140737488355328:=by omega
   obtain ⟨s,j,e,hs,hj⟩:=c175 hL hi
   simp at e
   obtain ⟨r,j',e',hr,hm',hj'⟩:=DR hL hc h8 (a:=a) (as:=as) (ds:=ds) (dep:=dep) n (k+1) (by omega) (by omega) (vs++[s]) j (by simp;omega) (by
     intro x hx;simp at hx;rcases hx with hx | rfl
     · exact hm x hx
     · exact hs) hj
   refine ⟨r,j',?_,hr,hm',hj'⟩
   simp [m6,Du,Dv,FP] at e' ⊢
   rw [g247L1e]
   simp (disch:=omega) [-getElem?_pos,g247B1,hc,hcl,hk,bH,e,hb,dP]
   exact e'
def vZ (ds:List Dt) (dep:Nat) (d:Dt) (as:List Ar):Prop:=
 (∀x∈as,d8 ds dep x.body)∧(∀x∈as,x.pos=0∧∀v∈x.vars,v∈iR)∧(∀(i:Nat) (c:vV) (x:Ar),d.cons[i]?=some c→as[i]?=some x→x.kp=c.name∧x.vars.length=c.fields.length)
theorem DS {L:List Int} (hL:Sm L) {ds:List Dt} {dep:Nat} (hdep:dep<1000) (hg:pM L ds dep) {d:Dt} (hD:D8 d) {a:Ex}:∀(n k:Nat),d.cons.length-k=n→k≤d.cons.length→∀(as:List Ar) (i:Nat),as.length=k→vZ ds dep d as→i≤L.length →
   ∃(r:List Ar) (j:Nat),cl AP g247L0 ⟨[(0,.aT 0 0),(1,.pv (.a8 (ds.map Dt.pv))),(2,.pv (vI (dep+1))),(6,.bt 6 0),(13,.bt 13 0),(14,.bt 14 0),(15,.pv (vI k))],
     [(6,m6),(13,Du d),(14,Dv a as)],tp L i,[0,0,0,1,as.length,0]⟩ =
     some (.exit 1,⟨[(0,.aT 0 0),(1,.pv (.a8 (ds.map Dt.pv))),(2,.pv (vI (dep+1))),(6,.bt 6 0),(13,.bt 13 0),(14,.bt 14 0),(15,.pv (vI d.cons.length)),(161,.pv (.bool false))],
     [(6,m6),(13,Du d),(14,Dv a r)],tp L j,[0,0,0,1,r.length,0]⟩) ∧
     r.length=d.cons.length∧vZ ds dep d r∧j≤L.length
 | 0,k,hn,hk,as,i,ha,hm,hi=>by
   have:k=d.cons.length:=by omega
   subst this
   refine ⟨as,i,?_,ha,hm,hi⟩
   rw [g247L0e]
   simp [g247B0,m6,Du,Dv]
 | n+1,k,hn,hk,as,i,ha,hm,hi=>by
   have hk:k<d.cons.length:=by omega
   obtain ⟨c,hc⟩:=iQ hk
   obtain ⟨_,_,h8,hf⟩:=hD
   obtain ⟨vs,j,e,hv,hvm,hj⟩:=DR hL (ds:=ds) (dep:=dep) (a:=a) (as:=as) hc (hf c (ic hc)) _ 0 rfl (by omega) [] i rfl (by simp) hi
   obtain ⟨b,f1,f2,f3,j2,e2,hb,hj2⟩:=hg j hj
   have hB:=ie f1 f2 f3 b
   generalize gM f1 f2 f3 b=B at e2 hB
   have bc:=Ex.dr b
   have tB:B.take 11=B:=List.take_of_length_le (by rw [hB.len];omega)
   have hbb:(as.length+1)*200≤140737488355328:=by omega
   have hm2:vZ ds dep d (as++[⟨0,c.name,vs,b⟩]):=by
     refine ⟨?_,?_,?_⟩
     · intro x hx
       simp at hx
       rcases hx with hx | rfl
       · exact hm.1 x hx
       · exact hb
     · intro x hx
       simp at hx
       rcases hx with hx | rfl
       · exact hm.2.1 x hx
       · exact ⟨rfl,hvm⟩
     · intro i c' x h1 h2
       by_cases hlt:i<as.length
       · rw [List.getElem?_append_left hlt] at h2
         exact hm.2.2 i c' x h1 h2
       · rw [List.getElem?_append_right (by omega)] at h2
         have:i-as.length=0:=by
           have:=(List.getElem?_eq_some_iff.1 h2).1
           simpa using this
         have hik:i=k:=by omega
         subst hik
         rw [hc] at h1
         cases h1
         rw [this] at h2
         simp at h2
         subst h2
         exact ⟨rfl,hv⟩
   obtain ⟨r,j',e',hr,hm',hj'⟩:=DS hL hdep hg ⟨by assumption,by assumption,h8,hf⟩ (a:=a) n (k+1) (by omega) (by omega) (as++[⟨0,c.name,vs,b⟩]) j2 (by simp;omega) hm2 hj2
   refine ⟨r,j',?_,hr,hm',hj'⟩
   have hd1:(dep:Int)+1-1=dep:=by omega
   rw [g247L1e] at e
   rw [g247L0e] at e'
   simp [m6,Du,Dv,FP] at e e' e2 ⊢
   rw [g247L0e]
   simp (disch:=omega) [-getElem?_pos,g247B0,hc,hk,bH,hd1,g247L1e,e,e2,hbb,dP,hB.eF,hB.flat,hB.Dp,hB.len,hB.leaf,tB,bc]
   rw [g247L0e]
   simp [e']
theorem Ca {L:List Int} (hL:Sm L) {ds:List Dt} (hds:ds.length≤8) (hD:∀d∈ds,D8 d) {dep:Nat} (hdep:dep<1000) (hg:pM L ds dep) {i j1:Nat} {k:Int} (hj1:j1≤L.length)
   (e1:(aQ AP).i 68 [.aT 0 0,.pv (vI 14)] (tp L i) []=some ([.pv (vI k)],tp L j1,[])) (k13:k=13) :
   ∃(e:Ex) (fk fa fg:Bool) (j:Nat),(aQ AP).i 247 [.aT 0 0,.pv (.a8 (ds.map Dt.pv)),.pv (vI (dep+1:Nat))] (tp L i) []=some ([.agg (gM fk fa fg e)],tp L j,[])∧d8 ds (dep+1) e∧j≤L.length:=by
 subst k13
 simp at e1
 have h1:¬((dep:Int)+1<1):=by omega
 have h2:(dep:Int)+1-1=dep:=by omega
 by_cases h0:ds=[]
 · subst h0
   obtain ⟨a,f1,f2,f3,j2,e2,ha,hj2⟩:=hg j1 hj1
   refine ⟨a,f1,f2,f3,j2,?_,.up ha,hj2⟩
   rw [aZ (af:=g247) rfl (by simp [g247])]
   cases f1<;>cases f2<;>cases f3<;>simp [gM,kM] at e2<;>simp (disch:=omega) [g247,e1,h1,h2,bH,e2,gM,kM,dP]
 · have hp:0<ds.length:=List.length_pos_iff.2 h0
   obtain ⟨r,j2,e2,r0,r1,hj2⟩:=c68 hL hj1 (n:=ds.length) (by omega) (by omega)
   obtain ⟨m,rfl,hm⟩:=vW r0 r1
   obtain ⟨d,hx⟩:=iQ hm
   have hDd:=hD d (ic hx)
   obtain ⟨a,f1,f2,f3,j3,e3,ha,hj3⟩:=hg j2 hj2
   have hA:=ie f1 f2 f3 a
   generalize gM f1 f2 f3 a=A at e3 hA
   have ac:=Ex.dr a
   obtain ⟨as,j4,e4,hal,hao,hj4⟩:=DS hL hdep hg hDd (a:=a) _ 0 rfl (by omega) [] j3 rfl ⟨by simp,by simp,by simp⟩ hj3
   simp at e2 e3
   refine ⟨⟨8,0,[],0,[a],as,fq⟩,false,false,false,j4,?_,.m9 (ic hx) ha hal hao.1 hao.2.1 hao.2.2,hj4⟩
   rw [aZ (af:=g247) rfl (by simp [g247])]
   rw [g247L0e] at e4
   simp [m6,Du,Dv] at e4
   simp (disch:=omega) [-getElem?_pos,g247,e1,h1,h2,h0,bH,e2,e3,hp,hx,hA.eF,hA.flat,hA.Dp,hA.len,hA.leaf,ac,g247L0e,e4,dP,gM,kM,fq]
theorem c247 {L:List Int} (hL:Sm L) {ds:List Dt} (hds:ds.length≤8) (hD:∀d∈ds,D8 d):∀dep:Nat,dep<1000→pM L ds dep
 | 0,_=>fun i hi=>by
   obtain ⟨k,j1,e1,k0,k14,hj1⟩:=c68 hL hi (n:=14) (by omega) (by omega)
   exact ss hL hds hD hj1 e1 k0 (by simp)
 | dep+1,h=>fun i hi=>by
   obtain ⟨k,j1,e1,k0,k14,hj1⟩:=c68 hL hi (n:=14) (by omega) (by omega)
   have hg:=c247 hL hds hD dep (by omega)
   by_cases h5:k<5
   · exact ss hL hds hD hj1 e1 k0 (by simpa using h5)
   · by_cases h12:k≤12
     · exact B_ hL hds hD (by omega) hg hj1 e1 (by omega) h12
     · exact Ca hL hds hD (by omega) hg hj1 e1 (by omega)
end Go.Ab.Lw
namespace Go.Ab.Lw
open Ev
def tx (l:List (List UInt8)):List AV:=l.map fun s=>AV.pv (.str s)
end Go.Ab.Lw
namespace Go.Ab.Lw
open Ev
structure Row {α:Type} (f:α→List PV) (sz:Nat):Prop where
 pos:0<sz
 len:∀x,(f x).length=sz
section
variable {α:Type} {f:α→List PV} {sz:Nat}
def GB (f:α→List PV) (l:List α):List AV:=l.flatMap fun x=>(f x).map .pv
end
end Go.Ab.Lw
namespace Go.Ab.Lw
open Ev
inductive Ex.Ok:Ex→Prop
 | mk {e:Ex}:e.kids.length≤1000→e.br.length≤1000→(∀a∈e.br,a.vars.length≤1000)→e.ty.Ok→(∀x∈e.ch,x.Ok)→e.Ok
@[simp] def Ex.cl (e:Ex):List AV:=[.pv (vI e.kind),.pv (vI e.pos),.pv (.str e.name),.pv (vI e.num),.pv (.a8 (e.kids.map Ex.pv)),.pv (.a8 (e.br.map Ar.pv)),.pv (vI e.ty.kind),.pv (.str e.ty.name),.pv (vI e.ty.id),.pv (vI e.ty.home),.pv (.a8 (e.ty.args.map Ty.pv))]
def hV (X:Sh) (l:List Ex):AV:=if l=[] then .own [] 0 else .bh X.length 11 l.length true
def hS (X:Sh) (l:List Ex):Sh:=if l=[] then X else X++[some (GB Ex.cells l)]
def hT (l:List Ex):au:=if l=[] then [0] else []
end Go.Ab.Lw
namespace Go.Ab.Lw
open Ev
inductive na:Nat→Ex→Prop
 | nm {n:Nat} {e:Ex}:e.kind=1∨e.kind=2→e.name.length≤100→na (n+1) e
 | int {n:Nat} {e:Ex}:e.kind=3→0≤e.num→e.num<4→na (n+1) e
 | hole {n:Nat} {e:Ex}:e.kind=10→na (n+1) e
 | lam {n:Nat} {e a:Ex}:e.kind=4→e.name.length≤100→e.kids=[a]→na n a→na (n+1) e
 | app {n:Nat} {e a b:Ex}:e.kind=5→e.kids=[a,b]→na n a→na n b→na (n+1) e
 | vY {n:Nat} {e a b:Ex}:e.kind=6∨e.kind=7→e.name.length≤100→e.kids=[a,b]→na n a→na n b→na (n+1) e
 | m9 {n:Nat} {e a:Ex}:e.kind=8→e.kids=[a]→na n a→e.br.length≤10 →
     (∀x∈e.br,x.kp.length≤100∧x.vars.length≤10∧∀v∈x.vars,v.length≤100)→(∀x∈e.br,na n x.body)→na (n+1) e
 | EJ {n:Nat} {e a:Ex}:e.kind=9→e.kids=[a]→EM 3 e.ty→na n a→na (n+1) e
 | held {n:Nat} {e a:Ex}:e.kind=11→e.kids=[a]→na n a→na (n+1) e
def Ex.cp (e:Ex):Bool:=decide (e.kind=1) || (decide (e.kind=2) || (decide (e.kind=3) || (decide (e.kind=10) || (decide (e.kind=9) || decide (e.kind=11)))))
theorem c262 {e:Ex}:(aQ AP).p 262 [e.pv]=some [.bool e.cp]:=by
 rw [aD (af:=g262) rfl rfl (by decide)]
 by_cases h1:e.kind=1
 · simp [g262,Ex.cp,h1]
 · by_cases h2:e.kind=2
   · simp [g262,Ex.cp,h2]
   · by_cases h3:e.kind=3
     · simp [g262,Ex.cp,h3]
     · by_cases h4:e.kind=10
       · simp [g262,Ex.cp,h4]
       · by_cases h5:e.kind=9
         · simp [g262,Ex.cp,h5]
         · by_cases h6:e.kind=11
           · simp [g262,Ex.cp,h6]
           · simp [g262,Ex.cp,h1,h2,h3,h4,h5,h6]
theorem c261 {e:Ex} {s:f_} {b:Bool} (h:(aQ AP).p 249 [e.pv]=some [.str s]) (hs:s.length≤1000000000000000000):(aQ AP).p 261 [e.pv,.bool b]=some [.str (d5 (!b) s)]:=by
 rw [aD (af:=g261) rfl rfl (by decide)]
 simp at h
 cases b<;>simp (disch:=first | omega | (simp only [List.length_append,List.length_cons,List.length_nil];omega)) [-bo,bX,g261,d5,h]
theorem c256 {n:Int} (h0:0≤n) (h4:n<4):(aQ AP).p 256 [vI n]=some [.str (Lib.decDigits n.toNat)]:=by
 have:n=0∨n=1∨n=2∨n=3:=by omega
 rw [aD (af:=g256) rfl rfl (by decide)]
 rcases this with rfl | rfl | rfl | rfl<;>simp [g256,g256L0e,g256B0,Lib.decDigits,bH,IntKind.wrap,IntKind.bits,IntKind.signed,gg,gH]
section
variable {AQ:Nat→Option aB}
theorem c255 (hQ:ei AQ) {n:Int} (h0:0≤n) (h4:n<4):(aQ AQ).p 255 [vI n]=some [.str (Lib.decDigits n.toNat)]:=by
 rw [oT hQ.Ga rfl]
 have:n<100:=by omega
 simp [pL,h0,this]
theorem c259 (hQ:ei AQ) {e:Ex}:(aQ AQ).p 259 [e.pv]=some [.bool e.cp]:=by
 rw [aD (af:=g259) hQ.Gd rfl (by decide)]
 by_cases h1:e.kind=1
 · simp [g259,Ex.cp,h1]
 · by_cases h2:e.kind=2
   · simp [g259,Ex.cp,h2]
   · by_cases h3:e.kind=3
     · simp [g259,Ex.cp,h3]
     · by_cases h4:e.kind=10
       · simp [g259,Ex.cp,h4]
       · by_cases h5:e.kind=9
         · simp [g259,Ex.cp,h5]
         · by_cases h6:e.kind=11
           · simp [g259,Ex.cp,h6]
           · simp [g259,Ex.cp,h1,h2,h3,h4,h5,h6]
theorem c257 (hQ:ei AQ) {e:Ex} {i:Nat} {x:Ex} (hx:e.kids[i]?=some x) {s:f_} (h:(aQ AQ).p 248 [x.pv]=some [.str s]) :
   (aQ AQ).i 257 [.pv (vI i),.aT 0 0] [some e.cl] []=some ([.pv (.str s)],[some e.cl],[]):=by
 have hi:=(List.getElem?_eq_some_iff.1 hx).1
 rw [aZ (af:=g257) hQ.Gb (by simp [g257])]
 simp at h
 simp [-getElem?_pos,g257,hx,h,hi]
theorem c269 (hQ:ei AQ) {xs:List f_} {sep:f_} (h1:xs.length≤1000000000) (h2:(Lib.join xs sep).length≤140737488355328):(aQ AQ).p 269 [.a8 (xs.map .str),.str sep]=some [.str (Lib.join xs sep)]:=by
 rw [oT hQ.Gi rfl]
 simp only [pK,vU]
 rw [if_pos ⟨h1,h2⟩]
def dm (f:Ar→f_) (a:Ar):f_:=Lib.join (a.kp::a.vars) [32]++[46,32]++f a
def jM (T:List f_):List AV:=T.map fun s=>.pv (.str s)
theorem wK {T:List f_}:(jM T).length=T.length:=by simp [jM]
theorem Dw {T:List f_} {i:Nat} {s:f_} (hi:i<T.length):aN (jM T) i [.pv (.str s)]=jM (T.set i s):=by
 unfold jM
 rw [List.map_set,List.set_eq_take_append_cons_drop,if_pos (by simpa using hi)]
 simp [aN]
theorem Dx {T:List f_}:((ix (jM T)).bind (gA 1 false T.length)).map PV.a8=some (.a8 (T.map .str)):=by
 have:ix (jM T)=some (T.map .str):=by
   induction T with
   | nil=>rfl
   | cons x r ih=>simp only [jM,List.map_cons,ix,jd] at ih ⊢;rw [ih]
 rw [this]
 simp [gA]
theorem nb {T:List f_}:∀v∈jM T,∃p,v=AV.pv p:=by
 intro v hv
 simp only [jM,List.mem_map] at hv
 obtain ⟨s,_,rfl⟩:=hv
 exact ⟨_,rfl⟩
theorem FQ (hQ:ei AQ) {br:List Ar} {f:Ar→f_} {M:Nat} (hA:br.length≤10) (hM:M≤1000000000000000) (hf:∀x∈br,(aQ AQ).p 248 [x.body.pv]=some [.str (f x)]∧(f x).length≤M∧x.vars.length≤10∧(Lib.join (x.kp::x.vars) [32]).length≤10000) :
   ∀(n i:Nat),br.length-i=n→i≤br.length→∀T:List f_,T.length=br.length →
   cl AQ g260L0 ⟨[(3,.bh 0 1 br.length false),(9,.pv (.a8 (br.map Ar.pv))),(10,.pv (vI br.length)),(11,.pv (vI i))],[],[some (jM T)],[]⟩ =
     some (.exit 0,⟨[(3,.bh 0 1 br.length false),(9,.pv (.a8 (br.map Ar.pv))),(10,.pv (vI br.length)),(11,.pv (vI br.length)),(12,.pv (.bool false))],[],[some (jM (T.take i++(br.drop i).map (dm f)))],[]⟩)
 | 0,i,hn,hi,T,hT=>by
   have:i=br.length:=by omega
   subst this
   rw [List.take_of_length_le (by omega),List.drop_length]
   have hq:∀aC ts,bQ aC ts [some (jM T)]=([some (jM T)],aC,ts):=(jm.one nb).norm
   simp only [List.map_nil,List.append_nil]
   generalize jM T=X at *
   rw [g260L0e]
   simp [g260B0,hq]
 | n+1,i,hn,hi,T,hT=>by
   have hi:i<br.length:=by omega
   obtain ⟨x,hx⟩:=iQ hi
   obtain ⟨cb,lb,lv,lj⟩:=hf x (ic hx)
   have cj:=c269 hQ (xs:=x.kp::x.vars) (sep:=[32]) (by simp;omega) (by omega)
   have ih:=FQ hQ hA hM hf n (i+1) (by omega) (by omega) (T.set i (dm f x)) (by simpa using hT)
   have e1:(T.set i (dm f x)).take (i+1)++(br.drop (i+1)).map (dm f)=T.take i++(br.drop i).map (dm f):=by
     rw [List.set_eq_take_append_cons_drop,if_pos (by omega),sq hx,List.take_append,List.take_of_length_le (by simp;omega)]
     have:i+1-(T.take i).length=1:=by simp;omega
     rw [this]
     simp
   rw [e1] at ih
   have hset:=Dw (T:=T) (i:=i) (s:=dm f x) (by omega)
   have hq:∀aC ts,bQ aC ts [some (jM T)]=([some (jM T)],aC,ts):=(jm.one nb).norm
   have hq1:∀aC ts,bQ aC ts [some (jM (T.set i (dm f x)))]=([some (jM (T.set i (dm f x)))],aC,ts):=(jm.one nb).norm
   have hB:cV (jM T)=false:=B6 nb
   have hlen:(jM T).length=br.length:=by rw [wK,hT]
   have hb:(x.vars.length+1)*16≤140737488355328:=by omega
   have hb2:(1+x.vars.length)*16≤140737488355328:=by omega
   clear e1
   generalize jM (T.set i (dm f x))=X1 at *
   generalize jM T=X at *
   generalize jM (T.take i++(br.drop i).map (dm f))=X2 at *
   unfold dm at hset
   generalize Lib.join (x.kp::x.vars) [32]=J at *
   rw [g260L0e] at ih ⊢
   simp at cb ih cj
   simp at hset
   have hle:i+1≤br.length:=by omega
   have hqL:∀aC ts,aV aC ts X1=(X1,aC,ts):=fun aC ts=>by have:=hq1 aC ts;simp [bQ] at this;exact Prod.ext this.1 (Prod.ext this.2.1 this.2.2)
   try simp only [hqL] at ih
   by_cases hv:x.vars=[]
   · simp [hv] at cj
     simp (disch:=first | omega | (simp only [List.length_append,List.length_cons,List.length_nil];omega)) [-bo,bX,-getElem?_pos,g260B0,hq,hi,hx,cb,cj,hv,hB,hlen,hle,hset,bH]
     rw [g260L0e]
     simp [hqL,ih]
   · simp (disch:=first | omega | (simp only [List.length_append,List.length_cons,List.length_nil];omega)) [-bo,bX,-getElem?_pos,g260B0,hq,hi,hx,cb,cj,hv,hb,hb2,hB,hlen,hle,hset,bH]
     rw [g260L0e]
     simp [hqL,ih]
theorem c260 (hQ:ei AQ) {br:List Ar} {f:Ar→f_} {M:Nat} (hA:br.length≤10) (hM:M≤1000000000000000) (hf:∀x∈br,(aQ AQ).p 248 [x.body.pv]=some [.str (f x)]∧(f x).length≤M∧x.vars.length≤10∧(Lib.join (x.kp::x.vars) [32]).length≤10000)
   (hj:(Lib.join (br.map (dm f)) [32,124,32]).length≤140737488355328):(aQ AQ).p 260 [.a8 (br.map Ar.pv)]=some [.str (Lib.join (br.map (dm f)) [32,124,32])]:=by
 have h:=FQ hQ hA hM hf _ 0 rfl (by omega) (List.replicate br.length []) (by simp)
 have c:=c269 hQ (xs:=br.map (dm f)) (sep:=[32,124,32]) (by simp;omega) hj
 have hfr:=Dx (T:=br.map (dm f))
 have hlen:=wK (T:=br.map (dm f))
 have hrep:(List.replicate br.length [AV.pv (PV.str [])]).flatten=jM (List.replicate br.length []):=by
   simp [jM]
 have hb:(br.length:Int)*16≤140737488355328:=by omega
 have h9:(br.length:Int)≤9223372036854775807:=by omega
 rw [List.drop_zero,List.take_zero,List.nil_append] at h
 rw [List.length_map] at hfr hlen
 have hq:∀aC ts,bQ aC ts [some (jM (List.replicate br.length []))]=([some (jM (List.replicate br.length []))],aC,ts):=(jm.one nb).norm
 generalize Lib.join (br.map (dm f)) [32,124,32]=J at *
 generalize br.map (dm f)=Y at *
 generalize jM Y=Z at *
 generalize jM (List.replicate br.length [])=X at *
 rw [aD (af:=g260) hQ.Ge rfl (by decide)]
 rw [g260L0e] at h
 simp [hq] at h
 simp at hfr c hrep
 simp [-getElem?_pos,g260,hb,h9,hrep,g260L0e,hq,h,hlen,hfr,c]
end
end Go.Ab.Lw
namespace Go.Ab.Lw
open Ev
theorem DT {e:Ex} {i:Nat} {a:Ar} (hx:e.br[i]?=some a) (hi10:e.br.length≤10) (hv:a.vars.length≤10) (hl:∀v∈a.vars,v.length≤100):∀(n k:Nat),a.vars.length-k=n→k≤a.vars.length→∀acc:f_,acc.length≤100000000000000000+k*101 →
   cl AP g249L1 ⟨[(1,.bt 1 0),(5,.pv (.str acc)),(6,.pv (vI i)),(7,.pv (vI k))],[(1,e.cl)],[],[]⟩ =
     some (.exit 3,⟨[(1,.bt 1 0),(5,.pv (.str (acc++Lib.joinTail [32] (a.vars.drop k)))),(6,.pv (vI i)),(7,.pv (vI a.vars.length)),(154,.pv (.bool false))],[(1,e.cl)],[],[]⟩)
 | 0,k,hn,hk,acc,ha=>by
   have:k=a.vars.length:=by omega
   subst this
   have hi:=(List.getElem?_eq_some_iff.1 hx).1
   rw [g249L1e]
   simp [-getElem?_pos,g249B1,hx,hi,Lib.joinTail]
 | n+1,k,hn,hk,acc,ha=>by
   have hi:=(List.getElem?_eq_some_iff.1 hx).1
   have hk:k<a.vars.length:=by omega
   obtain ⟨v,hy⟩:=iQ hk
   have hlv:=hl v (ic hy)
   have ih:=DT hx hi10 hv hl n (k+1) (by omega) (by omega) (acc++32::v) (by simp;omega)
   have ej:Lib.joinTail [32] (a.vars.drop k)=32::v++Lib.joinTail [32] (a.vars.drop (k+1)):=by rw [sq hy];simp [Lib.joinTail]
   rw [ej]
   generalize Lib.joinTail [32] (a.vars.drop (k+1))=J at *
   rw [g249L1e] at ih ⊢
   simp at ih
   simp (disch:=first | omega | (simp only [List.length_append,List.length_cons,List.length_nil];omega)) [-bo,bX,-getElem?_pos,g249B1,hx,hi,hk,hy,bH]
   rw [g249L1e]
   simp [ih]
def e9 (sep:f_) (i:Nat) (l:List f_):f_:=if i=0 then Lib.join l sep else Lib.joinTail sep l
theorem zK {sep:f_} {i:Nat}:e9 sep i []=[]:=by unfold e9;split<;>rfl
theorem v5 {sep x:f_} {r:List f_}:e9 sep 0 (x::r)=x++e9 sep 1 r:=by simp [e9,Lib.join_cons]
theorem v7 {sep x:f_} {i:Nat} {r:List f_}:e9 sep (i+1) (x::r)=sep++(x++e9 sep (i+1+1) r):=by simp [e9,Lib.joinTail]
theorem Cb {e:Ex} {f:Ar→f_} {M:Nat} (hA:e.br.length≤10) (hM:M≤1000000000000000)
   (hf:∀x∈e.br,(aQ AP).p 249 [x.body.pv]=some [.str (f x)]∧(f x).length≤M∧x.kp.length≤100∧x.vars.length≤10∧∀v∈x.vars,v.length≤100) :
   ∀(n i:Nat),e.br.length-i=n→i≤e.br.length→∀acc:f_,acc.length≤10000000000000000+i*(M+2000) →
   cl AP g249L0 ⟨[(1,.bt 1 0),(5,.pv (.str acc)),(6,.pv (vI i))],[(1,e.cl)],[],[]⟩ =
     some (.exit 1,⟨[(1,.bt 1 0),(5,.pv (.str (acc++e9 [32,124,32] i ((e.br.drop i).map (dm f))))),(6,.pv (vI e.br.length)),(131,.pv (.bool false))],[(1,e.cl)],[],[]⟩)
 | 0,i,hn,hi,acc,ha=>by
   have:i=e.br.length:=by omega
   subst this
   rw [List.drop_length]
   simp only [List.map_nil,zK,List.append_nil]
   rw [g249L0e]
   simp [g249B0]
 | n+1,i,hn,hi,acc,ha=>by
   have hi:i<e.br.length:=by omega
   obtain ⟨x,hx⟩:=iQ hi
   obtain ⟨cb,lb,lc,lv,zL⟩:=hf x (ic hx)
   have hmul:(i+1)*(M+2000)=i*(M+2000)+(M+2000):=Nat.add_mul _ _ _ |>.trans (by omega)
   have hi10:i*(M+2000)≤10*(M+2000):=Nat.mul_le_mul_right _ (by omega)
   have hjl:(Lib.joinTail [32] x.vars).length≤1010:=by
     have:∀l:List f_,(∀v∈l,v.length≤100)→(Lib.joinTail [32] l).length≤l.length*101:=by
       intro l
       induction l with
       | nil=>intro _;simp [Lib.joinTail]
       | cons y r ihr=>
         intro hl
         have h1:=ihr fun z hz=>hl z (by simp [hz])
         have h2:=hl y (by simp)
         simp only [Lib.joinTail,List.map_cons,List.flatten_cons,List.length_append,List.length_cons,List.length_nil] at h1 ⊢
         omega
     have:=this x.vars zL
     omega
   have harm:dm f x=x.kp++(Lib.joinTail [32] x.vars++(46::32::f x)):=by simp [dm,Lib.join_cons]
   rw [sq hx,List.map_cons]
   have inner:=fun acc' h=>DT (e:=e) (i:=i) hx hA lv zL _ 0 rfl (by omega) acc' h
   have hf':=hf
   clear hf zL
   by_cases h0:i=0
   · have e0:e9 [32,124,32] i (dm f x::(e.br.drop (i+1)).map (dm f))=dm f x++e9 [32,124,32] (i+1) ((e.br.drop (i+1)).map (dm f)):=by
       rw [h0];exact v5
     rw [e0,harm]
     have ih:=Cb hA hM hf' n (i+1) (by omega) (by omega) (acc++dm f x) (by rw [harm];simp;omega)
     rw [harm] at ih
     have h2:=inner (acc++x.kp) (by simp;omega)
     rw [List.drop_zero] at h2
     clear inner hf'
     generalize e9 [32,124,32] (i+1) ((e.br.drop (i+1)).map (dm f))=R at *
     generalize Lib.joinTail [32] x.vars=J at *
     have hpos:¬0<i:=by omega
     rw [g249L0e] at ih ⊢
     rw [g249L1e] at h2
     simp at cb ih h2
     simp (disch:=first | omega | (simp only [List.length_append,List.length_cons,List.length_nil];omega)) [-bo,bX,-getElem?_pos,g249B0,hx,hi,hpos,cb,g249L1e,h2,bH]
     rw [g249L0e]
     simp [ih]
   · have e0:e9 [32,124,32] i (dm f x::(e.br.drop (i+1)).map (dm f))=[32,124,32]++(dm f x++e9 [32,124,32] (i+1) ((e.br.drop (i+1)).map (dm f))):=by
       obtain ⟨j,rfl⟩:∃j,i=j+1:=⟨i-1,by omega⟩
       exact v7
     rw [e0,harm]
     have ih:=Cb hA hM hf' n (i+1) (by omega) (by omega) (acc++([32,124,32]++dm f x)) (by rw [harm];simp;omega)
     rw [harm] at ih
     have h2:=inner (acc++[32,124,32]++x.kp) (by simp;omega)
     rw [List.drop_zero] at h2
     clear inner hf'
     generalize e9 [32,124,32] (i+1) ((e.br.drop (i+1)).map (dm f))=R at *
     generalize Lib.joinTail [32] x.vars=J at *
     have hpos:0<i:=by omega
     rw [g249L0e] at ih ⊢
     rw [g249L1e] at h2
     simp at cb ih h2
     simp (disch:=first | omega | (simp only [List.length_append,List.length_cons,List.length_nil];omega)) [-bo,bX,-getElem?_pos,g249B0,hx,hi,hpos,cb,g249L1e,h2,bH]
     rw [g249L0e]
     simp [ih]
end Go.Ab.Lw
namespace Go.Ab.Lw
open Ev
def BE (n:Nat):Nat:=10000000*12 ^ n
theorem ig (n:Nat):BE (n+1)=12*BE n:=by unfold BE;rw [Nat.pow_succ];omega
theorem jK (n:Nat):10000000≤BE n:=by unfold BE;have:0<12 ^ n:=Nat.pow_pos (by omega);omega
theorem om {n:Nat} (h:n≤5):BE n≤3000000000000:=by
 unfold BE
 have:12 ^ n≤12 ^ 5:=Nat.pow_le_pow_right (by omega) h
 omega
theorem join_le {l:List f_} {sep:f_} {M:Nat} (h:∀x∈l,x.length≤M):(Lib.join l sep).length≤l.length*(M+sep.length):=by
 cases l with
 | nil=>simp [Lib.join_nil]
 | cons x r=>
   rw [Lib.join_cons]
   have h1:=h x (by simp)
   have:∀r:List f_,(∀y∈r,y.length≤M)→(Lib.joinTail sep r).length≤r.length*(M+sep.length):=by
     intro r
     induction r with
     | nil=>intro _;simp [Lib.joinTail]
     | cons y r ih=>
       intro hl
       have a1:=ih fun z hz=>hl z (by simp [hz])
       have a2:=hl y (by simp)
       simp only [Lib.joinTail,List.map_cons,List.flatten_cons,List.length_append,List.length_cons,Nat.add_mul] at a1 ⊢
       omega
   have a:=this r fun y hy=>h y (by simp [hy])
   simp only [List.length_append,List.length_cons,Nat.add_mul] at a ⊢
   omega
def su (AQ:Nat→Option aB) (n:Nat) (e:Ex):Prop:=∃s:f_,s.length≤BE n∧(aQ AQ).p 248 [e.pv]=some [.str s]∧(aQ AP).p 249 [e.pv]=some [.str s]
section
variable {AQ:Nat→Option aB}
theorem pN (hQ:ei AQ) {n:Nat} {e:Ex} (h:(e.kind=1∨e.kind=2)∧e.name.length≤100∨e.kind=3∧0≤e.num∧e.num<4∨e.kind=10):su AQ (n+1) e:=by
 have hB:=jK n
 have hBs:=ig n
 rcases h with ⟨h | h,hl⟩ | ⟨h,h0,h4⟩ | h
 · refine ⟨e.name,by omega,?_,?_⟩
   · rw [aD (af:=g248) hQ.m_ rfl (by decide)];simp [g248,h]
   · rw [aD (af:=g249) rfl rfl (by decide)];simp [g249,h]
 · refine ⟨e.name,by omega,?_,?_⟩
   · rw [aD (af:=g248) hQ.m_ rfl (by decide)];simp [g248,h]
   · rw [aD (af:=g249) rfl rfl (by decide)];simp [g249,h]
 · have k1:=c255 hQ h0 h4
   have k2:=c256 h0 h4
   have hd:(Lib.decDigits e.num.toNat).length≤100:=by
     have:e.num=0∨e.num=1∨e.num=2∨e.num=3:=by omega
     rcases this with q | q | q | q<;>rw [q]<;>simp [Lib.decDigits]
   refine ⟨Lib.decDigits e.num.toNat,by omega,?_,?_⟩
   · rw [aD (af:=g248) hQ.m_ rfl (by decide)];simp [g248,h,k1]
   · rw [aD (af:=g249) rfl rfl (by decide)];simp [g249,h,k2]
 · refine ⟨[63],by simp;omega,?_,?_⟩
   · rw [aD (af:=g248) hQ.m_ rfl (by decide)];simp [g248,h]
   · rw [aD (af:=g249) rfl rfl (by decide)];simp [g249,h]
theorem Dy (hQ:ei AQ) {n:Nat} (hn:n≤5) {e a:Ex} (h:e.kind=4) (hl:e.name.length≤100) (hk:e.kids=[a]) (ha:su AQ n a):su AQ (n+1) e:=by
 have hB:=jK n
 have hBs:=ig n
 have hBl:=om hn
 obtain ⟨s,ls,p,q⟩:=ha
 have k:=c257 hQ (e:=e) (i:=0) (by rw [hk];rfl) p
 refine ⟨[92]++e.name++[46,32]++s,by simp;omega,?_,?_⟩
 · rw [aD (af:=g248) hQ.m_ rfl (by decide)]
   simp [h,hk] at k
   simp (disch:=first | omega | (simp only [List.length_append,List.length_cons,List.length_nil];omega)) [-bo,bX,g248,h,hk,k]
 · rw [aD (af:=g249) rfl rfl (by decide)]
   simp at q
   simp (disch:=first | omega | (simp only [List.length_append,List.length_cons,List.length_nil];omega)) [-bo,bX,g249,h,hk,q]
theorem Cc (hQ:ei AQ) {n:Nat} (hn:n≤5) {e a:Ex} (h:e.kind=11) (hk:e.kids=[a]) (ha:su AQ n a):su AQ (n+1) e:=by
 have hB:=jK n
 have hBs:=ig n
 have hBl:=om hn
 obtain ⟨s,ls,p,q⟩:=ha
 have k:=c257 hQ (e:=e) (i:=0) (by rw [hk];rfl) p
 refine ⟨[123]++s++[125],by simp;omega,?_,?_⟩
 · rw [aD (af:=g248) hQ.m_ rfl (by decide)]
   simp [h,hk] at k
   simp (disch:=first | omega | (simp only [List.length_append,List.length_cons,List.length_nil];omega)) [-bo,bX,g248,h,hk,k]
 · rw [aD (af:=g249) rfl rfl (by decide)]
   simp at q
   simp (disch:=first | omega | (simp only [List.length_append,List.length_cons,List.length_nil];omega)) [-bo,bX,g249,h,hk,q]
theorem Dz (hQ:ei AQ) {n:Nat} (hn:n≤5) {e a:Ex} (h:e.kind=9) (hk:e.kids=[a]) (ht:EM 3 e.ty) (ha:su AQ n a):su AQ (n+1) e:=by
 have hB:=jK n
 have hBs:=ig n
 have hBl:=om hn
 obtain ⟨s,ls,p,q⟩:=ha
 obtain ⟨u,lu,pu,qu⟩:=Dr hQ 3 (by omega) ht
 have hBT:BT 3=8000000:=by decide
 have k:=c257 hQ (e:=e) (i:=0) (by rw [hk];rfl) p
 refine ⟨[40]++s++[32,58,32]++u++[41],by simp;omega,?_,?_⟩
 · rw [aD (af:=g248) hQ.m_ rfl (by decide)]
   simp [h,hk] at k
   simp at pu
   simp (disch:=first | omega | (simp only [List.length_append,List.length_cons,List.length_nil];omega)) [-bo,bX,g248,h,hk,k,pu]
 · rw [aD (af:=g249) rfl rfl (by decide)]
   simp at q qu
   simp (disch:=first | omega | (simp only [List.length_append,List.length_cons,List.length_nil];omega)) [-bo,bX,g249,h,hk,q,qu]
theorem DA (hQ:ei AQ) {n:Nat} (hn:n≤5) {e a b:Ex} (h:e.kind=6∨e.kind=7) (hl:e.name.length≤100) (hk:e.kids=[a,b]) (ha:su AQ n a) (hb:su AQ n b):su AQ (n+1) e:=by
 have hB:=jK n
 have hBs:=ig n
 have hBl:=om hn
 obtain ⟨s,ls,p,q⟩:=ha
 obtain ⟨u,lu,pu,qu⟩:=hb
 have k:=c257 hQ (e:=e) (i:=0) (by rw [hk];rfl) p
 have k':=c257 hQ (e:=e) (i:=1) (by rw [hk];rfl) pu
 rcases h with h | h
 · refine ⟨[108,101,116,32]++e.name++[32,61,32]++s++[32,105,110,32]++u,by simp;omega,?_,?_⟩
   · rw [aD (af:=g248) hQ.m_ rfl (by decide)]
     simp [h,hk] at k k'
     simp (disch:=first | omega | (simp only [List.length_append,List.length_cons,List.length_nil];omega)) [-bo,bX,g248,h,hk,k,k']
   · rw [aD (af:=g249) rfl rfl (by decide)]
     simp at q qu
     simp (disch:=first | omega | (simp only [List.length_append,List.length_cons,List.length_nil];omega)) [-bo,bX,g249,h,hk,q,qu]
 · refine ⟨[108,101,116,32,114,101,99,32]++e.name++[32,61,32]++s++[32,105,110,32]++u,by simp;omega,?_,?_⟩
   · rw [aD (af:=g248) hQ.m_ rfl (by decide)]
     simp [h,hk] at k k'
     simp (disch:=first | omega | (simp only [List.length_append,List.length_cons,List.length_nil];omega)) [-bo,bX,g248,h,hk,k,k']
   · rw [aD (af:=g249) rfl rfl (by decide)]
     simp at q qu
     simp (disch:=first | omega | (simp only [List.length_append,List.length_cons,List.length_nil];omega)) [-bo,bX,g249,h,hk,q,qu]
theorem DB (hQ:ei AQ) {n:Nat} (hn:n≤5) {e a b:Ex} (h:e.kind=5) (hk:e.kids=[a,b]) (ha:su AQ n a) (hb:su AQ n b):su AQ (n+1) e:=by
 have hB:=jK n
 have hBs:=ig n
 have hBl:=om hn
 obtain ⟨s,ls,p,q⟩:=ha
 obtain ⟨u,lu,pu,qu⟩:=hb
 have k:=c257 hQ (e:=e) (i:=0) (by rw [hk];rfl) p
 have k':=c257 hQ (e:=e) (i:=1) (by rw [hk];rfl) pu
 have a1:=c259 hQ (e:=a)
 have a2:=c259 hQ (e:=b)
 have r1:=c262 (e:=a)
 have r2:=c262 (e:=b)
 have e1:=c258 hQ (s:=s) (b:=!a.cp && !decide (a.kind=5)) (by omega)
 have e2:=c258 hQ (s:=u) (b:=!b.cp) (by omega)
 have f1:=c261 (e:=a) (b:=a.cp || decide (a.kind=5)) q (by omega)
 have f2:=c261 (e:=b) (b:=b.cp) qu (by omega)
 have hb1:(!(a.cp || decide (a.kind=5)))=(!a.cp && !decide (a.kind=5)):=by simp
 rw [hb1] at f1
 have l1:=gN (b:=!a.cp && !decide (a.kind=5)) (s:=s)
 have l2:=gN (b:=!b.cp) (s:=u)
 refine ⟨d5 (!a.cp && !decide (a.kind=5)) s++[32]++d5 (!b.cp) u,by simp;omega,?_,?_⟩
 · rw [aD (af:=g248) hQ.m_ rfl (by decide)]
   simp [h,hk] at k k'
   generalize d5 (!a.cp && !decide (a.kind=5)) s=E1 at *
   generalize d5 (!b.cp) u=E2 at *
   simp at a1 a2 e1 e2
   by_cases h5:a.kind=5
   · have hat:a.cp=false:=by simp [Ex.cp,h5]
     simp [hat,h5] at e1 a1
     simp [h5] at k k'
     simp (disch:=first | omega | (simp only [List.length_append,List.length_cons,List.length_nil];omega)) [-bo,bX,g248,h,hk,k,k',a1,a2,e1,e2,hat,h5]
   · have q1:(a.kind == 5)=false:=by simp [h5]
     have q2:(a.kind != 5)=true:=by simp [h5]
     cases hat:a.cp<;>simp [hat,h5] at e1 a1 <;>
       simp (disch:=first | omega | (simp only [List.length_append,List.length_cons,List.length_nil];omega)) [-bo,bX,g248,h,hk,k,k',a1,a2,e1,e2,hat,h5,q1,q2]
 · rw [aD (af:=g249) rfl rfl (by decide)]
   generalize d5 (!a.cp && !decide (a.kind=5)) s=E1 at *
   generalize d5 (!b.cp) u=E2 at *
   simp at r1 r2 f1 f2
   by_cases h5:a.kind=5
   · have hat:a.cp=false:=by simp [Ex.cp,h5]
     simp [hat,h5] at f1 r1
     simp (disch:=first | omega | (simp only [List.length_append,List.length_cons,List.length_nil];omega)) [-bo,bX,g249,h,hk,r1,r2,f1,f2,hat,h5]
   · have q1:(a.kind == 5)=false:=by simp [h5]
     have q2:(a.kind != 5)=true:=by simp [h5]
     cases hat:a.cp<;>simp [hat,h5] at f1 r1 <;>
       simp (disch:=first | omega | (simp only [List.length_append,List.length_cons,List.length_nil];omega)) [-bo,bX,g249,h,hk,r1,r2,f1,f2,hat,h5,q1,q2]
theorem Cd (hQ:ei AQ) {n:Nat} (hn:n≤5) {e a:Ex} (h:e.kind=8) (hk:e.kids=[a]) (ha:su AQ n a) (hA:e.br.length≤10)
   (hv:∀x∈e.br,x.kp.length≤100∧x.vars.length≤10∧∀v∈x.vars,v.length≤100) (hx:∀x∈e.br,su AQ n x.body):su AQ (n+1) e:=by
 have hB:=jK n
 have hBs:=ig n
 have hBl:=om hn
 obtain ⟨s,ls,p,q⟩:=ha
 obtain ⟨f,hf⟩:=skolem hx
 have k:=c257 hQ (e:=e) (i:=0) (by rw [hk];rfl) p
 have hcv:∀x∈e.br,(Lib.join (x.kp::x.vars) [32]).length≤1111:=fun x hm=>by
   obtain ⟨h1,h2,h3⟩:=hv x hm
   have:=join_le (l:=x.kp::x.vars) (sep:=[32]) (M:=100) (by simpa using ⟨h1,h3⟩)
   simp only [List.length_cons,List.length_nil] at this
   have hm:(x.vars.length+1)*101≤11*101:=Nat.mul_le_mul_right _ (by omega)
   omega
 have hJ:(Lib.join (e.br.map (dm f)) [32,124,32]).length≤10*(BE n+1116):=by
   have:=join_le (l:=e.br.map (dm f)) (sep:=[32,124,32]) (M:=BE n+1113) (by
     intro y hy
     obtain ⟨x,hm,rfl⟩:=List.mem_map.1 hy
     have h1:=hcv x hm
     have h2:=(hf x hm).1
     simp only [dm,List.length_append,List.length_cons,List.length_nil]
     omega)
   have e3:BE n+1113+([32,124,32]:f_).length=BE n+1116:=rfl
   rw [List.length_map,e3] at this
   exact Nat.le_trans this (Nat.mul_le_mul_right _ hA)
 have c:=c260 hQ (br:=e.br) (f:=f) (M:=BE n) hA (by omega) (fun x hm=>⟨(hf x hm).2.1,(hf x hm).1,(hv x hm).2.1,by have:=hcv x hm;omega⟩) (by omega)
 have r:=Cb (e:=e) (f:=f) (M:=BE n) hA (by omega) (fun x hm=>⟨(hf x hm).2.2,(hf x hm).1,hv x hm⟩) _ 0 rfl (by omega) ([99,97,115,101,32]++s++[32,111,102,32]) (by simp;omega)
 rw [List.drop_zero] at r
 have e0:e9 [32,124,32] 0 (e.br.map (dm f))=Lib.join (e.br.map (dm f)) [32,124,32]:=rfl
 rw [e0] at r
 clear hf hv hcv hx e0
 generalize Lib.join (e.br.map (dm f)) [32,124,32]=J at *
 refine ⟨[99,97,115,101,32]++s++[32,111,102,32]++J++[32,101,110,100],by simp;omega,?_,?_⟩
 · rw [aD (af:=g248) hQ.m_ rfl (by decide)]
   simp [h,hk] at k
   simp (disch:=first | omega | (simp only [List.length_append,List.length_cons,List.length_nil];omega)) [-bo,bX,g248,h,hk,k,c]
 · rw [aD (af:=g249) rfl rfl (by decide)]
   rw [g249L0e] at r
   simp [h,hk] at q r
   simp (disch:=first | omega | (simp only [List.length_append,List.length_cons,List.length_nil];omega)) [-bo,bX,g249,h,hk,q,g249L0e,r]
theorem DC (hQ:ei AQ):∀(n:Nat) {e:Ex},n≤6→na n e→su AQ n e:=by
 intro n
 induction n with
 | zero=>intro e _ h;cases h
 | succ n ih=>
   intro e hn h
   have hn':n≤5:=by omega
   have hn6:n≤6:=by omega
   cases h with
   | nm h1 h2=>exact pN hQ (.inl ⟨h1,h2⟩)
   | int h1 h2 h3=>exact pN hQ (.inr (.inl ⟨h1,h2,h3⟩))
   | hole h1=>exact pN hQ (.inr (.inr h1))
   | lam h1 h2 h3 h4=>exact Dy hQ hn' h1 h2 h3 (ih hn6 h4)
   | app h1 h2 h3 h4=>exact DB hQ hn' h1 h2 (ih hn6 h3) (ih hn6 h4)
   | vY h1 h2 h3 h4 h5=>exact DA hQ hn' h1 h2 h3 (ih hn6 h4) (ih hn6 h5)
   | m9 h1 h2 h3 h4 h5 h6=>exact Cd hQ hn' h1 h2 (ih hn6 h3) h4 h5 fun x hm=>ih hn6 (h6 x hm)
   | EJ h1 h2 h3 h4=>exact Dz hQ hn' h1 h2 h3 (ih hn6 h4)
   | held h1 h2 h3=>exact Cc hQ hn' h1 h2 (ih hn6 h3)
end
end Go.Ab.Lw
namespace Go.Ab.Lw
open Ev
theorem na.up {n:Nat} {e:Ex} (h:na n e):na (n+1) e:=by
 induction h with
 | nm h1 h2=>exact .nm h1 h2
 | int h1 h2 h3=>exact .int h1 h2 h3
 | hole h1=>exact .hole h1
 | lam h1 h2 h3 _ ih=>exact .lam h1 h2 h3 ih
 | app h1 h2 _ _ ih1 ih2=>exact .app h1 h2 ih1 ih2
 | vY h1 h2 h3 _ _ ih1 ih2=>exact .vY h1 h2 h3 ih1 ih2
 | m9 h1 h2 _ h4 h5 _ ih1 ih2=>exact .m9 h1 h2 ih1 h4 h5 ih2
 | EJ h1 h2 h3 _ ih=>exact .EJ h1 h2 h3 ih
 | held h1 h2 _ ih=>exact .held h1 h2 ih
def D9 (d:Dt):Prop:=d.name.length≤100∧∀c∈d.cons,c.name.length≤100
theorem EN:∀d∈cv,D9 d:=by
 intro d hd
 simp only [cv,List.mem_cons,List.not_mem_nil,or_false] at hd
 rcases hd with rfl | rfl | rfl | rfl | rfl | rfl | rfl<;>simp [D9]
theorem gw.GC {ds:List Dt} (h8:∀d∈ds,D8 d) (h9:∀d∈ds,D9 d) {n:Nat} {t:Ty} (m:gw (·∈ds) [] n t):EM (n+1) t:=by
 induction m with
 | leaf h=>simp at h
 | int=>exact .kp rfl (by simp [iu]) (by simp [iu]) (by simp [iu])
 | kp hd hl _ ih=>exact .kp rfl (h9 _ hd).1 (by have:=(h8 _ hd).1;simp only;omega) ih
 | arrow _ _ ih1 ih2=>exact .kp rfl (by simp) (by simp) (by simpa using ⟨ih1,ih2⟩)
theorem jc:∀s∈iR,s.length≤100:=by
 intro s hs
 simp only [varNames,List.mem_cons,List.not_mem_nil,or_false] at hs
 rcases hs with rfl | rfl | rfl | rfl | rfl | rfl | rfl | rfl<;>simp
theorem d8.GD {ds:List Dt} (h8:∀d∈ds,D8 d) (h9:∀d∈ds,D9 d) {n:Nat} {e:Ex} (h:d8 ds n e):na (n+1) e:=by
 induction h with
 | var hs=>exact .nm (.inl rfl) (jc _ hs)
 | int h0 h4=>exact .int rfl h0 h4
 | kp hd hc=>exact .nm (.inr rfl) ((h9 _ hd).2 _ hc)
 | gone=>exact .nm (.inr rfl) (by simp)
 | hole=>exact .hole rfl
 | lam hs _ ih=>exact .lam rfl (jc _ hs) rfl ih
 | app _ _ ih1 ih2=>exact .app rfl rfl ih1 ih2
 | vY hk hs _ _ ih1 ih2=>exact .vY hk (jc _ hs) rfl ih1 ih2
 | EJ _ ht ih=>exact .EJ rfl rfl (ht.GC h8 h9) ih
 | held _ ih=>exact .held rfl rfl ih
 | up _ ih=>exact ih.up
 | @m9 n d a as hd _ hl hb hv hc ih1 ih2=>
   obtain ⟨_,_,h8a,h8b⟩:=h8 d hd
   refine .m9 rfl rfl ih1 (by simp only;omega) (fun x hx=>?_) ih2
   obtain ⟨i,hi,rfl⟩:=List.getElem_of_mem hx
   obtain ⟨c,hcc⟩:=iQ (show i<d.cons.length from hl ▸ hi)
   obtain ⟨q1,q2⟩:=hc i c _ hcc (List.getElem?_eq_getElem hi)
   refine ⟨by rw [q1];exact (h9 d hd).2 c (ic hcc),by have:=h8b c (ic hcc);omega,fun v hv'=>jc _ ((hv _ hx).2 v hv')⟩
theorem FR:ei AP:=⟨rfl,rfl,rfl,rfl,rfl,rfl,rfl,rfl,rfl,rfl⟩
theorem c244:(aQ AP).p 244 []=some [.bool true]:=Fc.FE (k:=400) (n:=40) (by kernel_rfl)
theorem EO (bits:Int) (L:List Int):(aQ AP).p 242 [vI bits,.a8 (L.map vI)]=some [.bool true]:=by
 have c0:=c244
 have c1:=c15 (l:=L)
 rw [aD (af:=g242) rfl rfl (by decide)]
 by_cases hL:L.length≤60
 · simp [hL] at c1
   have hLs:Sm L:=by unfold Sm;omega
   obtain ⟨ds,e1,hda,hds⟩:=c32 bits
   have hD:∀d∈ds,D8 d:=fun d hd=>EK d (hda d hd)
   have hD9:∀d∈ds,D9 d:=fun d hd=>EN d (hda d hd)
   obtain ⟨e,fk,fa,fg,j,e2,hR,hj⟩:=c247 hLs hds hD 5 (by omega) 0 (by omega)
   obtain ⟨s,_,k1,k2⟩:=DC FR 6 (by omega) (hR.GD hD hD9)
   simp at e1 k1 k2
   cases fk<;>cases fa<;>cases fg<;>simp [gM,kM] at e2<;>simp [-getElem?_pos,g242,c0,c1,e1,e2,k1,k2]
 · simp [hL] at c1
   simp [g242,c0,c1]
end Go.Ab.Lw
