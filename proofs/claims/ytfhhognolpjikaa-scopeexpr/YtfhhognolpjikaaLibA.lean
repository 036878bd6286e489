import Derived.Test.YtfhhognolpjikaaCodeA
import Derived.Test.YtfhhognolpjikaaAbBridge
import Derived.Test.YtfhhognolpjikaaAbForce
import Derived.KernelRfl
/-
  The program's data.
  The makers: what their functions AX.
  The makers: what their functions AX.
  The data declarations that programs are made of: what the reader makes of their text.
  The makers: data declarations, chosen by bits.
  The makers: types and substitutions off the tape.
  Types and substitutions: what replaces variables.
  Types: rebuilding with new leaves.
  Substitutions: composing; equality of types and of substitutions.
  Chapter 13: equality of substitutions; the laws SubstAssociates and SubstEqual.
  Functions of package slices over any elements.
  Ranges over a slice backward.
  Which types are valid.
  Contexts: their entries; looking names up.
  slices.EqualFunc and slices.Clip over any elements.
  What the pure data of a parameter looks GM.
  The variables of types, by the program and by the reference.
  Contexts: schemes, adding, hidden entries; what law 19 makes.
  Law 19 makes contexts; the law EnvironLooks.
  The maker of types over any list of data types.
  Correct types in declarations.
  Expressions.
  slices.DeleteFunc over an array of texts that may be written.
  Arrays of structs in shared memory: their cells one behind the other.
  Expressions: children, the part at a path, and the names that are bound.
  The names that are visible at a path.
  Raw expressions: what the maker gives.
  The maker of raw expressions.
  The maker of raw expressions: cases; all depths.
  The law ScopeVisible.
  Chapter 13: valid and idempotent substitutions.
  Expressions: other children.
  Chapter 9: where a constructor is.
  Scopes: to which declaration aD belong.
  Scopes: the errors of a case itself, by the reference.
  Scopes: the errors of a case itself, by the program.
  Scopes: the first error of an expression.
  Positions are numbered.
  Arms are spoiled.
  Arms are spoiled: the walk.
  Scopes: the first error of an expression, by the reference.
  Chapter 10's first examples.
  The law ScopeExpr.
-/
set_option linter.unusedVariables false
set_option linter.unusedSimpArgs false
set_option maxRecDepth 100000
set_option maxHeartbeats 8000000
namespace Go.Ab.Lw
structure Ty where
 kind:Int
 name:List UInt8
 id:Int
 home:Int
 args:List Ty
 deriving Inhabited
noncomputable instance:DecidableEq Ty:=fun _ _=>Classical.propDecidable _
mutual
def Ty.pv:Ty→PV
 | ⟨k,n,i,h,as⟩=>.agg [.int .i64 k,.str n,.int .i64 i,.int .i64 h,.aI (Ty.cU as)]
def Ty.cU:List Ty→List PV
 | []=>[]
 | a::r=>a.pv::Ty.cU r
end
theorem Ty.kR:∀l:List Ty,Ty.cU l=l.map Ty.pv
 | []=>by simp [Ty.cU]
 | a::r=>by simp [Ty.cU,Ty.kR r]
@[simp] theorem Ty.o6 (t:Ty):t.pv=.agg [.int .i64 t.kind,.str t.name,.int .i64 t.id,.int .i64 t.home,.aI (t.args.map Ty.pv)]:=by
 cases t;simp only [Ty.pv,Ty.kR]
theorem Ty.wV {p:Ty→Prop} (h:∀t:Ty,(∀x∈t.args,p x)→p t):∀t,p t
 | ⟨k,n,i,hm,as⟩=>h _ (fun x _hx=>Ty.wV h x)
termination_by t=>SizeOf.sizeOf t
decreasing_by have:=_root_.List.sizeOf_lt_of_mem _hx;simp at *;omega
structure iL where
 pos:Int
 name:List UInt8
 fields:List Ty
 deriving Inhabited
structure Dt where
 pos:Int
 name:List UInt8
 params:List (List UInt8)
 cons:List iL
 deriving Inhabited
def iL.pv (c:iL):PV:=.agg [.int .i64 c.pos,.str c.name,.aI (c.fields.map Ty.pv)]
def Dt.pv (d:Dt):PV:=.agg [.int .i64 d.pos,.str d.name,.aI (d.params.map .str),.aI (d.cons.map iL.pv)]
@[simp] theorem iL.o6 (c:iL):c.pv=.agg [.int .i64 c.pos,.str c.name,.aI (c.fields.map Ty.pv)]:=rfl
@[simp] theorem Dt.o6 (d:Dt):d.pv=.agg [.int .i64 d.pos,.str d.name,.aI (d.params.map .str),.aI (d.cons.map iL.pv)]:=rfl
structure As where
 id:Int
 ty:Ty
 deriving Inhabited
def As.pv (a:As):PV:=.agg [.int .i64 a.id,.int .i64 a.ty.kind,.str a.ty.name,.int .i64 a.ty.id,.int .i64 a.ty.home,.aI (a.ty.args.map Ty.pv)]
@[simp] theorem As.o6 (a:As):a.pv=.agg [.int .i64 a.id,.int .i64 a.ty.kind,.str a.ty.name,.int .i64 a.ty.id,.int .i64 a.ty.home,.aI (a.ty.args.map Ty.pv)]:=rfl
@[simp] theorem As.eta (t:As):As.mk t.id t.ty=t:=rfl
abbrev vI (n:Int):PV:=.int .i64 n
def tp (L:List Int) (i:Int):Sh:=[some [.pv (.aI (L.map vI)),.pv (vI i)]]
@[simp] theorem Ic (L:List Int) (i:Int):tp L i=[some [.pv (.aI (L.map vI)),.pv (vI i)]]:=rfl
def Sm {α:Type} (l:List α):Prop:=l.length<1099511627776
def Ir {α:Type} (l:List α):Prop:=l.length≤9223372036854775807
@[simp] theorem H3 (n:Nat):((n:Int)<0)↔False:=by simp
theorem dh {α:Type} {l:List α} {i:Nat} {x:α} (h:l[i]?=some x):l.drop i=x::l.drop (i+1):=by
 obtain ⟨hi,rfl⟩:=List.getElem?_eq_some_iff.1 h
 exact List.drop_eq_getElem_cons hi
theorem cE {α:Type} {l:List α} {i:Nat} (h:i<l.length):∃x,l[i]?=some x:=⟨_,List.getElem?_eq_getElem h⟩
theorem eE {α:Type} {l:List α} {i:Nat} {x:α} (h:l[i]?=some x):x∈l:=List.mem_of_getElem? h
theorem nM {α:Type} {l:List α} {i:Nat} (h:l.length≤i):l.drop i=[]:=List.drop_eq_nil_of_le h
end Go.Ab.Lw
namespace Go.Ab.Lw
open Ev
theorem c26 {n m:Int} (h1:1≤m) (h2:m<4611686018427387904):∃r,(aW AP).p 26 [vI n,vI m]=some [vI r]∧0≤r∧r<m:=by
 rw [aJ (af:=g26) rfl rfl (by decide)]
 have a1:=Int.tmod_lt_of_pos n (show 0<m by omega)
 have a2:=Int.lt_tmod_of_pos n (show 0<m by omega)
 have e1:¬m<1:=by omega
 have e2:¬m=0:=by omega
 by_cases h:n.tmod m<0
 · refine ⟨n.tmod m+m,?_,by omega,by omega⟩
   simp (disch:=omega) [g26,e1,e2,h,aL]
 · refine ⟨n.tmod m,?_,by omega,by omega⟩
   simp [g26,e1,e2,h]
theorem c68 {L:List Int} (hL:Sm L) {i:Nat} (hi:i≤L.length) {n:Int} (h1:1≤n) (h2:n<4611686018427387904) :
   ∃(r:Int) (j:Nat),(aW AP).i 68 [.ba 0 0,.pv (vI n)] (tp L i) []=some ([.pv (vI r)],tp L j,[])∧0≤r∧r<n∧j≤L.length:=by
 unfold Sm at hL
 rw [aZ (af:=g68) rfl (by simp [g68])]
 by_cases h:i<L.length
 · obtain ⟨x,hx⟩:=cE h
   obtain ⟨r,e,e1,e2⟩:=c26 (n:=x) h1 h2
   refine ⟨r,i+1,?_,e1,e2,h⟩
   have h':¬L.length≤i:=by omega
   simp (disch:=omega) [-getElem?_pos,g68,h',aL,hx,e]
 · have h':L.length≤i:=by omega
   refine ⟨0,i,?_,by omega,by omega,hi⟩
   simp [g68,h']
theorem c62 {s:List UInt8} {l:List Ty} (h:Sm l):(aW AP).p 62 [.str s,.aI (l.map Ty.pv)]=some [(Ty.mk 4 s 0 0 l).pv]:=by
 unfold Sm at h
 rw [aJ (af:=g62) rfl rfl (by decide)]
 cases l with
 | nil=>simp [g62]
 | cons a r=>
   have:(r.length+1)*64≤140737488355328:=by simp at h;omega
   simp [g62,this]
theorem c34:(aW AP).p 34 []=some [(Ty.mk 4 [73,110,116] 0 0 []).pv]:=by
 rw [aJ (af:=g34) rfl rfl (by decide)]
 have h:=c62 (s:=[73,110,116]) (l:=[]) (by simp [Sm])
 simp at h
 simp [g34,h]
theorem c69 {a b:Ty}:(aW AP).p 69 [a.pv,b.pv]=some [(Ty.mk 4 [45,62] 0 0 [a,b]).pv]:=by
 rw [aJ (af:=g69) rfl rfl (by decide)]
 have h:=c62 (s:=[45,62]) (l:=[a,b]) (by simp [Sm])
 simp at h
 simp [g69,h]
theorem c15 {l:List Int}:(aW AP).p 15 [.aI (l.map vI)]=some [.bool (decide (l.length≤60))]:=by
 rw [aJ (af:=g15) rfl rfl (by decide)]
 simp [g15]
 omega
end Go.Ab.Lw
namespace Go.Ab.Lw
open Ev
def jj:Ty:=⟨4,[73,110,116],0,0,[]⟩
end Go.Ab.Lw
namespace Go.Ab.Lw
def Hf:List UInt8:=[100,97,116,97,32,66,111,111,108,32,61,32,84,114,117,101,32,124,32,70,97,108,115,101,59,32,100,97,116,97,32,79,112,116,105,111,110,32,97,32,61,32,78,111,110,101,32,124,32,83,111,109,101,32,97,59,32,100,97,116,97,32,76,105,115,116,32,97,32,61,32,78,105,108,32,124,32,67,111,110,115,32,97,32,40,76,105,115,116,32,97,41,59,100,97,116,97,32,80,97,105,114,32,97,32,98,32,61,32,80,97,105,114,32,97,32,98,59,32,100,97,116,97,32,78,97,116,32,61,32,90,101,114,111,32,124,32,83,117,99,99,32,78,97,116,59,32,100,97,116,97,32,70,117,110,32,97,32,98,32,61,32,70,117,110,32,40,97,32,45,62,32,98,41,59,32,100,97,116,97,32,84,119,111,32,97,32,61,32,66,111,116,104,32,97,32,97,32,124,32,79,110,101,32,40,79,112,116,105,111,110,32,97,41,59]
def Fe:List PV:=[.aI [.agg [.int .i64 4,.str [100,97,116,97],.int .i64 0],.agg [.int .i64 2,.str [66,111,111,108],.int .i64 5],.agg [.int .i64 5,.str [61],.int .i64 10],.agg [.int .i64 2,.str [84,114,117,101],.int .i64 12],.agg [.int .i64 5,.str [124],.int .i64 17],.agg [.int .i64 2,.str [70,97,108,115,101],.int .i64 19],.agg [.int .i64 5,.str [59],.int .i64 24],.agg [.int .i64 4,.str [100,97,116,97],.int .i64 26],.agg [.int .i64 2,.str [79,112,116,105,111,110],.int .i64 31],.agg [.int .i64 1,.str [97],.int .i64 38],.agg [.int .i64 5,.str [61],.int .i64 40],.agg [.int .i64 2,.str [78,111,110,101],.int .i64 42],.agg [.int .i64 5,.str [124],.int .i64 47],.agg [.int .i64 2,.str [83,111,109,101],.int .i64 49],.agg [.int .i64 1,.str [97],.int .i64 54],.agg [.int .i64 5,.str [59],.int .i64 55],.agg [.int .i64 4,.str [100,97,116,97],.int .i64 57],.agg [.int .i64 2,.str [76,105,115,116],.int .i64 62],.agg [.int .i64 1,.str [97],.int .i64 67],.agg [.int .i64 5,.str [61],.int .i64 69],.agg [.int .i64 2,.str [78,105,108],.int .i64 71],.agg [.int .i64 5,.str [124],.int .i64 75],.agg [.int .i64 2,.str [67,111,110,115],.int .i64 77],.agg [.int .i64 1,.str [97],.int .i64 82],.agg [.int .i64 5,.str [40],.int .i64 84],.agg [.int .i64 2,.str [76,105,115,116],.int .i64 85],.agg [.int .i64 1,.str [97],.int .i64 90],.agg [.int .i64 5,.str [41],.int .i64 91],.agg [.int .i64 5,.str [59],.int .i64 92],.agg [.int .i64 4,.str [100,97,116,97],.int .i64 93],.agg [.int .i64 2,.str [80,97,105,114],.int .i64 98],.agg [.int .i64 1,.str [97],.int .i64 103],.agg [.int .i64 1,.str [98],.int .i64 105],.agg [.int .i64 5,.str [61],.int .i64 107],.agg [.int .i64 2,.str [80,97,105,114],.int .i64 109],.agg [.int .i64 1,.str [97],.int .i64 114],.agg [.int .i64 1,.str [98],.int .i64 116],.agg [.int .i64 5,.str [59],.int .i64 117],.agg [.int .i64 4,.str [100,97,116,97],.int .i64 119],.agg [.int .i64 2,.str [78,97,116],.int .i64 124],.agg [.int .i64 5,.str [61],.int .i64 128],.agg [.int .i64 2,.str [90,101,114,111],.int .i64 130],.agg [.int .i64 5,.str [124],.int .i64 135],.agg [.int .i64 2,.str [83,117,99,99],.int .i64 137],.agg [.int .i64 2,.str [78,97,116],.int .i64 142],.agg [.int .i64 5,.str [59],.int .i64 145],.agg [.int .i64 4,.str [100,97,116,97],.int .i64 147],.agg [.int .i64 2,.str [70,117,110],.int .i64 152],.agg [.int .i64 1,.str [97],.int .i64 156],.agg [.int .i64 1,.str [98],.int .i64 158],.agg [.int .i64 5,.str [61],.int .i64 160],.agg [.int .i64 2,.str [70,117,110],.int .i64 162],.agg [.int .i64 5,.str [40],.int .i64 166],.agg [.int .i64 1,.str [97],.int .i64 167],.agg [.int .i64 5,.str [45,62],.int .i64 169],.agg [.int .i64 1,.str [98],.int .i64 172],.agg [.int .i64 5,.str [41],.int .i64 173],.agg [.int .i64 5,.str [59],.int .i64 174],.agg [.int .i64 4,.str [100,97,116,97],.int .i64 176],.agg [.int .i64 2,.str [84,119,111],.int .i64 181],.agg [.int .i64 1,.str [97],.int .i64 185],.agg [.int .i64 5,.str [61],.int .i64 187],.agg [.int .i64 2,.str [66,111,116,104],.int .i64 189],.agg [.int .i64 1,.str [97],.int .i64 194],.agg [.int .i64 1,.str [97],.int .i64 196],.agg [.int .i64 5,.str [124],.int .i64 198],.agg [.int .i64 2,.str [79,110,101],.int .i64 200],.agg [.int .i64 5,.str [40],.int .i64 204],.agg [.int .i64 2,.str [79,112,116,105,111,110],.int .i64 205],.agg [.int .i64 1,.str [97],.int .i64 212],.agg [.int .i64 5,.str [41],.int .i64 213],.agg [.int .i64 5,.str [59],.int .i64 214]],.agg [.int .i64 0,.int .i64 0]]
def cT:List Dt:=[⟨0,[66,111,111,108],[],[⟨12,[84,114,117,101],[]⟩,⟨19,[70,97,108,115,101],[]⟩]⟩,
 ⟨26,[79,112,116,105,111,110],[[97]],[⟨42,[78,111,110,101],[]⟩,⟨49,[83,111,109,101],[⟨5,[97],0,0,[]⟩]⟩]⟩,
 ⟨57,[76,105,115,116],[[97]],[⟨71,[78,105,108],[]⟩,⟨77,[67,111,110,115],[⟨5,[97],0,0,[]⟩,⟨4,[76,105,115,116],0,0,[⟨5,[97],0,0,[]⟩]⟩]⟩]⟩,
 ⟨93,[80,97,105,114],[[97],[98]],[⟨109,[80,97,105,114],[⟨5,[97],0,0,[]⟩,⟨5,[98],0,0,[]⟩]⟩]⟩,
 ⟨119,[78,97,116],[],[⟨130,[90,101,114,111],[]⟩,⟨137,[83,117,99,99],[⟨4,[78,97,116],0,0,[]⟩]⟩]⟩,
 ⟨147,[70,117,110],[[97],[98]],[⟨162,[70,117,110],[⟨4,[45,62],0,0,[⟨5,[97],0,0,[]⟩,⟨5,[98],0,0,[]⟩]⟩]⟩]⟩,
 ⟨176,[84,119,111],[[97]],[⟨189,[66,111,116,104],[⟨5,[97],0,0,[]⟩,⟨5,[97],0,0,[]⟩]⟩,⟨200,[79,110,101],[⟨4,[79,112,116,105,111,110],0,0,[⟨5,[97],0,0,[]⟩]⟩]⟩]⟩]
theorem Hg:(aW AP).p 118 [.str Hf]=some Fe:=Fc.H2 (k:=400) (n:=20) (by kernel_rfl)
def Ie (g:Nat) (x:List PV):Option (List PV):=match g,x with
 | 118,[.str s]=>if s=Hf then some Fe else none
 | _,_=>none
theorem Gb:∀g x r,Ie g x=some r→(aW AP).p g x=some r:=by
 intro g x r h
 unfold Ie at h
 split at h
 · split at h
   · rename_i e;subst e;cases h;exact Hg
   · cases h
 · cases h
theorem c79:(aW AP).p 79 []=some [.aI (cT.map Dt.pv)]:=Fc.Fb (k:=400) (n:=40) Gb (by kernel_rfl)
end Go.Ab.Lw
namespace Go.Ab.Lw
open Ev
@[simp] theorem Gv {l:List Dt}:bu 4 (l.map Dt.pv)=true:=by cases l<;>simp
@[simp] theorem Gw {l:List Ty}:bu 5 (l.map Ty.pv)=true:=by cases l<;>simp
theorem CR {n:Int} (h1:0≤n) (h2:n<18446744073709551616):IntKind.u64.wrap n=n:=by
 simp [IntKind.wrap,IntKind.bits,IntKind.signed]
 omega
def Hh (bits:Int) (ds:List Dt):Option (aO×St):=
 some (.exit 0,⟨[(0,.pv (vI bits)),(3,.pv (.aI (cT.map Dt.pv))),(4,.own (ds.map Dt.pv) 0),(5,.pv (vI 7)),(24,.pv (.bool false))],[],[],[ds.length]⟩)
theorem HS (bits:Int):∀(n i:Nat),7-i=n→i≤7→∀acc:List Dt,(∀d∈acc,d∈cT)→acc.length≤1+i →
   ∃ds:List Dt,cl AP g32L0 ⟨[(0,.pv (vI bits)),(3,.pv (.aI (cT.map Dt.pv))),(4,.own (acc.map Dt.pv) 0),(5,.pv (vI i))],[],[],[acc.length]⟩=Hh bits ds ∧
     (∀d∈ds,d∈cT)∧ds.length≤8
 | 0,i,hn,hi,acc,ha,hl=>by
   have:i=7:=by omega
   subst this
   refine ⟨acc,?_,ha,by omega⟩
   rw [g32L0e]
   have h7:cT.length=7:=rfl
   simp [g32B0,h7,Hh]
 | n+1,i,hn,hi,acc,ha,hl=>by
   have h7:cT.length=7:=rfl
   have hi:i<7:=by omega
   obtain ⟨x,hx⟩:=cE (l:=cT) (i:=i) (by omega)
   have hb:(acc.length+1)*72≤140737488355328:=by omega
   obtain ⟨d1,e1,m1,l1⟩:=HS bits n (i+1) (by omega) (by omega) (acc++[x]) (by
     intro d hd;simp at hd;rcases hd with hd | rfl
     · exact ha d hd
     · exact eE hx) (by simp;omega)
   obtain ⟨d2,e2,m2,l2⟩:=HS bits n (i+1) (by omega) (by omega) acc ha (by omega)
   simp at e1 e2
   have hi':(i:Int)<7:=by omega
   have key:∀S,S=cl AP g32L0 ⟨[(0,.pv (vI bits)),(3,.pv (.aI (cT.map Dt.pv))),(4,.own (acc.map Dt.pv) 0),(5,.pv (vI i))],[],[],[acc.length]⟩→S=Hh bits d1∨S=Hh bits d2:=by
     intro S hS
     rw [g32L0e] at hS
     simp (disch:=omega) [-getElem?_pos,g32B0,h7,hi',hx,aL,CR,hb,e1,e2] at hS
     subst hS
     (repeat' split)<;>simp
   rcases key _ rfl with h | h
   · exact ⟨d1,h,m1,l1⟩
   · exact ⟨d2,h,m2,l2⟩
theorem c32 (bits:Int):∃ds:List Dt,(aW AP).p 32 [vI bits]=some [.aI (ds.map Dt.pv)]∧(∀d∈ds,d∈cT)∧ds.length≤8:=by
 have hp:=c79
 have h7:cT.length=7:=rfl
 obtain ⟨x,hx⟩:=cE (l:=cT) (i:=1) (by decide)
 obtain ⟨d1,e1,m1,l1⟩:=HS bits 7 0 rfl (by omega) [x] (by intro d hd;simp at hd;subst hd;exact eE hx) (by simp)
 obtain ⟨d2,e2,m2,l2⟩:=HS bits 7 0 rfl (by omega) [] (by simp) (by simp)
 rw [g32L0e] at e1 e2
 simp at e1 e2
 have key:∀S,S=(aW AP).p 32 [vI bits]→S=some [.aI (d1.map Dt.pv)]∨S=some [.aI (d2.map Dt.pv)]:=by
   intro S hS
   rw [aJ (af:=g32) rfl rfl (by decide)] at hS
   simp [-getElem?_pos,g32,hp,g32L0e,hx,e1,e2,Hh] at hS
   subst hS
   (repeat' split)<;>simp
 rcases key _ rfl with h | h
 · exact ⟨d1,h,m1,l1⟩
 · exact ⟨d2,h,m2,l2⟩
end Go.Ab.Lw
namespace Go.Ab.Lw
open Ev
inductive Made (lv:Ty→Prop):Ty→Prop
 | leaf {t:Ty}:lv t→Made lv t
 | int:Made lv jj
 | dZ {d:Dt} {args:List Ty}:d∈cT→args.length=d.params.length→(∀x∈args,Made lv x)→Made lv ⟨4,d.name,0,0,args⟩
 | arrow {a b:Ty}:Made lv a→Made lv b→Made lv ⟨4,[45,62],0,0,[a,b]⟩
def Ty.av (t:Ty):AV:=.agg [.pv (vI t.kind),.pv (.str t.name),.pv (vI t.id),.pv (vI t.home),.pv (.aI (t.args.map Ty.pv))]
@[simp] theorem Ty.Ig (t:Ty):t.av=.agg [.pv (vI t.kind),.pv (.str t.name),.pv (vI t.id),.pv (vI t.home),.pv (.aI (t.args.map Ty.pv))]:=rfl
def oB (L:List Int) (ds:List Dt) (lv:List Ty) (dep:Nat):Prop:=∀i:Nat,i≤L.length→∃(t:Ty) (j:Nat),
 (aW AP).i 27 [.ba 0 0,.pv (.aI (ds.map Dt.pv)),.pv (.aI (lv.map Ty.pv)),.pv (vI dep)] (tp L i) []=some ([t.av],tp L j,[])∧Made (·∈lv) t∧j≤L.length
theorem wW {r:Int} {n:Nat} (h0:0≤r) (h1:r<n):∃m:Nat,r=m∧m<n:=⟨r.toNat,by omega,by omega⟩
end Go.Ab.Lw
namespace Go.Ab.Lw
open Ev
inductive Ty.Ok:Ty→Prop
 | mk {t:Ty}:Sm t.args→(∀x∈t.args,Ty.Ok x)→Ty.Ok t
theorem Ty.Ok.sm {t:Ty} (h:t.Ok):Sm t.args:=by cases h;assumption
theorem Ty.Ok.Eu {t:Ty} (h:t.Ok):∀x∈t.args,x.Ok:=by cases h;assumption
inductive Ty.Wf:Ty→Prop
 | mk {t:Ty}:(t.kind=1→t.args=[])→(∀x∈t.args,Ty.Wf x)→Ty.Wf t
end Go.Ab.Lw
namespace Go.Ab.Lw
open Ev
def bn (sh:Sh):Prop:=∀cs,some cs∈sh→∀v∈cs,∃p,v=AV.pv p
theorem s6 {aE ts:au}:∀{cs:List AV},(∀v∈cs,∃p,v=AV.pv p)→bh aE ts cs=(cs,aE,ts)
 | [],_=>rfl
 | v::r,h=>by
   obtain ⟨p,rfl⟩:=h v (by simp)
   simp only [nq,rX,s6 (cs:=r) (fun v hv=>h v (by simp [hv]))]
theorem bn.norm:∀{sh:Sh},bn sh→∀aE ts,bE aE ts sh=(sh,aE,ts)
 | [],_,_,_=>rfl
 | none::sh,h,aE,ts=>by
   simp only [nr,bn.norm (sh:=sh) (fun cs hc=>h cs (by simp [hc]))]
 | some cs::sh,h,aE,ts=>by
   simp only [nu,s6 (h cs (by simp)),bn.norm (sh:=sh) (fun cs hc=>h cs (by simp [hc]))]
theorem o7 {n:Nat}:∀{cs:List AV},(∀v∈cs,∃p,v=AV.pv p)→cs.map (bS n)=cs
 | [],_=>rfl
 | v::r,h=>by
   obtain ⟨p,rfl⟩:=h v (by simp)
   simp only [List.map_cons,oR,o7 (cs:=r) (fun v hv=>h v (by simp [hv]))]
theorem bn.shift:∀{sh:Sh},bn sh→∀n,eu n sh=sh
 | [],_,_=>rfl
 | none::sh,h,n=>by
   simp only [l9,bn.shift (sh:=sh) (fun cs hc=>h cs (by simp [hc]))]
 | some cs::sh,h,n=>by
   simp only [l_,o7 (h cs (by simp)),bn.shift (sh:=sh) (fun cs hc=>h cs (by simp [hc]))]
theorem bn.app {a b:Sh} (ha:bn a) (hb:bn b):bn (a++b):=by
 intro cs hc
 simp only [List.mem_append] at hc
 rcases hc with hc | hc
 · exact ha cs hc
 · exact hb cs hc
theorem bn.one {cs:List AV} (h:∀v∈cs,∃p,v=AV.pv p):bn [some cs]:=by
 intro cs' hc
 simp at hc
 subst hc
 exact h
theorem e9 {l:List AV} (h:∀v∈l,∃p,v=.pv p):cA l=false:=by
 cases l with
 | nil=>rfl
 | cons c r=>obtain ⟨p,rfl⟩:=h c (by simp);rfl
end Go.Ab.Lw
namespace Go.Ab.Lw
open Ev
noncomputable instance:DecidableEq As:=fun _ _=>Classical.propDecidable _
end Go.Ab.Lw
namespace Go.Ab.Lw
open Ev
def cH {α:Type} (p:α→Bool):List α→Option Nat
 | []=>none
 | a::r=>if p a=true then some 0 else (cH p r).map (·+1)
theorem lz {α:Type} {p:α→Bool}:∀{l:List α},cH p l=none↔∀x∈l,p x=false
 | []=>by simp [cH]
 | a::r=>by
   simp only [cH]
   by_cases h:p a=true
   · simp [h]
   · have h:p a=false:=by simpa using h
     simp [h,lz]
end Go.Ab.Lw
namespace Go.Ab.Lw
open Ev
structure El {α:Type} (f:α→PV) (sz:Nat) (ag:Bool):Prop where
 len:∀x,(aU (f x)).length=sz
 of:∀x,ca ag sz (aU (f x))=some (.pv (f x))
theorem El.head {α:Type} {f:α→PV} {sz:Nat} {ag:Bool} (h:El f sz ag) (l:List α):bu sz (l.map f)=true:=by
 cases l with
 | nil=>rfl
 | cons x r=>simp [bu,h.len x]
theorem CS:El PV.str 1 false:=⟨fun _=>rfl,fun _=>rfl⟩
theorem Hi:El Dt.pv 4 true:=⟨fun x=>by simp,fun x=>by simp⟩
def CT (sz:Nat) (ag:Bool):aw:=
 (.seq
  (.ah [⟨some 9,none,[.t 8,.t 7],.v (.bin .lss)⟩] [0,1,7,8,9])
  (.seq
   (.cond (.t 9)
    .skip
    (.exit 0))
   (.seq
    (.block 1
     (.seq
      (.ah [⟨some 10,none,[.t 8],.v (.mv)⟩,
        ⟨some 5,none,[.t 10],.v (.mv)⟩] [0,1,5,7,8])
      (.seq
       (.ah [⟨some 11,none,[.t 1],.v (.mv)⟩,
         ⟨some 12,none,[.t 0],.v (.mv)⟩,
         ⟨some 13,none,[.t 5],.v (.mv)⟩,
         ⟨some 14,none,[.t 12,.t 13],.v (.aH sz)⟩,
         ⟨some 15,none,[.t 14],.aR sz ag⟩,
         ⟨some 16,none,[.t 11,.t 15],.eB⟩] [0,1,5,7,8,16])
       (.cond (.t 16)
        (.seq
         (.ah [⟨some 17,none,[.t 5],.v (.mv)⟩,
           ⟨some 4,none,[.t 17],.v (.mv)⟩] [4])
         .ret)
        .skip))))
    (.ah [⟨some 18,none,[.t 8,.c (.pv (.int .i64 1))],.v (.bin .add)⟩,
      ⟨some 8,none,[.t 18],.v (.mv)⟩] [0,1,7,8]))))
def Ew (sz:Nat) (ag:Bool):aw:=.loop [0,1,7,8] (CT sz ag)
theorem xy {sz:Nat} {ag:Bool} {st:St}:cl AP (Ew sz ag) st=after (cl AP (Ew sz ag)) (cl AP (CT sz ag) (norm (restrict [0,1,7,8] st))):=aG
def Ey (sz:Nat) (ag:Bool):aC:=⟨2,19,[.t 4],
 (.seq
  (.ah [⟨some 4,none,[.c (.pv (.int .i64 0))],.v (.mv)⟩] [0,1])
  (.seq
   (.seq
    (.ah [⟨some 6,none,[.t 0],.v (.mv)⟩,
      ⟨some 7,none,[.t 6],.v (.len)⟩,
      ⟨some 8,none,[.c (.pv (.int .i64 0))],.v (.mv)⟩] [0,1,7,8])
    (.block 0
     (Ew sz ag)))
   (.seq
    (.ah [⟨some 4,none,[.c (.pv (.int .i64 (-1)))],.v (.mv)⟩] [4])
    .ret))),none,false⟩
def Gc {α:Type} (F:AV) (sh:Sh) (f:α→PV) (p:α→Bool) (s:List α):Prop:=∀x∈s,exec (aW AP) .eB [F,.pv (f x)] none sh []=some ⟨.pv (.bool (p x)),none,sh,[]⟩
def AD {α:Type} (f:α→PV) (F:AV) (s:List α) (sh:Sh) (i:Nat):Option Nat→Option (aO×St)
 | some k=>some (.ret,⟨[(4,.pv (vI (i+k:Nat)))],[],sh,[]⟩)
 | none=>some (.exit 0,⟨[(0,.pv (.aI (s.map f))),(1,F),(7,.pv (vI s.length)),(8,.pv (vI s.length)),(9,.pv (.bool false))],[],sh,[]⟩)
theorem Hj {α:Type} {f:α→PV} {sz:Nat} {ag:Bool} (he:El f sz ag) {s:List α} (hS:Sm s) {sh:Sh} (hq:bn sh) {g:Nat} {cap:List AV} {p:α→Bool} (hcap:bg.dr cap=true)
   (hf:Gc (.fn g cap) sh f p s):∀(n i:Nat),s.length-i=n→i≤s.length →
   cl AP (Ew sz ag) ⟨[(0,.pv (.aI (s.map f))),(1,.fn g cap),(7,.pv (vI s.length)),(8,.pv (vI i))],[],sh,[]⟩=AD f (.fn g cap) s sh i (cH p (s.drop i))
 | 0,i,hn,hi=>by
   have:i=s.length:=by omega
   subst this
   rw [xy]
   simp [CT,cH,AD,hq.norm,hcap]
 | n+1,i,hn,hi=>by
   have hi:i<s.length:=by omega
   obtain ⟨x,hx⟩:=cE hi
   unfold Sm at hS
   have ih:=Hj he hS hq hcap hf n (i+1) (by omega) (by omega)
   simp at ih
   have hc:=hf x (eE hx)
   rw [xy,dh hx]
   cases e:p x with
   | true=>
     rw [e] at hc
     simp (disch:=omega) [-getElem?_pos,-gG,CT,hx,hi,e,cH,AD,hq.norm,hc,hcap,he.len,he.of]
   | false=>
     rw [e] at hc
     simp (disch:=omega) [-getElem?_pos,-gG,CT,hx,hi,e,cH,aL,hq.norm,hc,ih,hcap,he.len,he.of]
     cases cH p (s.drop (i+1)) with
     | none=>rfl
     | some k=>simp [AD];omega
def lA (o:Option Nat):Int:=match o with | some k=>k | none=>-1
theorem H4 {α:Type} {f:α→PV} {sz:Nat} {ag:Bool} (he:El f sz ag) {k:Nat} (hk:AP k=some (Ey sz ag)) {s:List α} (hS:Sm s) {sh:Sh} (hq:bn sh) {g:Nat} {cap:List AV} {p:α→Bool} (hcap:bg.dr cap=true)
   (hf:Gc (.fn g cap) sh f p s):(aW AP).i k [.pv (.aI (s.map f)),.fn g cap] sh []=some ([.pv (vI (lA (cH p s)))],sh,[]):=by
 have h:=Hj he hS hq hcap hf _ 0 rfl (by omega)
 simp at h
 rw [aZ hk (by simp [Ey])]
 cases hi:cH p s with
 | none=>rw [hi] at h;simp [AD] at h;simp [Ey,h,hq.norm,hcap,lA]
 | some k=>rw [hi] at h;simp [AD] at h;simp [Ey,h,hq.norm,hcap,lA]
theorem s7 {α:Type} {p:α→Bool} {s:List α}:decide (0≤lA (cH p s))=s.any p:=by
 cases hi:cH p s with
 | none=>
   have:s.any p=false:=by rw [List.any_eq_false];intro x hx;rw [lz.1 hi x hx];simp
   rw [this];rfl
 | some k=>
   have:s.any p=true:=by
     cases e:s.any p with
     | true=>rfl
     | false=>rw [List.any_eq_false] at e;have:=lz.2 (fun x hx=>by simpa using e x hx);rw [hi] at this;cases this
   rw [this];simp [lA]
end Go.Ab.Lw
namespace Go.Ab.Lw
open Ev
def wX (f:St→Option (aO×St)) (live:List Nat) (pi px sz:Nat) (ag:Bool) (env:List (Nat×AV)) (r:List (PV×Nat)):Option (aO×St)→Option (aO×St)
 | some (.normal,st')=>gm f live pi px sz ag env r st'
 | some (e,st')=>some (e,{ st' with env:=env })
 | none=>none
@[simp] theorem De {f:St→Option (aO×St)} {live:List Nat} {pi px sz:Nat} {ag:Bool} {env:List (Nat×AV)} {r:List (PV×Nat)} {st:St}:wX f live pi px sz ag env r (some (.normal,st))=gm f live pi px sz ag env r st:=rfl
@[simp] theorem Gd {f:St→Option (aO×St)} {live:List Nat} {pi px sz:Nat} {ag:Bool} {env e:List (Nat×AV)} {r:List (PV×Nat)} {mem:List (Nat×List AV)} {sh:Sh} {aa:au}:wX f live pi px sz ag env r (some (.ret,⟨e,mem,sh,aa⟩))=some (.ret,⟨env,mem,sh,aa⟩):=rfl
@[simp] theorem Ff {f:St→Option (aO×St)} {live:List Nat} {pi px sz:Nat} {ag:Bool} {env e:List (Nat×AV)} {r:List (PV×Nat)} {mem:List (Nat×List AV)} {sh:Sh} {aa:au} {id:Nat}:wX f live pi px sz ag env r (some (.exit id,⟨e,mem,sh,aa⟩))=some (.exit id,⟨env,mem,sh,aa⟩):=rfl
@[simp] theorem Gx {f:St→Option (aO×St)} {live:List Nat} {pi px sz:Nat} {ag:Bool} {env e:List (Nat×AV)} {mem:List (Nat×List AV)} {sh:Sh} {aa:au}:gm f live pi px sz ag env [] ⟨e,mem,sh,aa⟩=some (.normal,⟨env,mem,sh,aa⟩):=rfl
def H5 (g:St→Option (aO×St)):Option (aO×St)→Option (aO×St)
 | some (.normal,st')=>g st'
 | _=>none
@[simp] theorem Fg {g:St→Option (aO×St)} {st:St}:H5 g (some (.normal,st))=g st:=rfl
end Go.Ab.Lw
namespace Go.Ab.Lw
open Ev
inductive Ty.Nm:Ty→Prop
 | mk {t:Ty}:Ir t.name→(∀x∈t.args,Ty.Nm x)→Ty.Nm t
end Go.Ab.Lw
namespace Go.Ab.Lw
open Ev
abbrev Sc:=As
structure En where
 name:List UInt8
 sc:Sc
 deriving Inhabited
def En.pv (a:En):PV:=.agg [.str a.name,.int .i64 a.sc.id,.int .i64 a.sc.ty.kind,.str a.sc.ty.name,.int .i64 a.sc.ty.id,.int .i64 a.sc.ty.home,.aI (a.sc.ty.args.map Ty.pv)]
@[simp] theorem En.o6 (a:En):a.pv=.agg [.str a.name,.int .i64 a.sc.id,.int .i64 a.sc.ty.kind,.str a.sc.ty.name,.int .i64 a.sc.ty.id,.int .i64 a.sc.ty.home,.aI (a.sc.ty.args.map Ty.pv)]:=rfl
@[simp] theorem En.eta (t:En):En.mk t.name t.sc=t:=rfl
noncomputable instance:DecidableEq En:=fun _ _=>Classical.propDecidable _
end Go.Ab.Lw
namespace Go.Ab.Lw
open Ev
structure Gy {α:Type} (f:α→PV) (cs:α→List PV) (sz:Nat):Prop where
 eq:∀x,f x=.agg (cs x)
 len:∀x,(cs x).length=sz
 leaf:∀x,((cs x).map AV.pv).all aP=true
def Hk (z1 z2:List PV) (s1 s2:Nat):aw:=
 (.seq
  (.ah [⟨some 18,none,[.t 17,.t 16],.v (.bin .lss)⟩] [1,2,15,16,17,18])
  (.seq
   (.cond (.t 18)
    .skip
    (.exit 0))
   (.seq
    (.block 1
     (.seq
      (.ah [⟨some 19,none,[.t 17],.v (.mv)⟩,
        ⟨some 20,none,[.t 15,.t 17],.v (.aH s1)⟩,
        ⟨some 21,none,[.t 20],.aR s1 true⟩,
        ⟨some 8,none,[],.alloc 8 z1⟩,
        ⟨some 7,none,[.t 19],.v (.mv)⟩,
        ⟨none,none,[.t 8,.t 21],.d4 8 0 s1⟩] [1,2,7,8,15,16,17])
      (.seq
       (.ah [⟨some 22,none,[.t 1],.v (.mv)⟩,
         ⟨some 23,none,[.t 7],.v (.mv)⟩,
         ⟨some 24,none,[.t 22,.t 23],.v (.aH s2)⟩,
         ⟨some 25,none,[.t 24],.aR s2 true⟩,
         ⟨some 9,none,[],.alloc 9 z2⟩,
         ⟨none,none,[.t 9,.t 25],.d4 9 0 s2⟩] [1,2,8,9,15,16,17])
       (.seq
        (.ah [⟨some 26,none,[.t 2],.v (.mv)⟩,
          ⟨some 27,none,[.t 8],.de 8 0 s1 true⟩,
          ⟨some 28,none,[.t 9],.de 9 0 s2 true⟩,
          ⟨some 29,none,[.t 26,.t 27,.t 28],.eB⟩,
          ⟨some 30,none,[.t 29],.v (.un .not)⟩] [1,2,15,16,17,30])
        (.cond (.t 30)
         (.seq
          (.ah [⟨some 6,none,[.c (.pv (.bool false))],.v (.mv)⟩] [6])
          .ret)
         .skip)))))
    (.ah [⟨some 31,none,[.t 17,.c (.pv (.int .i64 1))],.v (.bin .add)⟩,
      ⟨some 17,none,[.t 31],.v (.mv)⟩] [1,2,15,16,17]))))
def HT (z1 z2:List PV) (s1 s2:Nat):aw:=.loop [1,2,15,16,17] (Hk z1 z2 s1 s2)
theorem CU {z1 z2:List PV} {s1 s2:Nat} {st:St}:cl AP (HT z1 z2 s1 s2) st=after (cl AP (HT z1 z2 s1 s2)) (cl AP (Hk z1 z2 s1 s2) (norm (restrict [1,2,15,16,17] st))):=aG
def Hl (z1 z2:List PV) (s1 s2:Nat):aC:=⟨3,32,[.t 6],
 (.seq
  (.ah [⟨some 6,none,[.c (.pv (.bool false))],.v (.mv)⟩] [0,1,2])
  (.seq
   (.seq
    (.ah [⟨some 10,none,[.t 0],.v (.mv)⟩,
      ⟨some 11,none,[.t 10],.v (.len)⟩,
      ⟨some 12,none,[.t 1],.v (.mv)⟩,
      ⟨some 13,none,[.t 12],.v (.len)⟩,
      ⟨some 14,none,[.t 11,.t 13],.v (.bin .neq)⟩] [0,1,2,14])
    (.cond (.t 14)
     (.seq
      (.ah [⟨some 6,none,[.c (.pv (.bool false))],.v (.mv)⟩] [6])
      .ret)
     .skip))
   (.seq
    (.seq
     (.ah [⟨some 15,none,[.t 0],.v (.mv)⟩,
       ⟨some 16,none,[.t 15],.v (.len)⟩,
       ⟨some 17,none,[.c (.pv (.int .i64 0))],.v (.mv)⟩] [1,2,15,16,17])
     (.block 0
      (HT z1 z2 s1 s2)))
    (.seq
     (.ah [⟨some 6,none,[.c (.pv (.bool true))],.v (.mv)⟩] [6])
     .ret)))),none,false⟩
def CV {α β:Type} (F:AV) (sh:Sh) (c:α→List PV) (d:β→List PV) (p:α→β→Bool) (s:List α):Prop:=
 ∀x∈s,∀y,exec (aW AP) .eB [F,.agg ((c x).map .pv),.agg ((d y).map .pv)] none sh []=some ⟨.pv (.bool (p x y)),none,sh,[]⟩
def iT {α β:Type} (p:α→β→Bool):List α→List β→Bool
 | [],[]=>true
 | x::r,y::t=>p x y && iT p r t
 | _,_=>false
theorem s8 {α β:Type} {p:α→β→Bool}:∀{a:List α} {b:List β},iT p a b=true→a.length=b.length
 | [],[],_=>rfl
 | x::r,y::t,h=>by simp only [iT,Bool.and_eq_true] at h;simp [s8 h.2]
 | [],_::_,h=>by simp [iT] at h
 | _::_,[],h=>by simp [iT] at h
def Hm {α β:Type} (f:α→PV) (g:β→PV) (F:AV) (a:List α) (b:List β) (sh:Sh) (t:Bool):Option (aO×St):=
 if t=true then some (.exit 0,⟨[(1,.pv (.aI (b.map g))),(2,F),(15,.pv (.aI (a.map f))),(16,.pv (vI a.length)),(17,.pv (vI a.length)),(18,.pv (.bool false))],[],sh,[]⟩)
 else some (.ret,⟨[(6,.pv (.bool false))],[],sh,[]⟩)
theorem Ih {α β:Type} {f:α→PV} {g:β→PV} {c:α→List PV} {d:β→List PV} {s1 s2:Nat} (hf:Gy f c s1) (hg:Gy g d s2) {z1 z2:List PV} (h1:z1.length=s1) (h2:z2.length=s2) {a:List α} {b:List β} (hS:Sm a) (hl:a.length=b.length)
   {sh:Sh} (hq:bn sh) {k:Nat} {cap:List AV} {p:α→β→Bool} (hcap:bg.dr cap=true) (hp:CV (.fn k cap) sh c d p a):∀(n i:Nat),a.length-i=n→i≤a.length →
   cl AP (HT z1 z2 s1 s2) ⟨[(1,.pv (.aI (b.map g))),(2,.fn k cap),(15,.pv (.aI (a.map f))),(16,.pv (vI a.length)),(17,.pv (vI i))],[],sh,[]⟩=Hm f g (.fn k cap) a b sh (iT p (a.drop i) (b.drop i))
 | 0,i,hn,hi=>by
   have:i=a.length:=by omega
   subst this
   rw [CU,nM (l:=b) (by omega),nM (l:=a) (by omega)]
   simp [Hk,Hm,iT,hq.norm,hcap]
 | n+1,i,hn,hi=>by
   have hi:i<a.length:=by omega
   obtain ⟨x,hx⟩:=cE hi
   obtain ⟨y,hy⟩:=cE (hl ▸ hi)
   unfold Sm at hS
   have ih:=Ih hf hg h1 h2 hS hl hq hcap hp n (i+1) (by omega) (by omega)
   simp at ih
   have hc:=hp x (eE hx) y
   rw [CU,dh hx,dh hy]
   have u1:=hf.len x
   have u2:=hg.len y
   have e1:(z1.map bq.zeroCell).drop s1=[]:=by rw [List.drop_eq_nil_of_le];simp [h1]
   have e2:(z2.map bq.zeroCell).drop s2=[]:=by rw [List.drop_eq_nil_of_le];simp [h2]
   have t1:((c x).map AV.pv).take s1=(c x).map AV.pv:=by rw [List.take_of_length_le];simp [u1]
   have t2:((d y).map AV.pv).take s2=(d y).map AV.pv:=by rw [List.take_of_length_le];simp [u2]
   have q1:(c x).take s1=c x:=by rw [List.take_of_length_le];omega
   have q2:(d y).take s2=d y:=by rw [List.take_of_length_le];omega
   have w1:=hf.leaf x
   have w2:=hg.leaf y
   cases e:p x y with
   | true=>
     rw [e] at hc
     simp (disch:=omega) [-getElem?_pos,-gG,-List.all_map,-List.map_take,-List.map_drop,-List.map_eq_nil_iff,Hk,hx,hy,hi,e,iT,aL,hq.norm,hc,ih,hcap,hf.eq,hg.eq,u1,u2,h1,h2,e1,e2,t1,t2,q1,q2,w1,w2]
   | false=>
     rw [e] at hc
     simp (disch:=omega) [-getElem?_pos,-gG,-List.all_map,-List.map_take,-List.map_drop,-List.map_eq_nil_iff,Hk,hx,hy,hi,e,iT,Hm,hq.norm,hc,hcap,hf.eq,hg.eq,u1,u2,h1,h2,e1,e2,t1,t2,q1,q2,w1,w2]
theorem Is {α β:Type} {f:α→PV} {g:β→PV} {c:α→List PV} {d:β→List PV} {s1 s2:Nat} (hf:Gy f c s1) (hg:Gy g d s2) {z1 z2:List PV} (h1:z1.length=s1) (h2:z2.length=s2) {m:Nat} (hm:AP m=some (Hl z1 z2 s1 s2)) {a:List α} {b:List β} (hS:Sm a)
   {sh:Sh} (hq:bn sh) {k:Nat} {cap:List AV} {p:α→β→Bool} (hcap:bg.dr cap=true) (hp:CV (.fn k cap) sh c d p a) :
   (aW AP).i m [.pv (.aI (a.map f)),.pv (.aI (b.map g)),.fn k cap] sh []=some ([.pv (.bool (iT p a b))],sh,[]):=by
 rw [aZ hm (by simp [Hl])]
 by_cases hl:a.length=b.length
 · have h:=Ih hf hg h1 h2 hS hl hq hcap hp _ 0 rfl (by omega)
   simp at h
   cases e:iT p a b with
   | true=>rw [e] at h;simp [Hm] at h;simp [Hl,h,hq.norm,hcap,hl.symm]
   | false=>rw [e] at h;simp [Hm] at h;simp [Hl,h,hq.norm,hcap,hl.symm]
 · have e:iT p a b=false:=by
     cases e:iT p a b with
     | true=>exact absurd (s8 e) hl
     | false=>rfl
   simp [Hl,hq.norm,hcap,hl,e]
   omega
end Go.Ab.Lw
namespace Go.Ab.Lw
section
variable {P:Program} {n:Nat} {t e:TypeId} {p:PV}
theorem mE (hu:P.underlying t=some (.int .i64)) (h:oW P n t p):∃i,p=vI i:=by
 cases n with
 | zero=>simp [oW] at h
 | succ n=>simp only [oW,hu] at h;obtain ⟨i,rfl,_⟩:=h;exact ⟨i,rfl⟩
theorem CW {α:Type} {f:α→PV} (hu:P.underlying t=some (.slice e)) (he:∀(m:Nat) (q:PV),oW P m e q→∃x,q=f x) (h:oW P n t p):∃l:List α,p=.aI (l.map f):=by
 cases n with
 | zero=>simp [oW] at h
 | succ n=>
   simp only [oW,hu] at h
   obtain ⟨els,rfl,_,h⟩:=h
   have key:∀els:List PV,(∀q∈els,oW P n e q)→∃l:List α,els=l.map f:=by
     intro els
     induction els with
     | nil=>intro _;exact ⟨[],rfl⟩
     | cons q r ih=>
       intro h
       obtain ⟨x,rfl⟩:=he n q (h q (by simp))
       obtain ⟨l,rfl⟩:=ih (fun q hq=>h q (by simp [hq]))
       exact ⟨x::l,rfl⟩
   obtain ⟨l,rfl⟩:=key els h
   exact ⟨l,rfl⟩
theorem s9 (hu:P.underlying t=some (.slice e)) (he:P.underlying e=some (.int .i64)) (h:oW P n t p):∃L:List Int,p=.aI (L.map vI):=
 CW hu (fun _ _ h=>mE he h) h
end
end Go.Ab.Lw
namespace Go.Ab.Lw
open Ev
def Hn:aw:=
 (.seq
  (.ah [⟨some 9,none,[.t 8,.t 7],.v (.bin .lss)⟩] [0,1,7,8,9])
  (.seq
   (.cond (.t 9)
    .skip
    (.exit 0))
   (.seq
    (.block 1
     (.seq
      (.ah [⟨some 10,none,[.t 8],.v (.mv)⟩,
        ⟨some 5,none,[.t 10],.v (.mv)⟩] [0,1,5,7,8])
      (.seq
       (.ah [⟨some 11,none,[.t 1],.v (.mv)⟩,
         ⟨some 12,none,[.t 0],.v (.mv)⟩,
         ⟨some 13,none,[.t 5],.v (.mv)⟩,
         ⟨some 14,none,[.t 12,.t 13],.v (.aH 1)⟩,
         ⟨some 15,none,[.t 14],.v (.aS 1 false)⟩,
         ⟨some 16,none,[.t 11,.t 15],.v (.bin .eql)⟩] [0,1,5,7,8,16])
       (.cond (.t 16)
        (.seq
         (.ah [⟨some 17,none,[.t 5],.v (.mv)⟩,
           ⟨some 4,none,[.t 17],.v (.mv)⟩] [4])
         .ret)
        .skip))))
    (.ah [⟨some 18,none,[.t 8,.c (.pv (.int .i64 1))],.v (.bin .add)⟩,
      ⟨some 8,none,[.t 18],.v (.mv)⟩] [0,1,7,8]))))
def HU:aw:=.loop [0,1,7,8] Hn
theorem CX {st:St}:cl AP HU st=after (cl AP HU) (cl AP Hn (norm (restrict [0,1,7,8] st))):=aG
def Ho:aC:=⟨2,19,[.t 4],
 (.seq
  (.ah [⟨some 4,none,[.c (.pv (.int .i64 0))],.v (.mv)⟩] [0,1])
  (.seq
   (.seq
    (.ah [⟨some 6,none,[.t 0],.v (.mv)⟩,
      ⟨some 7,none,[.t 6],.v (.len)⟩,
      ⟨some 8,none,[.c (.pv (.int .i64 0))],.v (.mv)⟩] [0,1,7,8])
    (.block 0
     HU))
   (.seq
    (.ah [⟨some 4,none,[.c (.pv (.int .i64 (-1)))],.v (.mv)⟩] [4])
    .ret))),none,false⟩
def H6 (g:Nat):aC:=⟨2,9,[.t 4],
 (.seq
  (.ah [⟨some 4,none,[.c (.pv (.bool false))],.v (.mv)⟩] [0,1])
  (.seq
   (.ah [⟨some 5,none,[.t 0],.v (.mv)⟩,
     ⟨some 6,none,[.t 1],.v (.mv)⟩,
     ⟨some 7,none,[.t 5,.t 6],.aB g⟩,
     ⟨some 8,none,[.t 7,.c (.pv (.int .i64 0))],.v (.bin .geq)⟩,
     ⟨some 4,none,[.t 8],.v (.mv)⟩] [4])
   .ret)),none,false⟩
structure HV {α:Type} [DecidableEq α] (f:α→PV):Prop where
 el:El f 1 false
 eq:∀x y,bq (.bin .eql) [.pv (f x),.pv (f y)]=some (.pv (.bool (decide (x=y))))
theorem Ez:HV PV.str:=⟨CS,fun x y=>by simp;rw [Bool.eq_iff_iff];simp⟩
def Gz {α:Type} (f:α→PV) (s:List α) (y:α) (i:Nat):Option Nat→Option (aO×St)
 | some k=>some (.ret,⟨[(4,.pv (vI (i+k:Nat)))],[],[],[]⟩)
 | none=>some (.exit 0,⟨[(0,.pv (.aI (s.map f))),(1,.pv (f y)),(7,.pv (vI s.length)),(8,.pv (vI s.length)),(9,.pv (.bool false))],[],[],[]⟩)
theorem Ii {α:Type} [DecidableEq α] {f:α→PV} (he:HV f) {s:List α} (hS:Sm s) (y:α):∀(n i:Nat),s.length-i=n→i≤s.length →
   cl AP HU ⟨[(0,.pv (.aI (s.map f))),(1,.pv (f y)),(7,.pv (vI s.length)),(8,.pv (vI i))],[],[],[]⟩=Gz f s y i (cH (fun x=>decide (y=x)) (s.drop i))
 | 0,i,hn,hi=>by
   have:i=s.length:=by omega
   subst this
   rw [CX]
   simp [Hn,cH,Gz]
 | n+1,i,hn,hi=>by
   have hi:i<s.length:=by omega
   obtain ⟨x,hx⟩:=cE hi
   unfold Sm at hS
   have ih:=Ii he hS y n (i+1) (by omega) (by omega)
   simp at ih
   have h1:=he.el.len x
   have h2:=he.el.of x
   have h3:=he.eq y x
   rw [CX,dh hx]
   by_cases e:y=x
   · rw [decide_eq_true e] at h3
     simp (disch:=omega) [-getElem?_pos,Hn,hx,hi,e,cH,Gz,h1,h2]
     rw [←e] at h3 ⊢
     simp [h3]
   · rw [decide_eq_false e] at h3
     simp (disch:=omega) [-getElem?_pos,Hn,hx,hi,e,cH,aL,ih,h1,h2,h3]
     cases cH (fun x=>decide (y=x)) (s.drop (i+1)) with
     | none=>rfl
     | some k=>simp [Gz];omega
theorem Iu {α:Type} [DecidableEq α] {f:α→PV} (he:HV f) {k:Nat} (hk:AP k=some Ho) {s:List α} (hS:Sm s) {y:α}:(aW AP).p k [.aI (s.map f),f y]=some [vI (lA (cH (fun x=>decide (y=x)) s))]:=by
 have h:=Ii he hS y _ 0 rfl (by omega)
 simp at h
 rw [aJ hk rfl (by simp [Ho])]
 cases hi:cH (fun x=>decide (y=x)) s with
 | none=>rw [hi] at h;simp [Gz] at h;simp [Ho,h,lA]
 | some k=>rw [hi] at h;simp [Gz] at h;simp [Ho,h,lA]
theorem EA {α:Type} [DecidableEq α] {s:List α} {y:α}:(s.any fun x=>decide (y=x))=decide (y∈s):=by
 rw [Bool.eq_iff_iff];simp
theorem Iv {α:Type} [DecidableEq α] {f:α→PV} (he:HV f) {m k:Nat} (hm:AP m=some (H6 k)) (hk:AP k=some Ho) {s:List α} (hS:Sm s) {y:α}:(aW AP).p m [.aI (s.map f),f y]=some [.bool (decide (y∈s))]:=by
 have h:=Iu he hk hS (y:=y)
 rw [aJ hm rfl (by simp [H6]),←EA,←s7]
 simp [H6,h]
mutual
def Ty.nodes:Ty→List Ty
 | ⟨k,n,i,h,as⟩=>⟨k,n,i,h,as⟩::Ty.CY as
def Ty.CY:List Ty→List Ty
 | []=>[]
 | a::r=>a.nodes++Ty.CY r
end
def H7 (out:List Int) (x:Ty):List Int:=if x.kind=1∧x.id∉out then out++[x.id] else out
def vars (l:List Ty):List Int:=(l.flatMap Ty.nodes).foldl H7 []
end Go.Ab.Lw
namespace Go.Ab.Lw
open Ev
def varNames:List (List UInt8):=[[120],[121],[122],[102],[103],[118,49],[118,50],[105,100]]
theorem c175 {L:List Int} (hL:Sm L) {i:Nat} (hi:i≤L.length):∃(s:List UInt8) (j:Nat),(aW AP).i 175 [.ba 0 0] (tp L i) []=some ([.pv (.str s)],tp L j,[])∧s∈varNames∧j≤L.length:=by
 obtain ⟨k,j,e,k0,k8,hj⟩:=c68 hL hi (n:=8) (by omega) (by omega)
 obtain ⟨m,rfl,hm⟩:=wW (n:=varNames.length) k0 (by simpa [varNames] using k8)
 obtain ⟨s,hs⟩:=cE hm
 refine ⟨s,j,?_,eE hs,hj⟩
 simp at e
 rw [aZ (af:=g175) rfl (by simp [g175])]
 have hs':([PV.str [120],.str [121],.str [122],.str [102],.str [103],.str [118,49],.str [118,50],.str [105,100]]:List PV)[m]?=some (.str s):=by
   have:([PV.str [120],.str [121],.str [122],.str [102],.str [103],.str [118,49],.str [118,50],.str [105,100]]:List PV)=varNames.map PV.str:=rfl
   rw [this];simp [hs]
 simp [-getElem?_pos,g175,e,hs']
end Go.Ab.Lw
namespace Go.Ab.Lw
open Ev
theorem mF {t:Ty} (h:t.args=[]):t.Ok:=⟨by rw [h];simp [Sm],by rw [h];simp⟩
end Go.Ab.Lw
namespace Go.Ab.Lw
open Ev
inductive fj (D:Dt→Prop) (lv:List Ty):Nat→Ty→Prop
 | leaf {n:Nat} {t:Ty}:t∈lv→fj D lv n t
 | int {n:Nat}:fj D lv n jj
 | dZ {n:Nat} {d:Dt} {args:List Ty}:D d→args.length=d.params.length→(∀x∈args,fj D lv n x)→fj D lv (n+1) ⟨4,d.name,0,0,args⟩
 | arrow {n:Nat} {a b:Ty}:fj D lv n a→fj D lv n b→fj D lv (n+1) ⟨4,[45,62],0,0,[a,b]⟩
def nN (L:List Int) (ds:List Dt) (lv:List Ty) (dep:Nat):Prop:=∀i:Nat,i≤L.length→∃(t:Ty) (j:Nat),
 (aW AP).i 27 [.ba 0 0,.pv (.aI (ds.map Dt.pv)),.pv (.aI (lv.map Ty.pv)),.pv (vI dep)] (tp L i) []=some ([t.av],tp L j,[])∧fj (·∈ds) lv dep t∧j≤L.length
theorem Hp {L:List Int} {ds:List Dt} {lv:List Ty} {dep:Nat} (hdep:dep<1000) (hg:nN L ds lv dep) {d:Dt} (hS:Sm d.params):∀(n k:Nat),d.params.length-k=n→k≤d.params.length→∀(acc:List Ty) (i:Nat),acc.length=k→(∀x∈acc,fj (·∈ds) lv dep x)→i≤L.length →
   ∃(r:List Ty) (j:Nat),cl AP g27L0 ⟨[(0,.ba 0 0),(1,.pv (.aI (ds.map Dt.pv))),(2,.pv (.aI (lv.map Ty.pv))),(3,.pv (vI (dep+1))),(8,.aT 8 0),(10,.aT 10 0),(11,.own (acc.map Ty.pv) 0),(12,.pv (vI k))],
     [(8,[.pv (vI 0),.pv (.str []),.pv (vI 0),.pv (vI 0),.own [] 1]),(10,[.pv (vI d.pos),.pv (.str d.name),.pv (.aI (d.params.map .str)),.pv (.aI (d.cons.map iL.pv))])],tp L i,[acc.length,0]⟩ =
     some (.exit 1,⟨[(0,.ba 0 0),(1,.pv (.aI (ds.map Dt.pv))),(2,.pv (.aI (lv.map Ty.pv))),(3,.pv (vI (dep+1))),(8,.aT 8 0),(10,.aT 10 0),(11,.own (r.map Ty.pv) 0),(12,.pv (vI d.params.length)),(65,.pv (.bool false))],
     [(8,[.pv (vI 0),.pv (.str []),.pv (vI 0),.pv (vI 0),.own [] 1]),(10,[.pv (vI d.pos),.pv (.str d.name),.pv (.aI (d.params.map .str)),.pv (.aI (d.cons.map iL.pv))])],tp L j,[r.length,0]⟩) ∧
     r.length=d.params.length∧(∀x∈r,fj (·∈ds) lv dep x)∧j≤L.length
 | 0,k,hn,hk,acc,i,ha,hm,hi=>by
   have:k=d.params.length:=by omega
   subst this
   refine ⟨acc,i,?_,ha,hm,hi⟩
   rw [g27L0e]
   simp [g27B0]
 | n+1,k,hn,hk,acc,i,ha,hm,hi=>by
   unfold Sm at hS
   have hk:k<d.params.length:=by omega
   have hb:(acc.length+1)*64≤140737488355328:=by omega
   obtain ⟨t,j,e,mt,hj⟩:=hg i hi
   simp at e
   obtain ⟨r,j',e',hr,hm',hj'⟩:=Hp hdep hg hS n (k+1) (by omega) (by omega) (acc++[t]) j (by simp;omega) (by
     intro x hx;simp at hx;rcases hx with hx | rfl
     · exact hm x hx
     · exact mt) hj
   simp at e'
   refine ⟨r,j',?_,hr,hm',hj'⟩
   rw [g27L0e]
   have h1:(dep:Int)+1-1=dep:=by omega
   simp (disch:=omega) [-getElem?_pos,g27B0,hk,aL,h1,e,hb]
   rw [e']
theorem g27_0 {L:List Int} (hL:Sm L) {ds:List Dt} {lv:List Ty} (hlv:Sm lv):nN L ds lv 0:=by
 intro i hi
 obtain ⟨k,j1,e1,k0,k7,hj1⟩:=c68 hL hi (n:=7) (by omega) (by omega)
 simp at e1
 unfold Sm at hlv
 by_cases h1:k<3
 · by_cases h2:lv=[]
   · subst h2
     refine ⟨jj,j1,?_,.int,hj1⟩
     have c:=c34
     simp at c
     rw [aZ (af:=g27) rfl (by simp [g27])]
     simp [-getElem?_pos,g27,e1,h1,c,jj]
   · have hp:0<lv.length:=List.length_pos_iff.2 h2
     obtain ⟨r,j2,e2,r0,r1,hj2⟩:=c68 hL hj1 (n:=lv.length) (by omega) (by omega)
     obtain ⟨m,rfl,hm⟩:=wW r0 r1
     obtain ⟨x,hx⟩:=cE hm
     simp at e2
     refine ⟨x,j2,?_,.leaf (eE hx),hj2⟩
     rw [aZ (af:=g27) rfl (by simp [g27])]
     simp [-getElem?_pos,g27,e1,h1,hp,e2,hx]
 · refine ⟨jj,j1,?_,.int,hj1⟩
   have c:=c34
   simp at c
   rw [aZ (af:=g27) rfl (by simp [g27])]
   simp [-getElem?_pos,g27,e1,h1,c,jj]
theorem g27_s {L:List Int} (hL:Sm L) {ds:List Dt} (hds:ds.length≤20) (hda:∀d∈ds,d.params.length≤8) {lv:List Ty} (hlv:Sm lv) {dep:Nat} (hdep:dep<1000) (hg:nN L ds lv dep):nN L ds lv (dep+1):=by
 intro i hi
 obtain ⟨k,j1,e1,k0,k7,hj1⟩:=c68 hL hi (n:=7) (by omega) (by omega)
 simp at e1
 unfold Sm at hlv
 have hd1:¬((dep:Int)+1<1):=by omega
 have hd2:(dep:Int)+1-1=dep:=by omega
 have leafCase:∀h1:k<3,∀h2:¬lv=[],∃(t:Ty) (j:Nat),(aW AP).i 27 [.ba 0 0,.pv (.aI (ds.map Dt.pv)),.pv (.aI (lv.map Ty.pv)),.pv (vI ((dep+1:Nat):Int))] (tp L i) []=some ([t.av],tp L j,[])∧fj (·∈ds) lv (dep+1) t∧j≤L.length:=by
   intro h1 h2
   have hp:0<lv.length:=List.length_pos_iff.2 h2
   obtain ⟨r,j2,e2,r0,r1,hj2⟩:=c68 hL hj1 (n:=lv.length) (by omega) (by omega)
   obtain ⟨m,rfl,hm⟩:=wW r0 r1
   obtain ⟨x,hx⟩:=cE hm
   simp at e2
   refine ⟨x,j2,?_,.leaf (eE hx),hj2⟩
   rw [aZ (af:=g27) rfl (by simp [g27])]
   simp [-getElem?_pos,g27,e1,h1,hp,e2,hx]
 by_cases h1:k<3∧¬lv=[]
 · exact leafCase h1.1 h1.2
 · have h1':¬k<3∨lv=[]:=by
     by_cases h:k<3
     · right;by_cases h':lv=[]
       · exact h'
       · exact absurd ⟨h,h'⟩ h1
     · exact .inl h
   by_cases h2:k<4
   · refine ⟨jj,j1,?_,.int,hj1⟩
     have c:=c34
     simp at c
     rw [aZ (af:=g27) rfl (by simp [g27])]
     rcases h1' with h | h
     · simp [-getElem?_pos,g27,e1,h,h2,c,jj]
     · subst h
       simp [-getElem?_pos,g27,e1,h2,c,jj]
   · have h3:¬k<3:=by omega
     by_cases h4:(k=4∨k=5)∧¬ds=[]
     · obtain ⟨h4,h5⟩:=h4
       have hp:0<ds.length:=List.length_pos_iff.2 h5
       obtain ⟨r,j2,e2,r0,r1,hj2⟩:=c68 hL hj1 (n:=ds.length) (by omega) (by omega)
       obtain ⟨m,rfl,hm⟩:=wW r0 r1
       obtain ⟨d,hx⟩:=cE hm
       simp at e2
       have hdm:=eE hx
       have hps:Sm d.params:=by
         unfold Sm
         have:=hda d hdm
         omega
       obtain ⟨as,j3,e3,ha,hm3,hj3⟩:=Hp hdep hg hps d.params.length 0 rfl (by omega) [] j2 rfl (by simp) hj2
       rw [g27L0e] at e3
       simp at e3
       have hsa:Sm as:=by unfold Sm at hps ⊢;omega
       have c:=c62 (s:=d.name) (l:=as) hsa
       simp at c
       refine ⟨⟨4,d.name,0,0,as⟩,j3,?_,.dZ hdm ha hm3,hj3⟩
       rw [aZ (af:=g27) rfl (by simp [g27])]
       rcases h4 with rfl | rfl
       · simp [-getElem?_pos,g27,e1,hp,hd1,e2,hx,g27L0e,e3,c]
       · simp [-getElem?_pos,g27,e1,hp,hd1,e2,hx,g27L0e,e3,c]
     · obtain ⟨a,j2,ea,ma,hj2⟩:=hg j1 hj1
       obtain ⟨b,j3,eb,mb,hj3⟩:=hg j2 hj2
       simp at ea eb
       have c:=c69 (a:=a) (b:=b)
       simp at c
       refine ⟨⟨4,[45,62],0,0,[a,b]⟩,j3,?_,.arrow ma mb,hj3⟩
       rw [aZ (af:=g27) rfl (by simp [g27])]
       by_cases h5:ds=[]
       · subst h5
         simp at ea eb
         simp (disch:=omega) [-getElem?_pos,g27,e1,h2,h3,hd1,hd2,aL,ea,eb,c]
       · have h6:¬k=4∧¬k=5:=by
           constructor
           · intro h;exact h4 ⟨.inl h,h5⟩
           · intro h;exact h4 ⟨.inr h,h5⟩
         simp (disch:=omega) [-getElem?_pos,g27,e1,h2,h3,h6.1,h6.2,hd1,hd2,aL,ea,eb,c]
theorem Hq {L:List Int} (hL:Sm L) {ds:List Dt} (hds:ds.length≤20) (hda:∀d∈ds,d.params.length≤8) {lv:List Ty} (hlv:Sm lv):∀dep:Nat,dep<1000→nN L ds lv dep
 | 0,_=>g27_0 hL hlv
 | dep+1,h=>g27_s hL hds hda hlv (by omega) (Hq hL hds hda hlv dep (by omega))
theorem fj.ok {D:Dt→Prop} (hD:∀d,D d→d.params.length≤8) {lv:List Ty} (h:∀t∈lv,t.args=[]) {n:Nat} {t:Ty} (m:fj D lv n t):t.Ok:=by
 induction m with
 | leaf hl=>exact mF (h _ hl)
 | int=>exact mF rfl
 | dZ hd hl _ ih=>exact ⟨by have:=hD _ hd;unfold Sm;simp;omega,ih⟩
 | arrow _ _ ha hb=>exact ⟨by simp [Sm],by intro x hx;simp at hx;rcases hx with rfl | rfl<;>assumption⟩
end Go.Ab.Lw
namespace Go.Ab.Lw
open Ev
abbrev eR:=List UInt8
theorem c214 {s:List eR} (hS:Sm s) {y:eR}:(aW AP).p 214 [.aI (s.map .str),.str y]=some [.bool (decide (y∈s))]:=by
 rw [Iv Ez (m:=214) (k:=223) rfl rfl hS]
 simp only [Option.some.injEq,List.cons.injEq,PV.bool.injEq,and_true]
 rw [Bool.eq_iff_iff];simp
theorem Hr {s:List eR} (hS:Sm s) (y:eR):∀(n i:Nat),s.length-i=n→i≤s.length →
   cl AP g216L0 ⟨[(0,.pv (.aI (s.map .str))),(1,.pv (.str y)),(5,.pv (vI i))],[],[],[]⟩ =
     match cH (fun x=>decide (x=y)) (s.drop i) with
     | some k=>some (.ret,⟨[(4,.pv (vI (i+k:Nat)))],[],[],[]⟩)
     | none=>some (.exit 0,⟨[(0,.pv (.aI (s.map .str))),(1,.pv (.str y)),(5,.pv (vI s.length)),(9,.pv (.bool false))],[],[],[]⟩)
 | 0,i,hn,hi=>by
   have:i=s.length:=by omega
   subst this
   rw [g216L0e]
   simp [g216B0,cH]
 | n+1,i,hn,hi=>by
   have hi:i<s.length:=by omega
   obtain ⟨x,hx⟩:=cE hi
   unfold Sm at hS
   have ih:=Hr hS y n (i+1) (by omega) (by omega)
   simp at ih
   rw [g216L0e,dh hx]
   by_cases e:x=y
   · simp (disch:=omega) [-getElem?_pos,g216B0,hx,hi,e,cH]
   · simp (disch:=omega) [-getElem?_pos,g216B0,hx,hi,e,cH,aL,ih]
     cases cH (fun x=>decide (x=y)) (s.drop (i+1)) with
     | none=>rfl
     | some k=>simp;omega
def CZ (s:List eR) (y:eR):Int:=lA (cH (fun x=>decide (x=y)) s)
theorem c216 {s:List eR} (hS:Sm s) {y:eR}:(aW AP).p 216 [.aI (s.map .str),.str y]=some [vI (CZ s y)]:=by
 unfold CZ
 have h:=Hr hS y _ 0 rfl (by omega)
 simp at h
 rw [aJ (af:=g216) rfl rfl (by decide)]
 cases hi:cH (fun x=>decide (x=y)) s with
 | none=>rw [hi] at h;simp at h;simp [g216,h,lA]
 | some k=>rw [hi] at h;simp at h;simp [g216,h,lA]
theorem C0 {s:List eR} {y:eR}:CZ s y<0↔y∉s:=by
 unfold CZ
 have h:=s7 (p:=fun x=>decide (x=y)) (s:=s)
 have e:s.any (fun x=>decide (x=y))=decide (y∈s):=by rw [Bool.eq_iff_iff];simp
 rw [e] at h
 by_cases hy:y∈s
 · rw [decide_eq_true hy] at h
   have h:=of_decide_eq_true h
   exact ⟨fun h'=>absurd h (Int.not_le.2 h'),fun h'=>absurd hy h'⟩
 · rw [decide_eq_false hy] at h
   have h:=of_decide_eq_false h
   exact ⟨fun _=>hy,fun _=>Int.not_le.1 h⟩
def AJ:List Dt→eR→Option Dt
 | [],_=>none
 | d::r,s=>if d.name=s then some d else AJ r s
def wY (ds:List Dt) (s:eR):Option Nat:=if s=[73,110,116] then some 0 else if s=[45,62] then some 2 else (AJ ds s).map (·.params.length)
def rA:Option Nat→List PV
 | some n=>[vI n,.bool true]
 | none=>[vI 0,.bool false]
theorem Hs {ds:List Dt} (hS:Sm ds) (s:eR):∀(n i:Nat),ds.length-i=n→i≤ds.length →
   cl AP g215L0 ⟨[(1,.pv (.str s)),(13,.pv (.aI (ds.map Dt.pv))),(14,.pv (vI ds.length)),(15,.pv (vI i))],[],[],[]⟩ =
     match AJ (ds.drop i) s with
     | some d=>some (.ret,⟨[(4,.pv (vI d.params.length)),(5,.pv (.bool true))],[],[],[]⟩)
     | none=>some (.exit 1,⟨[(1,.pv (.str s)),(13,.pv (.aI (ds.map Dt.pv))),(14,.pv (vI ds.length)),(15,.pv (vI ds.length)),(16,.pv (.bool false))],[],[],[]⟩)
 | 0,i,hn,hi=>by
   have:i=ds.length:=by omega
   subst this
   rw [g215L0e]
   simp [g215B0,AJ]
 | n+1,i,hn,hi=>by
   have hi:i<ds.length:=by omega
   obtain ⟨x,hx⟩:=cE hi
   unfold Sm at hS
   have ih:=Hs hS s n (i+1) (by omega) (by omega)
   rw [g215L0e] at ih ⊢
   rw [dh hx]
   simp at ih
   by_cases e:x.name=s
   · simp (disch:=omega) [-getElem?_pos,g215B0,hx,hi,e,AJ]
   · simp (disch:=omega) [-getElem?_pos,g215B0,hx,hi,e,AJ,aL]
     rw [g215L0e]
     simp [ih]
theorem c215 {ds:List Dt} (hS:Sm ds) {s:eR}:(aW AP).p 215 [.aI (ds.map Dt.pv),.str s]=some (rA (wY ds s)):=by
 have h:=Hs hS s _ 0 rfl (by omega)
 rw [aJ (af:=g215) rfl rfl (by decide)]
 rw [g215L0e] at h
 simp at h
 unfold wY
 by_cases e1:s=[73,110,116]
 · simp [g215,e1,rA]
 · by_cases e2:s=[45,62]
   · simp [g215,e2,rA]
   · cases hl:AJ ds s with
     | none=>rw [hl] at h;simp at h;simp [g215,e1,e2,g215L0e,h,rA]
     | some d=>rw [hl] at h;simp at h;simp [g215,e1,e2,g215L0e,h,rA]
theorem Ht {ds:List Dt} (hS:Sm ds) (s:eR):∀(n i:Nat),ds.length-i=n→i≤ds.length →
   cl AP g217L0 ⟨[(0,.pv (.aI (ds.map Dt.pv))),(1,.pv (.str s)),(6,.pv (vI i))],[],[],[]⟩ =
     match AJ (ds.drop i) s with
     | some d=>some (.ret,⟨[(4,.pv (vI d.params.length)),(5,.pv (.bool true))],[],[],[]⟩)
     | none=>some (.exit 1,⟨[(0,.pv (.aI (ds.map Dt.pv))),(1,.pv (.str s)),(6,.pv (vI ds.length)),(15,.pv (.bool false))],[],[],[]⟩)
 | 0,i,hn,hi=>by
   have:i=ds.length:=by omega
   subst this
   rw [g217L0e]
   simp [g217B0,AJ]
 | n+1,i,hn,hi=>by
   have hi:i<ds.length:=by omega
   obtain ⟨x,hx⟩:=cE hi
   unfold Sm at hS
   have ih:=Ht hS s n (i+1) (by omega) (by omega)
   rw [g217L0e] at ih ⊢
   rw [dh hx]
   simp at ih
   by_cases e:x.name=s
   · simp (disch:=omega) [-getElem?_pos,g217B0,hx,hi,e,AJ]
   · simp (disch:=omega) [-getElem?_pos,g217B0,hx,hi,e,AJ,aL]
     rw [g217L0e]
     simp [ih]
theorem c217 {ds:List Dt} (hS:Sm ds) {s:eR}:(aW AP).p 217 [.aI (ds.map Dt.pv),.str s]=some (rA (wY ds s)):=by
 have h:=Ht hS s _ 0 rfl (by omega)
 rw [aJ (af:=g217) rfl rfl (by decide)]
 rw [g217L0e] at h
 simp at h
 unfold wY
 by_cases e1:s=[73,110,116]
 · simp [g217,e1,rA]
 · by_cases e2:s=[45,62]
   · simp [g217,e2,rA]
   · cases hl:AJ ds s with
     | none=>rw [hl] at h;simp at h;simp [g217,e1,e2,g217L0e,h,rA]
     | some d=>rw [hl] at h;simp at h;simp [g217,e1,e2,g217L0e,h,rA]
def eP (ds:List Dt) (l:List eR) (t:Ty):Int:=
 if t.kind=5 then (if t.name∈l then 0 else 7)
 else if t.kind=4 then (match wY ds t.name with | none=>7 | some n=>if n=t.args.length then 0 else 8) else 0
mutual
def Ty.formed (ds:List Dt) (l:List eR):Ty→Int
 | ⟨k,n,i,h,as⟩=>if eP ds l ⟨k,n,i,h,as⟩≠0 then eP ds l ⟨k,n,i,h,as⟩ else Ty.cZ ds l as
def Ty.cZ (ds:List Dt) (l:List eR):List Ty→Int
 | []=>0
 | a::r=>if a.formed ds l≠0 then a.formed ds l else Ty.cZ ds l r
end
theorem Ty.o8 (ds:List Dt) (l:List eR) (t:Ty):t.formed ds l=if eP ds l t≠0 then eP ds l t else Ty.cZ ds l t.args:=by
 cases t;simp only [Ty.formed]
theorem Hu {ds:List Dt} {l:List eR} {t:Ty} (hS:Sm t.args) (h:∀x∈t.args,(aW AP).p 185 [.aI (ds.map Dt.pv),x.pv,.aI (l.map .str)]=some [vI (x.formed ds l)]):∀(n i:Nat),t.args.length-i=n→i≤t.args.length →
   cl AP g185L0 ⟨[(0,.pv (.aI (ds.map Dt.pv))),(2,.pv (.aI (l.map .str))),(38,.pv (.aI (t.args.map Ty.pv))),(39,.pv (vI t.args.length)),(40,.pv (vI i))],[],[],[]⟩ =
     if Ty.cZ ds l (t.args.drop i)≠0 then some (.ret,⟨[(6,.pv (vI (Ty.cZ ds l (t.args.drop i))))],[],[],[]⟩)
     else some (.exit 1,⟨[(0,.pv (.aI (ds.map Dt.pv))),(2,.pv (.aI (l.map .str))),(38,.pv (.aI (t.args.map Ty.pv))),(39,.pv (vI t.args.length)),(40,.pv (vI t.args.length)),(41,.pv (.bool false))],[],[],[]⟩)
 | 0,i,hn,hi=>by
   have:i=t.args.length:=by omega
   subst this
   rw [g185L0e]
   simp [g185B0,Ty.cZ]
 | n+1,i,hn,hi=>by
   have hi:i<t.args.length:=by omega
   obtain ⟨x,hx⟩:=cE hi
   unfold Sm at hS
   have k:=h x (eE hx)
   have ih:=Hu hS h n (i+1) (by omega) (by omega)
   rw [g185L0e] at ih ⊢
   rw [dh hx]
   simp at ih k
   by_cases e:x.formed ds l=0
   · rw [e] at k
     simp (disch:=omega) [-getElem?_pos,g185B0,hx,hi,k,Ty.cZ,e,aL]
     rw [g185L0e]
     simp [ih]
   · simp (disch:=omega) [-getElem?_pos,g185B0,hx,hi,k,Ty.cZ,e,aL]
theorem c185 {ds:List Dt} (hd:Sm ds) {l:List eR} (hl:Sm l) {t:Ty} (hO:t.Ok):(aW AP).p 185 [.aI (ds.map Dt.pv),t.pv,.aI (l.map .str)]=some [vI (t.formed ds l)]:=by
 revert hO
 refine Ty.wV (p:=fun t=>t.Ok→(aW AP).p 185 [.aI (ds.map Dt.pv),t.pv,.aI (l.map .str)]=some [vI (t.formed ds l)]) ?_ t
 intro t ih hO
 have h:=Hu (ds:=ds) (l:=l) hO.sm (fun x hx=>ih x hx (hO.Eu x hx)) _ 0 rfl (by omega)
 have k1:=c214 hl (y:=t.name)
 have k2:=c215 hd (s:=t.name)
 rw [aJ (af:=g185) rfl rfl (by decide),Ty.o8]
 rw [g185L0e] at h
 simp at h
 by_cases e1:t.kind=5
 · by_cases e2:t.name∈l
   · rw [decide_eq_true e2] at k1
     by_cases e3:Ty.cZ ds l t.args=0
     · simp [e3] at h
       simp [g185,e1,e2,e3,k1,eP,g185L0e,h]
     · simp [e3] at h
       simp [g185,e1,e2,e3,k1,eP,g185L0e,h]
   · rw [decide_eq_false e2] at k1
     simp [g185,e1,e2,k1,eP]
 · by_cases e4:t.kind=4
   · cases hc:wY ds t.name with
     | none=>
       rw [hc] at k2
       simp [rA] at k2
       simp [g185,e1,e4,k2,eP,hc]
     | some m=>
       rw [hc] at k2
       simp [rA] at k2
       by_cases e5:m=t.args.length
       · by_cases e3:Ty.cZ ds l t.args=0
         · simp [e3] at h
           simp [g185,e4,e5,e3,k2,eP,hc,g185L0e,h]
         · simp [e3] at h
           simp [g185,e4,e5,e3,k2,eP,hc,g185L0e,h]
       · have e5':¬(m:Int)=t.args.length:=by omega
         simp [g185,e4,e5,e5',k2,eP,hc]
   · by_cases e3:Ty.cZ ds l t.args=0
     · simp [e3] at h
       simp [g185,e1,e4,e3,eP,g185L0e,h]
     · simp [e3] at h
       simp [g185,e1,e4,e3,eP,g185L0e,h]
def H8 (t:Ty):List AV:=[.pv (vI t.kind),.pv (.str t.name),.pv (vI t.id),.pv (vI t.home),.pv (.aI (t.args.map Ty.pv))]
@[simp] theorem H9 (t:Ty):H8 t=[.pv (vI t.kind),.pv (.str t.name),.pv (vI t.id),.pv (vI t.home),.pv (.aI (t.args.map Ty.pv))]:=rfl
theorem Hv {ds:List Dt} {l:List eR} {t:Ty} (hS:Sm t.args) (h:∀x∈t.args,(aW AP).p 186 [.aI (ds.map Dt.pv),x.pv,.aI (l.map .str)]=some [vI (x.formed ds l)]):∀(n i:Nat),t.args.length-i=n→i≤t.args.length →
   cl AP g186L0 ⟨[(0,.pv (.aI (ds.map Dt.pv))),(2,.pv (.aI (l.map .str))),(4,.aT 4 0),(9,.pv (vI i))],[(4,H8 t)],[],[]⟩ =
     if Ty.cZ ds l (t.args.drop i)≠0 then some (.ret,⟨[(6,.pv (vI (Ty.cZ ds l (t.args.drop i))))],[],[],[]⟩)
     else some (.exit 1,⟨[(0,.pv (.aI (ds.map Dt.pv))),(2,.pv (.aI (l.map .str))),(4,.aT 4 0),(9,.pv (vI t.args.length)),(40,.pv (.bool false))],[(4,H8 t)],[],[]⟩)
 | 0,i,hn,hi=>by
   have:i=t.args.length:=by omega
   subst this
   rw [g186L0e]
   simp [g186B0,Ty.cZ]
 | n+1,i,hn,hi=>by
   have hi:i<t.args.length:=by omega
   obtain ⟨x,hx⟩:=cE hi
   unfold Sm at hS
   have k:=h x (eE hx)
   have ih:=Hv hS h n (i+1) (by omega) (by omega)
   rw [g186L0e] at ih ⊢
   rw [dh hx]
   simp at ih k
   by_cases e:x.formed ds l=0
   · rw [e] at k
     simp (disch:=omega) [-getElem?_pos,g186B0,hx,hi,k,Ty.cZ,e,aL]
     rw [g186L0e]
     simp [ih]
   · simp (disch:=omega) [-getElem?_pos,g186B0,hx,hi,k,Ty.cZ,e,aL]
inductive Ty.Cw:Ty→Prop
 | mk {t:Ty}:(t.kind≠4→t.args=[])→(∀x∈t.args,Ty.Cw x)→Ty.Cw t
theorem Ty.Cw.bare {t:Ty} (h:t.Cw):t.kind≠4→t.args=[]:=by cases h;assumption
theorem Ty.Cw.Eu {t:Ty} (h:t.Cw):∀x∈t.args,x.Cw:=by cases h;assumption
theorem fj.cw {D:Dt→Prop} {lv:List Ty} (h:∀t∈lv,t.args=[]) {n:Nat} {t:Ty} (m:fj D lv n t):t.Cw:=by
 induction m with
 | leaf hl=>exact ⟨fun _=>h _ hl,by rw [h _ hl];simp⟩
 | int=>exact ⟨by simp [jj],by simp [jj]⟩
 | dZ hd hl _ ih=>exact ⟨by simp,ih⟩
 | arrow _ _ ha hb=>exact ⟨by simp,by intro x hx;simp at hx;rcases hx with rfl | rfl<;>assumption⟩
theorem c186 {ds:List Dt} (hd:Sm ds) {l:List eR} (hl:Sm l) {t:Ty} (hO:t.Ok) (hC:t.Cw):(aW AP).p 186 [.aI (ds.map Dt.pv),t.pv,.aI (l.map .str)]=some [vI (t.formed ds l)]:=by
 revert hO hC
 refine Ty.wV (p:=fun t=>t.Ok→t.Cw→(aW AP).p 186 [.aI (ds.map Dt.pv),t.pv,.aI (l.map .str)]=some [vI (t.formed ds l)]) ?_ t
 intro t ih hO hC
 have h:=Hv (ds:=ds) (l:=l) hO.sm (fun x hx=>ih x hx (hO.Eu x hx) (hC.Eu x hx)) _ 0 rfl (by omega)
 have k1:=c216 hl (y:=t.name)
 have k2:=c217 hd (s:=t.name)
 have k3:=C0 (s:=l) (y:=t.name)
 rw [aJ (af:=g186) rfl rfl (by decide),Ty.o8]
 rw [g186L0e] at h
 simp at h
 by_cases e1:t.kind=5
 · by_cases e2:t.name∈l
   · simp [e2] at k3
     have k3':¬CZ l t.name<0:=by omega
     have ea:=hC.bare (by rw [e1];decide)
     simp [g186,e1,e2,k1,k3',eP,ea,Ty.cZ]
   · simp [e2] at k3
     simp [g186,e1,e2,k1,k3,eP]
 · by_cases e4:t.kind=4
   · cases hc:wY ds t.name with
     | none=>
       rw [hc] at k2
       simp [rA] at k2
       simp [g186,e1,e4,k2,eP,hc]
     | some m=>
       rw [hc] at k2
       simp [rA] at k2
       by_cases e5:m=t.args.length
       · by_cases e3:Ty.cZ ds l t.args=0
         · simp [e3,e4] at h
           simp [g186,e4,e5,e3,k2,eP,hc,g186L0e,h]
         · simp [e3,e4] at h
           simp [g186,e4,e5,e3,k2,eP,hc,g186L0e,h]
       · have e5':¬(m:Int)=t.args.length:=by omega
         simp [g186,e4,e5,e5',k2,eP,hc]
   · have ea:=hC.bare e4
     simp [g186,e1,e4,eP,ea,Ty.cZ]
end Go.Ab.Lw
namespace Go.Ab.Lw
structure dz (E:Type) where
 pos:Int
 dZ:List UInt8
 vars:List (List UInt8)
 body:E
structure Ex where
 kind:Int
 pos:Int
 name:List UInt8
 num:Int
 kids:List Ex
 aD:List (dz Ex)
 ty:Ty
abbrev Ar:=dz Ex
def gJ:Ty:=⟨0,[],0,0,[]⟩
instance:Inhabited Ex:=⟨⟨0,0,[],0,[],[],gJ⟩⟩
instance:Inhabited Ar:=⟨⟨0,[],[],default⟩⟩
def Ty.cells (t:Ty):List PV:=[.int .i64 t.kind,.str t.name,.int .i64 t.id,.int .i64 t.home,.aI (t.args.map Ty.pv)]
mutual
def Ex.cells:Ex→List PV
 | ⟨k,p,n,m,ks,as,t⟩=>.int .i64 k::.int .i64 p::.str n::.int .i64 m::.aI (Ex.cU ks)::.aI (Ex.Hw as)::t.cells
def Ex.cU:List Ex→List PV
 | []=>[]
 | e::r=>.agg (Ex.cells e)::Ex.cU r
def Ex.Hw:List (dz Ex)→List PV
 | []=>[]
 | ⟨p,c,v,b⟩::r=>.agg (.int .i64 p::.str c::.aI (v.map .str)::Ex.cells b)::Ex.Hw r
end
def Ex.pv (e:Ex):PV:=.agg e.cells
def Ar.pv (a:Ar):PV:=.agg (.int .i64 a.pos::.str a.dZ::.aI (a.vars.map .str)::a.body.cells)
theorem Ex.kR:∀l:List Ex,Ex.cU l=l.map Ex.pv
 | []=>by simp [Ex.cU]
 | e::r=>by simp [Ex.cU,Ex.kR r,Ex.pv]
theorem Ex.xz:∀l:List Ar,Ex.Hw l=l.map Ar.pv
 | []=>by simp [Ex.Hw]
 | ⟨p,c,v,b⟩::r=>by simp [Ex.Hw,Ex.xz r,Ar.pv]
theorem Ex.cn (e:Ex):e.cells=[.int .i64 e.kind,.int .i64 e.pos,.str e.name,.int .i64 e.num,.aI (e.kids.map Ex.pv),.aI (e.aD.map Ar.pv),.int .i64 e.ty.kind,.str e.ty.name,.int .i64 e.ty.id,.int .i64 e.ty.home,.aI (e.ty.args.map Ty.pv)]:=by
 cases e;simp only [Ex.cells,Ex.kR,Ex.xz,Ty.cells]
@[simp] theorem Ex.o6 (e:Ex):e.pv=.agg [.int .i64 e.kind,.int .i64 e.pos,.str e.name,.int .i64 e.num,.aI (e.kids.map Ex.pv),.aI (e.aD.map Ar.pv),.int .i64 e.ty.kind,.str e.ty.name,.int .i64 e.ty.id,.int .i64 e.ty.home,.aI (e.ty.args.map Ty.pv)]:=by
 rw [Ex.pv,Ex.cn]
@[simp] theorem Ar.o6 (a:Ar):a.pv=.agg [.int .i64 a.pos,.str a.dZ,.aI (a.vars.map .str),.int .i64 a.body.kind,.int .i64 a.body.pos,.str a.body.name,.int .i64 a.body.num,.aI (a.body.kids.map Ex.pv),.aI (a.body.aD.map Ar.pv),.int .i64 a.body.ty.kind,.str a.body.ty.name,.int .i64 a.body.ty.id,.int .i64 a.body.ty.home,.aI (a.body.ty.args.map Ty.pv)]:=by
 rw [Ar.pv,Ex.cn]
theorem Hx:El Ex.pv 11 true:=⟨fun x=>by simp,fun x=>by simp⟩
theorem Ge:El Ar.pv 14 true:=⟨fun x=>by simp,fun x=>by simp⟩
@[simp] theorem GA {l:List Ex}:bu 11 (l.map Ex.pv)=true:=Hx.head l
@[simp] theorem GB {l:List Ar}:bu 14 (l.map Ar.pv)=true:=Ge.head l
@[simp] theorem Gf {l:List (List UInt8)}:bu 1 (l.map PV.str)=true:=CS.head l
def Ex.ch (e:Ex):List Ex:=e.kids++e.aD.map dz.body
theorem dz.o9 (a:Ar):SizeOf.sizeOf a.body<SizeOf.sizeOf a:=by cases a;simp;omega
theorem Ex.wV {p:Ex→Prop} (h:∀e:Ex,(∀x∈e.kids,p x)→(∀a∈e.aD,p a.body)→p e):∀e,p e
 | ⟨k,ps,n,m,ks,as,t⟩=>h _ (fun x _hx=>Ex.wV h x) (fun a _ha=>Ex.wV h a.body)
termination_by e=>SizeOf.sizeOf e
decreasing_by
 · have:=_root_.List.sizeOf_lt_of_mem _hx;simp at *;omega
 · have:=_root_.List.sizeOf_lt_of_mem _ha;have:=dz.o9 a;simp at *;omega
theorem Ex.recC {p:Ex→Prop} (h:∀e:Ex,(∀x∈e.ch,p x)→p e):∀e,p e:=Ex.wV fun e h1 h2=>h e fun x hx=>by
 rw [Ex.ch,List.mem_append,List.mem_map] at hx
 rcases hx with hx | ⟨a,ha,rfl⟩
 · exact h1 x hx
 · exact h2 a ha
end Go.Ab.Lw
namespace Go.Ab.Lw
open Ev
def tx (l:List (List UInt8)):List AV:=l.map fun s=>AV.pv (.str s)
def SA (X:Sh) (l:List (List UInt8)) (t:List UInt8):Sh:=X++[some (tx l),some [.pv (.str t)]]
end Go.Ab.Lw
namespace Go.Ab.Lw
open Ev
structure Row {α:Type} (f:α→List PV) (sz:Nat):Prop where
 pos:0<sz
 len:∀x,(f x).length=sz
section
variable {α:Type} {f:α→List PV} {sz:Nat}
def a7 (f:α→List PV) (l:List α):List AV:=l.flatMap fun x=>(f x).map .pv
theorem EB:a7 f []=[]:=rfl
theorem ig {x:α} {l:List α}:a7 f (x::l)=(f x).map .pv++a7 f l:=rfl
theorem xA {l m:List α}:a7 f (l++m)=a7 f l++a7 f m:=by simp [a7]
theorem dj (h:Row f sz):∀{l:List α},(a7 f l).length=l.length*sz
 | []=>by simp [a7]
 | x::r=>by rw [ig,List.length_append,List.length_map,h.len,dj h,List.length_cons,Nat.add_mul];omega
theorem bH {l:List α}:∀v∈a7 f l,∃p,v=AV.pv p:=by
 intro v hv
 simp only [a7,List.mem_flatMap,List.mem_map] at hv
 obtain ⟨x,_,p,_,rfl⟩:=hv
 exact ⟨p,rfl⟩
theorem kS (h:Row f sz):∀{l:List α} {i:Nat} {x:α},l[i]?=some x→(a7 f l).drop (i*sz)=(f x).map .pv++a7 f (l.drop (i+1))
 | x::r,0,y,e=>by simp at e;subst e;simp [a7]
 | x::r,i+1,y,e=>by
   have ih:=kS h (l:=r) (i:=i) (x:=y) (by simpa using e)
   rw [ig,List.drop_append,List.drop_eq_nil_of_le (by rw [List.length_map,h.len,Nat.add_mul];omega),List.length_map,h.len,show (i+1)*sz-sz=i*sz from by rw [Nat.add_mul];omega,ih]
   simp
 | [],_,_,e=>by simp at e
theorem nO (h:Row f sz):∀{l:List α} {i:Nat},i≤l.length→(a7 f l).take (i*sz)=a7 f (l.take i)
 | l,0,_=>by simp [a7]
 | x::r,i+1,e=>by
   have ih:=nO h (l:=r) (i:=i) (by simpa using e)
   rw [ig,List.take_append,List.take_of_length_le (by rw [List.length_map,h.len,Nat.add_mul];omega),List.length_map,h.len,show (i+1)*sz-sz=i*sz from by rw [Nat.add_mul];omega,ih]
   simp [ig]
 | [],i+1,e=>by simp at e
theorem jD (h:Row f sz) {l:List α} {i:Nat} {x:α} (e:l[i]?=some x) {o k:Nat} (hk:o+k≤sz):((a7 f l).drop (i*sz+o)).take k=(((f x).drop o).take k).map .pv:=by
 rw [←List.drop_drop,kS h e,List.drop_append,List.take_append,List.length_drop,List.length_map,h.len]
 have e1:k-(sz-o)=0:=by omega
 rw [e1,List.take_zero,List.append_nil,←List.map_drop,←List.map_take]
theorem EC (h:Row f sz) {l:List α} {i:Nat} {x:α} (e:l[i]?=some x) {o:Nat} (hk:o<sz) {p:PV} (hp:(f x)[o]?=some p):(a7 f l)[i*sz+o]?=some (.pv p):=by
 have e1:=kS h e
 rw [←List.getElem?_drop,e1,List.getElem?_append_left (by rw [List.length_map,h.len];exact hk),List.getElem?_map,hp]
 rfl
theorem jE (h:Row f sz) {l:List α} {i:Nat} {x y:α} (e:l[i]?=some x) {o:Nat} {vs:List PV} (hk:o+vs.length≤sz) (hy:f y=(f x).take o++vs++(f x).drop (o+vs.length)):aN (a7 f l) (i*sz+o) (vs.map .pv)=a7 f (l.set i y):=by
 have hi:=(List.getElem?_eq_some_iff.1 e).1
 have e3:l.set i y=l.take i++y::l.drop (i+1):=by rw [List.set_eq_take_append_cons_drop,if_pos hi]
 have e1:=kS h e
 have e2:=nO h (l:=l) (i:=i) (by omega)
 rw [e3,dK,xA,ig,←e2,hy]
 have e4:(a7 f l).drop (i*sz+o+(vs.map AV.pv).length)=((f x).drop (o+vs.length)).map .pv++a7 f (l.drop (i+1)):=by
   rw [List.length_map,Nat.add_assoc,←List.drop_drop,e1,List.drop_append,List.length_map,h.len,show o+vs.length-sz=0 from by omega]
   simp
 have e5:(a7 f l).take (i*sz+o)=(a7 f l).take (i*sz)++((f x).take o).map .pv:=by
   rw [List.take_add,e1,List.take_append,List.length_map,h.len,show o-sz=0 from by omega]
   simp
 rw [e4,e5]
 simp
theorem nP (h:Row f sz) {l:List α} {i:Nat} {x y:α} (e:l[i]?=some x) {o:Nat} {p:PV} (hk:o+1≤sz) (hy:f y=(f x).take o++[p]++(f x).drop (o+1)):aN (a7 f l) (i*sz+o) [.pv p]=a7 f (l.set i y):=
 jE h e (vs:=[p]) (by simpa using hk) hy
theorem xB (h:Row f sz):∀{l:List α},∃ps,eS (a7 f l)=some ps∧(chunk sz l.length ps).map PV.agg=l.map fun x=>.agg (f x)
 | []=>⟨[],rfl,rfl⟩
 | x::r=>by
   obtain ⟨ps,h1,h2⟩:=xB h (l:=r)
   have key:∀(a:List PV) (b:List AV),eS b=some ps→eS (a.map AV.pv++b)=some (a++ps):=by
     intro a b hb
     induction a with
     | nil=>simpa using hb
     | cons c a ih=>simp only [List.map_cons,List.cons_append,eS,jF,ih]
   refine ⟨f x++ps,key _ _ h1,?_⟩
   simp only [List.length_cons,chunk,List.map_cons]
   rw [List.take_left' (h.len x),List.drop_left' (h.len x),h2]
theorem xC (h:Row f sz) {l:List α}:((eS (a7 f l)).bind (eK sz true l.length)).map PV.aI=some (.aI (l.map fun x=>.agg (f x))):=by
 obtain ⟨ps,h1,h2⟩:=xB h (l:=l)
 rw [h1]
 simp only [Option.bind_some,eK,if_true,Option.map_some,h2]
theorem xD (h:Row f sz) {l:List α}:((l.map fun x=>PV.agg (f x)).flatMap aU).map AV.pv=a7 f l:=by
 induction l with
 | nil=>rfl
 | cons x r ih=>simp only [List.map_cons,List.flatMap_cons,List.map_append,ih,ig,aU]
end
abbrev nn (k:Nat):Sh:=List.replicate k none
theorem cG (k:Nat):bn (nn k):=by
 intro cs hc
 simp [nn,List.mem_replicate] at hc
end Go.Ab.Lw
namespace Go.Ab.Lw
open Ev
inductive Ex.Ok:Ex→Prop
 | mk {e:Ex}:e.kids.length≤1000→e.aD.length≤1000→(∀a∈e.aD,a.vars.length≤1000)→e.ty.Ok→(∀x∈e.ch,x.Ok)→e.Ok
theorem Ex.Ok.k {e:Ex} (h:e.Ok):e.kids.length≤1000:=by cases h;assumption
theorem Ex.Ok.a {e:Ex} (h:e.Ok):e.aD.length≤1000:=by cases h;assumption
theorem Ex.Ok.v {e:Ex} (h:e.Ok):∀a∈e.aD,a.vars.length≤1000:=by cases h;assumption
theorem Ex.Ok.t {e:Ex} (h:e.Ok):e.ty.Ok:=by cases h;assumption
theorem Ex.Ok.c {e:Ex} (h:e.Ok):∀x∈e.ch,x.Ok:=by cases h;assumption
theorem Ex.iM {e:Ex}:e.ch.length=e.kids.length+e.aD.length:=by simp [Ex.ch]
@[simp] def Ex.cl (e:Ex):List AV:=[.pv (vI e.kind),.pv (vI e.pos),.pv (.str e.name),.pv (vI e.num),.pv (.aI (e.kids.map Ex.pv)),.pv (.aI (e.aD.map Ar.pv)),.pv (vI e.ty.kind),.pv (.str e.ty.name),.pv (vI e.ty.id),.pv (vI e.ty.home),.pv (.aI (e.ty.args.map Ty.pv))]
theorem cP:Row Ex.cells 11:=⟨by omega,fun x=>by rw [Ex.cn];rfl⟩
def Ar.cells (a:Ar):List PV:=.int .i64 a.pos::.str a.dZ::.aI (a.vars.map .str)::a.body.cells
theorem bX:Row Ar.cells 14:=⟨by omega,fun x=>by simp [Ar.cells,Ex.cn]⟩
theorem Ex.jk (e:Ex):e.cells.map AV.pv=e.cl:=by rw [Ex.cn];rfl
@[simp] def Ex.Df (e:Ex) (A:AV):List AV:=[.pv (vI e.kind),.pv (vI e.pos),.pv (.str e.name),.pv (vI e.num),.pv (.aI (e.kids.map Ex.pv)),A,.pv (vI e.ty.kind),.pv (.str e.ty.name),.pv (vI e.ty.id),.pv (vI e.ty.home),.pv (.aI (e.ty.args.map Ty.pv))]
def Hy (A:AV) (as:List Ar) (X:Sh):Prop:=A=.pv (.aI (as.map Ar.pv))∨∃b,b<X.length∧A=.bd b 14 as.length true∧X[b]?=some (some (a7 Ar.cells as))
theorem Hy.app {A:AV} {as:List Ar} {X Y:Sh} (h:Hy A as X):Hy A as (X++Y):=by
 rcases h with h | ⟨b,h1,h2,h3⟩
 · exact .inl h
 · exact .inr ⟨b,by rw [List.length_append];omega,h2,by rw [List.getElem?_append_left h1];exact h3⟩
def hV (X:Sh) (l:List Ex):AV:=if l=[] then .own [] 0 else .bd X.length 11 l.length true
def hS (X:Sh) (l:List Ex):Sh:=if l=[] then X else X++[some (a7 Ex.cells l)]
def hT (l:List Ex):au:=if l=[] then [0] else []
theorem C1 {X:Sh} (h:bn X) (l:List Ex):bn (hS X l):=by
 unfold hS
 by_cases h0:l=[]
 · rw [if_pos h0];exact h
 · rw [if_neg h0];exact h.app (bn.one bH)
theorem ED {e:Ex} {A:AV} (ha:e.aD.length≤1000):∀(n i:Nat),e.aD.length-i=n→i≤e.aD.length→∀(X:Sh) (acc:List Ex),bn X→Hy A e.aD X→acc.length+n≤1000000→∃k,
   cl AP g145L0 ⟨[(1,.aT 1 0),(3,hV X acc),(4,.pv (vI i))],[(1,e.Df A)],hS X acc,hT acc⟩ =
     some (.exit 0,⟨[(1,.aT 1 0),(3,hV (X++nn k) (acc++(e.aD.drop i).map dz.body)),(4,.pv (vI e.aD.length)),(12,.pv (.bool false))],[(1,e.Df A)],hS (X++nn k) (acc++(e.aD.drop i).map dz.body),hT (acc++(e.aD.drop i).map dz.body)⟩)
 | 0,i,hn,hi,X,acc,hX,hA,hl=>by
   have:i=e.aD.length:=by omega
   subst this
   refine ⟨0,?_⟩
   rw [List.drop_length,List.map_nil,List.append_nil,show nn 0=[] from rfl,List.append_nil]
   have hn:=(C1 hX acc).norm
   have vc:(hV X acc=.own [] 0∧hT acc=[0])∨(∃b z k g,hV X acc=.bd b z k g∧hT acc=[]):=by
     unfold hV hT
     by_cases h0:acc=[]
     · left;simp [h0]
     · right;exact ⟨X.length,11,acc.length,true,by simp [h0],by simp [h0]⟩
   rw [g145L0e]
   rcases vc with ⟨v1,t1⟩ | ⟨b1,z1,k1,f1,v1,t1⟩<;>rw [v1,t1]<;>generalize hS X acc=S0 at hn ⊢ <;>
     rcases hA with rfl | ⟨b,hb,rfl,hx⟩<;>simp [g145B0,hn]
 | n+1,i,hn,hi,X,acc,hX,hA,hl=>by
   have hi:i<e.aD.length:=by omega
   obtain ⟨x,hx⟩:=cE hi
   have hnX:=hX.norm
   have hB11:∀m:Nat,m≤1000000→m*152≤140737488355328:=by omega
   have hcl:=Ex.cn x.body
   rw [dh hx,List.map_cons]
   have step:∃k,cl AP g145L0 ⟨[(1,.aT 1 0),(3,hV (if acc=[] then X else X++[none]) (acc++[x.body])),(4,.pv (vI (i+1:Nat)))],[(1,e.Df A)],hS (if acc=[] then X else X++[none]) (acc++[x.body]),hT (acc++[x.body])⟩ =
     some (.exit 0,⟨[(1,.aT 1 0),(3,hV (X++nn k) (acc++(x.body::(e.aD.drop (i+1)).map dz.body))),(4,.pv (vI e.aD.length)),(12,.pv (.bool false))],[(1,e.Df A)],hS (X++nn k) (acc++(x.body::(e.aD.drop (i+1)).map dz.body)),hT (acc++(x.body::(e.aD.drop (i+1)).map dz.body))⟩):=by
     by_cases h0:acc=[]
     · rw [if_pos h0]
       obtain ⟨k,ih⟩:=ED ha n (i+1) (by omega) (by omega) X (acc++[x.body]) hX hA (by simp;omega)
       refine ⟨k,?_⟩
       rw [ih]
       simp only [List.append_assoc,List.singleton_append]
     · rw [if_neg h0]
       obtain ⟨k,ih⟩:=ED ha n (i+1) (by omega) (by omega) (X++[none]) (acc++[x.body]) (hX.app (cG 1)) hA.app (by simp;omega)
       refine ⟨k+1,?_⟩
       have e1:X++[none]++nn k=X++nn (k+1):=by simp [nn,List.replicate_succ]
       rw [ih,e1]
       simp only [List.append_assoc,List.singleton_append]
   obtain ⟨k,ih⟩:=step
   refine ⟨k,?_⟩
   generalize hV (X++nn k) (acc++(x.body::(e.aD.drop (i+1)).map dz.body))=V2 at ih ⊢
   generalize hS (X++nn k) (acc++(x.body::(e.aD.drop (i+1)).map dz.body))=S2 at ih ⊢
   generalize hT (acc++(x.body::(e.aD.drop (i+1)).map dz.body))=T2 at ih ⊢
   have hne:acc++[x.body]≠[]:=by simp
   have hn1:∀Y,bn Y→∀aE ts,bE aE ts (Y++[some (a7 Ex.cells (acc++[x.body]))])=(Y++[some (a7 Ex.cells (acc++[x.body]))],aE,ts):=fun Y hY=>(hY.app (bn.one bH)).norm
   have hfl:a7 Ex.cells (acc++[x.body])=a7 Ex.cells acc++x.body.cl:=by rw [xA,←Ex.jk];simp [a7]
   by_cases h0:acc=[]
   · subst h0
     rw [if_pos rfl] at ih
     have hn2:=hn1 X hX
     simp only [List.nil_append] at hne hn2 hfl ih
     simp only [hV,hS,hT,if_neg hne,if_true] at ih ⊢
     rw [hfl] at hn2 ih
     simp only [EB,List.nil_append] at hn2 ih
     simp only [Ex.cl] at hn2
     rw [g145L0e] at ih ⊢
     rcases hA with rfl | ⟨b,hb,rfl,hxb⟩
     · simp [hn2] at ih
       simp (disch:=omega) [-getElem?_pos,g145B0,hx,hi,aL,hnX]
       rw [g145L0e]
       simp [hn2,ih]
     · have q1:=jD bX hx (o:=3) (k:=11) (by omega)
       have q2:i*14+3+11≤e.aD.length*14:=by omega
       have q3:(a7 Ar.cells e.aD).length=e.aD.length*14:=dj bX
       have q4:cA (a7 Ar.cells e.aD)=false:=e9 bH
       have q5:(((Ar.cells x).drop 3).take 11).map AV.pv=x.body.cl:=by simp [Ar.cells,hcl]
       rw [q5] at q1
       generalize a7 Ar.cells e.aD=T at *
       simp [hn2] at ih q1
       simp (disch:=omega) [-getElem?_pos,g145B0,hx,hi,aL,hnX,hxb,q1,q2,q3,q4]
       rw [g145L0e]
       simp [hn2,ih]
   · rw [if_neg h0] at ih
     have hn2:=hn1 (X++[none]) (hX.app (cG 1))
     have hn3:∀aE ts,bE aE ts (X++[some (a7 Ex.cells acc)])=(X++[some (a7 Ex.cells acc)],aE,ts):=(hX.app (bn.one bH)).norm
     simp only [hV,hS,hT,if_neg hne,if_neg h0] at ih ⊢
     have r1:(a7 Ex.cells acc).length=acc.length*11:=dj cP
     have r2:cA (a7 Ex.cells acc)=false:=e9 bH
     have r3:(a7 Ex.cells acc).take (acc.length*11)=a7 Ex.cells acc:=List.take_of_length_le (by omega)
     have hb2:(acc.length+1)*152≤140737488355328:=by omega
     rw [hfl] at hn2 ih
     rw [List.length_append,List.length_singleton,List.length_append,List.length_singleton] at ih
     have s1:∀u w:Option (List AV),(X++[u]).set X.length w=X++[w]:=fun u w=>by simp
     have s2:∀u:Option (List AV),(X++[u])[X.length]?=some u:=fun u=>by simp
     simp only [Ex.cl] at hn2
     rw [g145L0e] at ih ⊢
     rcases hA with rfl | ⟨b,hb,rfl,hxb⟩
     · generalize a7 Ex.cells acc=F at *
       simp [hn2] at ih
       simp (disch:=omega) [-getElem?_pos,g145B0,hx,hi,aL,hn3,r1,r2,r3,s1,s2,hb2]
       rw [g145L0e]
       simp [hn2,ih]
     · have q1:=jD bX hx (o:=3) (k:=11) (by omega)
       have q2:i*14+3+11≤e.aD.length*14:=by omega
       have q3:(a7 Ar.cells e.aD).length=e.aD.length*14:=dj bX
       have q4:cA (a7 Ar.cells e.aD)=false:=e9 bH
       have q5:(((Ar.cells x).drop 3).take 11).map AV.pv=x.body.cl:=by simp [Ar.cells,hcl]
       have q6:∀u:Option (List AV),(X++[u])[b]?=X[b]?:=fun u=>List.getElem?_append_left hb
       rw [q5] at q1
       generalize a7 Ar.cells e.aD=T at *
       generalize a7 Ex.cells acc=F at *
       simp [hn2] at ih q1
       simp (disch:=omega) [-getElem?_pos,g145B0,hx,hi,aL,hn3,r1,r2,r3,s1,s2,hb2,hxb,q1,q2,q3,q4,q6]
       rw [g145L0e]
       simp [hn2,ih]
theorem nQ {l:List Ex}:((eS (a7 Ex.cells l)).bind (eK 11 true l.length)).map PV.aI=some (.aI (l.map Ex.pv)):=xC cP
theorem C2 {l:List Ex}:((l.map Ex.pv).flatMap aU).map AV.pv=a7 Ex.cells l:=xD cP
theorem c145i {e:Ex} {A:AV} (h:e.kids.length≤1000) (ha:e.aD.length≤1000) {X:Sh} (hX:bn X) (hA:Hy A e.aD X):∃k,(aW AP).i 145 [.agg (e.Df A)] X []=some (if e.ch=[] then ([.own [] 0],X,[0]) else ([.bd (X.length+k) 11 e.ch.length true],X++nn k++[some (a7 Ex.cells e.ch)],[])):=by
 obtain ⟨k,h2⟩:=ED (A:=A) ha _ 0 rfl (by omega) X e.kids hX hA (by omega)
 rw [List.drop_zero] at h2
 change cl AP g145L0 _=some (.exit 0,⟨[(1,.aT 1 0),(3,hV (X++nn k) e.ch),(4,.pv (vI e.aD.length)),(12,.pv (.bool false))],[(1,e.Df A)],hS (X++nn k) e.ch,hT e.ch⟩) at h2
 refine ⟨k,?_⟩
 rw [aZ (af:=g145) rfl (by simp [g145])]
 have hb:e.kids.length*152≤140737488355328:=by omega
 have hm:=C2 (l:=e.kids)
 have hq:=hX.norm
 have hq0:∀aE ts,bE aE ts (X++[some (a7 Ex.cells e.kids)])=(X++[some (a7 Ex.cells e.kids)],aE,ts):=(hX.app (bn.one bH)).norm
 have hq1:∀aE ts,bE aE ts (X++nn k)=(X++nn k,aE,ts):=(hX.app (cG k)).norm
 have hq2:∀aE ts,bE aE ts (X++(nn k++[some (a7 Ex.cells e.ch)]))=(X++(nn k++[some (a7 Ex.cells e.ch)]),aE,ts):=(hX.app ((cG k).app (bn.one bH))).norm
 have hlt:¬X.length+k<X.length:=by omega
 have hln:(X++nn k).length=X.length+k:=by simp
 have hlf:aP A=true∧bg A=true:=by rcases hA with rfl | ⟨b,_,rfl,_⟩<;>exact ⟨rfl,rfl⟩
 have hkt:(X++nn k).take X.length=X:=by simp
 have e1:∀(V:AV) (T:au) (S:Sh),(V=hV X e.kids∧T=hT e.kids∨e.kids=[]∧V=.bR []∧T=[])→S=hS X e.kids→after (cl AP g145L0) (cl AP g145B0 (norm (restrict [1,3,4] ⟨[(1,.aT 1 0),(3,V),(4,.pv (vI 0))],[(1,e.Df A)],S,T⟩))) =
     some (.exit 0,⟨[(1,.aT 1 0),(3,hV (X++nn k) e.ch),(4,.pv (vI e.aD.length)),(12,.pv (.bool false))],[(1,e.Df A)],hS (X++nn k) e.ch,hT e.ch⟩):=by
   rintro V T S hV' rfl
   rw [←h2,g145L0e]
   rcases hV' with ⟨rfl,rfl⟩ | ⟨h0,rfl,rfl⟩
   · rfl
   · simp only [hV,hS,hT,h0,if_true]
     rcases hA with rfl | ⟨b,_,rfl,_⟩<;>simp [hq]
 clear h2
 by_cases hc:e.ch=[]
 · have h0:e.kids=[]:=by have:=hc;simp only [Ex.ch,List.append_eq_nil_iff] at this;exact this.1
   have f:=e1 (.bR []) [] X (.inr ⟨h0,rfl,rfl⟩) (by simp [hS,h0])
   simp only [hc,hV,hS,hT,if_true] at f ⊢
   rcases hA with rfl | ⟨b,_,rfl,_⟩<;>simp [hq,h0] at f<;>simp [g145,h0,hq,hq1,g145L0e,f,hln,hkt]
 · by_cases h0:e.kids=[]
   · have f:=e1 (.bR []) [] X (.inr ⟨h0,rfl,rfl⟩) (by simp [hS,h0])
     simp only [hV,hS,hT,if_neg hc,List.append_assoc,hln] at f ⊢
     generalize X++(nn k++[some (a7 Ex.cells e.ch)])=S2 at *
     rcases hA with rfl | ⟨b,_,rfl,_⟩<;>simp [hq,h0] at f<;>simp [g145,h0,hq,hq2,g145L0e,f,hlt]
   · have f:=e1 (.bd X.length 11 e.kids.length true) [] (X++[some (a7 Ex.cells e.kids)]) (.inl ⟨by simp [hV,h0],by simp [hT,h0]⟩) (by simp [hS,h0])
     simp only [hV,hS,hT,if_neg hc,List.append_assoc,hln] at f ⊢
     generalize X++(nn k++[some (a7 Ex.cells e.ch)])=S2 at *
     have hb2:e.kids.length*152≤140737488355328:=by omega
     generalize a7 Ex.cells e.kids=F at *
     rcases hA with rfl | ⟨b,_,rfl,_⟩<;>simp [hq,hq0,h0] at f<;>simp [g145,h0,hb2,hm,hq,hq0,hq2,g145L0e,f,hlt]
theorem c145 {e:Ex} (h:e.Ok):(aW AP).p 145 [e.pv]=some [.aI (e.ch.map Ex.pv)]:=by
 have hk:=h.k
 have ha:=h.a
 obtain ⟨k,h2⟩:=ED (A:=.pv (.aI (e.aD.map Ar.pv))) ha _ 0 rfl (by omega) [] e.kids (by intro cs h;simp at h) (.inl rfl) (by omega)
 rw [List.drop_zero] at h2
 change cl AP g145L0 _=some (.exit 0,⟨[(1,.aT 1 0),(3,hV ([]++nn k) e.ch),(4,.pv (vI e.aD.length)),(12,.pv (.bool false))],[(1,e.Df (.pv (.aI (e.aD.map Ar.pv))))],hS ([]++nn k) e.ch,hT e.ch⟩) at h2
 have hb2:e.kids.length*152≤140737488355328:=by omega
 have hm:=C2 (l:=e.kids)
 have hl:=nQ (l:=e.ch)
 have hlen:(a7 Ex.cells e.ch).length=e.ch.length*11:=dj cP
 have hq0:∀aE ts,bE aE ts ([some (a7 Ex.cells e.kids)])=([some (a7 Ex.cells e.kids)],aE,ts):=(bn.one bH).norm
 rw [aJ (af:=g145) rfl rfl (by decide)]
 by_cases hc:e.ch=[]
 · have h0:e.kids=[]∧e.aD=[]:=by have:=hc;simpa [Ex.ch] using this
   simp only [hc,hV,hS,hT,if_true,h0.1] at h2 ⊢
   rw [g145L0e] at h2
   simp [h0.1,h0.2] at h2
   simp [g145,h0.1,h0.2,g145L0e,h2]
 · have hg:∀Z:Option (List AV),([]++nn k++[Z])[k]?=some Z:=fun Z=>by simp
   by_cases h0:e.kids=[]
   · simp only [hV,hS,hT,if_neg hc,h0,if_true] at h2 ⊢
     have hg1:=hg (some (a7 Ex.cells e.ch))
     generalize []++nn k++[some (a7 Ex.cells e.ch)]=S2 at *
     generalize a7 Ex.cells e.ch=F at *
     rw [g145L0e] at h2
     simp [h0] at h2
     simp at hl
     simp [-getElem?_pos,g145,h0,g145L0e,h2,hg1,hlen,hl]
   · simp only [hV,hS,hT,if_neg hc,if_neg h0] at h2 ⊢
     have hg1:=hg (some (a7 Ex.cells e.ch))
     generalize []++nn k++[some (a7 Ex.cells e.ch)]=S2 at *
     generalize a7 Ex.cells e.ch=F at *
     generalize a7 Ex.cells e.kids=F0 at *
     rw [g145L0e] at h2
     simp [hq0] at h2 hl
     simp [-getElem?_pos,g145,h0,hb2,hm,hq0,g145L0e,h2,hg1,hlen,hl]
theorem Hz {e:Ex} (ha:e.aD.length≤1000):∀(n i:Nat),e.aD.length-i=n→i≤e.aD.length→∀acc:List Ex,acc.length+n≤1000000 →
   cl AP g414L0 ⟨[(3,.own (acc.map Ex.pv) 0),(10,.pv (.aI (e.aD.map Ar.pv))),(11,.pv (vI e.aD.length)),(12,.pv (vI i))],[],[],[acc.length]⟩ =
     some (.exit 0,⟨[(3,.own ((acc++(e.aD.drop i).map dz.body).map Ex.pv) 0),(10,.pv (.aI (e.aD.map Ar.pv))),(11,.pv (vI e.aD.length)),(12,.pv (vI e.aD.length)),(13,.pv (.bool false))],[],[],[(acc++(e.aD.drop i).map dz.body).length]⟩)
 | 0,i,hn,hi,acc,hl=>by
   have:i=e.aD.length:=by omega
   subst this
   rw [g414L0e]
   simp [g414B0]
 | n+1,i,hn,hi,acc,hl=>by
   have hi:i<e.aD.length:=by omega
   obtain ⟨x,hx⟩:=cE hi
   have ih:=Hz ha n (i+1) (by omega) (by omega) (acc++[x.body]) (by simp;omega)
   rw [dh hx]
   simp at ih
   rw [g414L0e]
   have hb:(acc.length+1)*152≤140737488355328:=by omega
   simp (disch:=omega) [-getElem?_pos,g414B0,hx,hi,aL,hb,ih]
theorem c414 {e:Ex} (h:e.Ok):(aW AP).p 414 [e.pv]=some [.aI (e.ch.map Ex.pv)]:=by
 have hk:=h.k
 have h2:=Hz h.a _ 0 rfl (by omega) e.kids (by have:=h.a;omega)
 simp at h2
 rw [aJ (af:=g414) rfl rfl (by decide)]
 have hb:e.kids.length*152≤140737488355328:=by omega
 by_cases h0:e.kids=[]
 · rw [g414L0e] at h2
   simp [h0] at h2
   simp [g414,Ex.ch,h0,g414L0e,h2]
 · simp [g414,Ex.ch,h0,hb,h2]
def zO:List AV:=[.pv (vI 0),.pv (vI 0),.pv (.str []),.pv (vI 0),.own [] 0,.own [] 1,.pv (vI 0),.pv (.str []),.pv (vI 0),.pv (vI 0),.own [] 2]
def dE (e:Ex) (i:Nat):List (List UInt8):=
 if e.kind=4∨e.kind=7∨(e.kind=6∧i=1) then [e.name]
 else if e.kind=8∧0<i then match e.aD[i-1]? with | some a=>a.vars | none=>[]
 else []
theorem c380 {e:Ex} {i:Nat} (hi:i<e.ch.length) (h8:e.kind=8→e.kids.length=1) (hO:e.Ok):(aW AP).p 380 [e.pv,vI i]=some [.aI ((dE e i).map .str)]:=by
 have ha:=hO.a
 rw [Ex.iM] at hi
 rw [aJ (af:=g380) rfl rfl (by decide)]
 unfold dE
 by_cases h1:e.kind=4
 · simp [g380,h1]
 · by_cases h2:e.kind=7
   · simp [g380,h1,h2]
   · by_cases h3:e.kind=6
     · by_cases h4:i=1
       · simp [g380,h1,h2,h3,h4]
       · have h4':¬(i:Int)=1:=by omega
         simp [g380,h1,h2,h3,h4,h4']
     · by_cases h5:e.kind=8
       · by_cases h6:0<i
         · have h6':(0:Int)<i:=by omega
           have hk:=h8 h5
           obtain ⟨a,hx⟩:=cE (l:=e.aD) (i:=i-1) (by omega)
           obtain ⟨m,rfl⟩:∃m:Nat,i=m+1:=⟨i-1,by omega⟩
           have hm:((m+1:Nat):Int)-1=m:=by omega
           have hm':((m:Int)+1)-1=m:=by omega
           simp at hx hi
           have hlt:m<e.aD.length:=by omega
           simp (disch:=omega) [-getElem?_pos,g380,h1,h2,h3,h5,h6,h6',aL,hm,hm',hx,hlt]
         · have:i=0:=by omega
           subst this
           simp [g380,h1,h2,h3,h5]
       · simp [g380,h1,h2,h3,h5]
theorem c411 {e:Ex} {i:Nat} (hi:i<e.ch.length) (h8:e.kind=8→e.kids.length=1) (hO:e.Ok):(aW AP).p 411 [e.pv,vI i]=some [.aI ((dE e i).map .str)]:=by
 have ha:=hO.a
 rw [Ex.iM] at hi
 rw [aJ (af:=g411) rfl rfl (by decide)]
 unfold dE
 by_cases h1:e.kind=4
 · simp [g411,h1]
 · by_cases h2:e.kind=7
   · simp [g411,h1,h2]
   · by_cases h3:e.kind=6
     · by_cases h4:i=1
       · simp [g411,h1,h2,h3,h4]
       · have h4':¬(i:Int)=1:=by omega
         simp [g411,h1,h2,h3,h4,h4']
     · by_cases h5:e.kind=8
       · have hk:=h8 h5
         by_cases h6:0<i
         · have h6':(1:Int)≤i:=by omega
           obtain ⟨a,hx⟩:=cE (l:=e.aD) (i:=i-1) (by omega)
           obtain ⟨m,rfl⟩:∃m:Nat,i=m+1:=⟨i-1,by omega⟩
           have hm:((m+1:Nat):Int)-1=m:=by omega
           have hm':((m:Int)+1)-1=m:=by omega
           simp at hx hi
           have hlt:m<e.aD.length:=by omega
           have h6'':(1:Int)≤(m:Int)+1:=by omega
           simp (disch:=omega) [-getElem?_pos,g411,h1,h2,h3,h5,hk,h6,h6',h6'',aL,hm,hm',hx,hlt]
         · have:i=0:=by omega
           subst this
           simp [g411,h1,h2,h3,h5,hk]
       · simp [g411,h1,h2,h3,h5]
end Go.Ab.Lw
namespace Go.Ab.Lw
open Ev
theorem HA {s:List eR} (hS:Sm s) {y:eR}:∀(n i:Nat),s.length-i=n→i≤s.length →
   cl AP g364L0 ⟨[(0,.pv (.aI (s.map .str))),(1,.pv (.str y)),(5,.pv (vI i))],[],[],[]⟩ =
     if y∈s.drop i then some (.ret,⟨[(4,.pv (.bool true))],[],[],[]⟩)
     else some (.exit 0,⟨[(0,.pv (.aI (s.map .str))),(1,.pv (.str y)),(5,.pv (vI s.length)),(9,.pv (.bool false))],[],[],[]⟩)
 | 0,i,hn,hi=>by
   have:i=s.length:=by omega
   subst this
   rw [g364L0e]
   simp [g364B0]
 | n+1,i,hn,hi=>by
   have hi:i<s.length:=by omega
   obtain ⟨x,hx⟩:=cE hi
   unfold Sm at hS
   have ih:=HA hS (y:=y) n (i+1) (by omega) (by omega)
   simp at ih
   rw [g364L0e,dh hx]
   by_cases e:x=y
   · subst e
     simp (disch:=omega) [-getElem?_pos,g364B0,hx,hi]
   · have e':¬y=x:=fun h=>e h.symm
     simp (disch:=omega) [-getElem?_pos,g364B0,hx,hi,e,e',aL,ih]
theorem c364 {s:List eR} (hS:Sm s) {y:eR}:(aW AP).p 364 [.aI (s.map .str),.str y]=some [.bool (decide (y∈s))]:=by
 have h:=HA hS (y:=y) _ 0 rfl (by omega)
 simp at h
 rw [aJ (af:=g364) rfl rfl (by decide)]
 by_cases e:y∈s<;>simp [e] at h<;>simp [g364,h,e]
inductive Ex.One:Ex→Prop
 | mk {e:Ex}:(e.kind=8→e.kids.length=1)→(∀x∈e.ch,x.One)→e.One
theorem Ex.One.h {e:Ex} (h:e.One):e.kind=8→e.kids.length=1:=by cases h;assumption
theorem Ex.One.c {e:Ex} (h:e.One):∀x∈e.ch,x.One:=by cases h;assumption
theorem kT {e:Ex} {i:Nat} (h:e.Ok):(dE e i).length≤1000:=by
 unfold dE
 split
 · simp
 · split
   · cases hx:e.aD[i-1]? with
     | none=>simp
     | some a=>exact h.v a (eE hx)
   · simp
end Go.Ab.Lw
namespace Go.Ab.Lw
open Ev
abbrev kg:List (List UInt8):=varNames
inductive eF (ds:List Dt):Nat→Ex→Prop
 | var {n:Nat} {s:List UInt8}:s∈kg→eF ds n ⟨1,0,s,0,[],[],gJ⟩
 | int {n:Nat} {m:Int}:0≤m→m<4→eF ds n ⟨3,0,[],m,[],[],gJ⟩
 | dZ {n:Nat} {d:Dt} {c:iL}:d∈ds→c∈d.cons→eF ds n ⟨2,0,c.name,0,[],[],gJ⟩
 | gone {n:Nat}:eF ds n ⟨2,0,[71,111,110,101],0,[],[],gJ⟩
 | hole {n:Nat}:eF ds n ⟨10,0,[],0,[],[],gJ⟩
 | lam {n:Nat} {s:List UInt8} {a:Ex}:s∈kg→eF ds n a→eF ds (n+1) ⟨4,0,s,0,[a],[],gJ⟩
 | app {n:Nat} {a b:Ex}:eF ds n a→eF ds n b→eF ds (n+1) ⟨5,0,[],0,[a,b],[],gJ⟩
 | HB {n:Nat} {k:Int} {s:List UInt8} {a b:Ex}:k=6∨k=7→s∈kg→eF ds n a→eF ds n b→eF ds (n+1) ⟨k,0,s,0,[a,b],[],gJ⟩
 | Ij {n:Nat} {a:Ex} {t:Ty}:eF ds n a→fj (·∈ds) [] 2 t→eF ds (n+1) ⟨9,0,[],0,[a],[],t⟩
 | held {n:Nat} {a:Ex}:eF ds n a→eF ds (n+1) ⟨11,0,[],0,[a],[],gJ⟩
 | up {n:Nat} {a:Ex}:eF ds n a→eF ds (n+1) a
 | Fh {n:Nat} {d:Dt} {a:Ex} {as:List Ar}:d∈ds→eF ds n a→as.length=d.cons.length→(∀x∈as,eF ds n x.body)→(∀x∈as,x.pos=0∧∀v∈x.vars,v∈kg) →
     (∀(i:Nat) (c:iL) (x:Ar),d.cons[i]?=some c→as[i]?=some x→x.dZ=c.name∧x.vars.length=c.fields.length)→eF ds (n+1) ⟨8,0,[],0,[a],as,gJ⟩
end Go.Ab.Lw
namespace Go.Ab.Lw
open Ev
def D8 (d:Dt):Prop:=d.params.length≤8∧0<d.cons.length∧d.cons.length≤8∧∀c∈d.cons,c.fields.length≤8
theorem C3:∀d∈cT,D8 d:=by
 intro d hd
 simp [cT] at hd
 rcases hd with rfl | rfl | rfl | rfl | rfl | rfl | rfl<;>simp [D8]
structure Iw (e:Ex) (C:List AV):Prop where
 len:C.length=11
 leaf:C.all aP=true
 eM:∀sh,dH sh C=some e.cells
 flat:bg.dr C=true
 EE:eJ C=true
def lB (f:Bool) (l:List PV):AV:=if f then .bR l else .pv (.aI l)
def ij (fk fa fg:Bool) (e:Ex):List AV:=[.pv (vI e.kind),.pv (vI e.pos),.pv (.str e.name),.pv (vI e.num),lB fk (e.kids.map Ex.pv),lB fa (e.aD.map Ar.pv),.pv (vI e.ty.kind),.pv (.str e.ty.name),.pv (vI e.ty.id),.pv (vI e.ty.home),lB fg (e.ty.args.map Ty.pv)]
theorem iN (fk fa fg:Bool) (e:Ex):Iw e (ij fk fa fg e):=by
 refine ⟨rfl,?_,?_,?_,?_⟩
 · cases fk<;>cases fa<;>cases fg<;>rfl
 · intro sh
   rw [Ex.cn]
   cases fk<;>cases fa<;>cases fg<;>simp [ij,lB]
 · cases fk<;>cases fa<;>cases fg<;>simp [ij,lB]
 · cases fk<;>cases fa<;>cases fg<;>simp [ij,lB]
def ql (L:List Int) (ds:List Dt) (dep:Nat):Prop:=∀i:Nat,i≤L.length→∃(e:Ex) (fk fa fg:Bool) (j:Nat),
 (aW AP).i 247 [.ba 0 0,.pv (.aI (ds.map Dt.pv)),.pv (vI dep)] (tp L i) []=some ([.agg (ij fk fa fg e)],tp L j,[])∧eF ds dep e∧j≤L.length
theorem s_ {L:List Int} (hL:Sm L) {ds:List Dt} (hds:ds.length≤8) (hD:∀d∈ds,D8 d) {dep:Nat} {i j1:Nat} {k:Int} (hj1:j1≤L.length)
   (e1:(aW AP).i 68 [.ba 0 0,.pv (vI 14)] (tp L i) []=some ([.pv (vI k)],tp L j1,[])) (k0:0≤k) (hk:if dep=0 then True else k<5) :
   ∃(e:Ex) (fk fa fg:Bool) (j:Nat),(aW AP).i 247 [.ba 0 0,.pv (.aI (ds.map Dt.pv)),.pv (vI dep)] (tp L i) []=some ([.agg (ij fk fa fg e)],tp L j,[])∧eF ds dep e∧j≤L.length:=by
 simp at e1
 obtain ⟨r,hr,hr0,hr1⟩:∃r:Int,(if dep=0 then k.tmod 5 else k)=r∧0≤r∧r<5:=by
   by_cases h:dep=0
   · refine ⟨k.tmod 5,by simp [h],?_,?_⟩
     · exact Int.tmod_nonneg 5 k0
     · exact Int.tmod_lt_of_pos k (by omega)
   · simp [h] at hk
     exact ⟨k,by simp [h],k0,hk⟩
 have hcase:r=0∨r=1∨r=2∨r=3∨r=4:=by omega
 have hd:dep=0∧k.tmod 5=r∨¬((dep:Int)<1)∧k=r:=by
   by_cases h:dep=0
   · simp [h] at hr;exact .inl ⟨h,hr⟩
   · simp [h] at hr;exact .inr ⟨by omega,hr⟩
 clear hr
 have hvar:r=0∨r=1→∃(e:Ex) (fk fa fg:Bool) (j:Nat),(aW AP).i 247 [.ba 0 0,.pv (.aI (ds.map Dt.pv)),.pv (vI dep)] (tp L i) []=some ([.agg (ij fk fa fg e)],tp L j,[])∧eF ds dep e∧j≤L.length:=by
   intro h
   obtain ⟨s,j,e2,hs,hj⟩:=c175 hL hj1
   simp at e2
   refine ⟨⟨1,0,s,0,[],[],gJ⟩,true,true,true,j,?_,.var hs,hj⟩
   rw [aZ (af:=g247) rfl (by simp [g247])]
   rcases h with rfl | rfl<;>rcases hd with ⟨rfl,h2⟩ | ⟨h1,rfl⟩
   · simp [g247,e1,h2,e2,ij,lB,gJ]
   · simp [g247,e1,h1,e2,ij,lB,gJ]
   · simp [g247,e1,h2,e2,ij,lB,gJ]
   · simp [g247,e1,h1,e2,ij,lB,gJ]
 rcases hcase with rfl | rfl | rfl | rfl | rfl
 · exact hvar (.inl rfl)
 · exact hvar (.inr rfl)
 · obtain ⟨m,j,e2,m0,m4,hj⟩:=c68 hL hj1 (n:=4) (by omega) (by omega)
   simp at e2
   refine ⟨⟨3,0,[],m,[],[],gJ⟩,true,true,true,j,?_,.int m0 m4,hj⟩
   rw [aZ (af:=g247) rfl (by simp [g247])]
   rcases hd with ⟨rfl,h2⟩ | ⟨h1,rfl⟩
   · simp [g247,e1,h2,e2,ij,lB,gJ]
   · simp [g247,e1,h1,e2,ij,lB,gJ]
 · by_cases h0:ds=[]
   · subst h0
     refine ⟨⟨2,0,[71,111,110,101],0,[],[],gJ⟩,true,true,true,j1,?_,.gone,hj1⟩
     rw [aZ (af:=g247) rfl (by simp [g247])]
     rcases hd with ⟨rfl,h2⟩ | ⟨h1,rfl⟩
     · simp [g247,e1,h2,ij,lB,gJ]
     · simp [g247,e1,h1,ij,lB,gJ]
   · have hp:0<ds.length:=List.length_pos_iff.2 h0
     obtain ⟨n,j2,e2,n0,n1,hj2⟩:=c68 hL hj1 (n:=ds.length) (by omega) (by omega)
     obtain ⟨m,rfl,hm⟩:=wW n0 n1
     obtain ⟨d,hx⟩:=cE hm
     obtain ⟨_,hc0,hc8,_⟩:=hD d (eE hx)
     obtain ⟨n',j3,e3,n0',n1',hj3⟩:=c68 hL hj2 (n:=d.cons.length) (by omega) (by omega)
     obtain ⟨m',rfl,hm'⟩:=wW n0' n1'
     obtain ⟨c,hy⟩:=cE hm'
     simp at e2 e3
     refine ⟨⟨2,0,c.name,0,[],[],gJ⟩,true,true,true,j3,?_,.dZ (eE hx) (eE hy),hj3⟩
     rw [aZ (af:=g247) rfl (by simp [g247])]
     rcases hd with ⟨rfl,h2⟩ | ⟨h1,rfl⟩
     · simp [-getElem?_pos,g247,e1,h2,e2,e3,hp,hx,hy,ij,lB,gJ]
     · simp [-getElem?_pos,g247,e1,h1,e2,e3,hp,hx,hy,ij,lB,gJ]
 · refine ⟨⟨10,0,[],0,[],[],gJ⟩,true,true,true,j1,?_,.hole,hj1⟩
   rw [aZ (af:=g247) rfl (by simp [g247])]
   rcases hd with ⟨rfl,h2⟩ | ⟨h1,rfl⟩
   · simp [g247,e1,h2,ij,lB,gJ]
   · simp [g247,e1,h1,ij,lB,gJ]
theorem C4 {L:List Int} (hL:Sm L) {ds:List Dt} (hds:ds.length≤8) (hD:∀d∈ds,D8 d) {dep:Nat} (hdep:dep<1000) (hg:ql L ds dep) {i j1:Nat} {k:Int} (hj1:j1≤L.length)
   (e1:(aW AP).i 68 [.ba 0 0,.pv (vI 14)] (tp L i) []=some ([.pv (vI k)],tp L j1,[])) (k5:5≤k) (k12:k≤12) :
   ∃(e:Ex) (fk fa fg:Bool) (j:Nat),(aW AP).i 247 [.ba 0 0,.pv (.aI (ds.map Dt.pv)),.pv (vI (dep+1:Nat))] (tp L i) []=some ([.agg (ij fk fa fg e)],tp L j,[])∧eF ds (dep+1) e∧j≤L.length:=by
 simp at e1
 have h1:¬((dep:Int)+1<1):=by omega
 have h2:(dep:Int)+1-1=dep:=by omega
 have hc:k=5∨k=6∨k=7∨k=8∨k=9∨k=10∨k=11∨k=12:=by omega
 have hlam:k=5∨k=6→∃(e:Ex) (fk fa fg:Bool) (j:Nat),(aW AP).i 247 [.ba 0 0,.pv (.aI (ds.map Dt.pv)),.pv (vI (dep+1:Nat))] (tp L i) []=some ([.agg (ij fk fa fg e)],tp L j,[])∧eF ds (dep+1) e∧j≤L.length:=by
   intro h
   obtain ⟨s,j2,e2,hs,hj2⟩:=c175 hL hj1
   obtain ⟨a,f1,f2,f3,j3,e3,ha,hj3⟩:=hg j2 hj2
   have hA:=iN f1 f2 f3 a
   generalize ij f1 f2 f3 a=A at e3 hA
   simp at e2 e3
   refine ⟨⟨4,0,s,0,[a],[],gJ⟩,true,true,true,j3,?_,.lam hs ha,hj3⟩
   rw [aZ (af:=g247) rfl (by simp [g247])]
   have ac:=Ex.cn a
   rcases h with rfl | rfl<;>simp (disch:=omega) [g247,e1,h1,h2,aL,e2,e3,hA.eM,hA.flat,hA.EE,hA.len,hA.leaf,ac,ij,lB,gJ]
 have happ:k=7∨k=8∨k=9→∃(e:Ex) (fk fa fg:Bool) (j:Nat),(aW AP).i 247 [.ba 0 0,.pv (.aI (ds.map Dt.pv)),.pv (vI (dep+1:Nat))] (tp L i) []=some ([.agg (ij fk fa fg e)],tp L j,[])∧eF ds (dep+1) e∧j≤L.length:=by
   intro h
   obtain ⟨a,f1,f2,f3,j2,e2,ha,hj2⟩:=hg j1 hj1
   obtain ⟨b,f4,f5,f6,j3,e3,hb,hj3⟩:=hg j2 hj2
   have hA:=iN f1 f2 f3 a
   generalize ij f1 f2 f3 a=A at e2 hA
   have hB:=iN f4 f5 f6 b
   generalize ij f4 f5 f6 b=B at e3 hB
   simp at e2 e3
   refine ⟨⟨5,0,[],0,[a,b],[],gJ⟩,true,true,true,j3,?_,.app ha hb,hj3⟩
   rw [aZ (af:=g247) rfl (by simp [g247])]
   have ac:=Ex.cn a
   have bc:=Ex.cn b
   have tA:A.take 11=A:=List.take_of_length_le (by rw [hA.len];omega)
   rcases h with rfl | rfl | rfl<;>simp (disch:=omega) [g247,e1,h1,h2,aL,e2,e3,hA.eM,hA.flat,hA.EE,hA.len,hA.leaf,hB.eM,hB.flat,hB.EE,hB.len,hB.leaf,tA,ac,bc,dK,ij,lB,gJ]
 rcases hc with h | h | h | h | h | rfl | rfl | rfl
 · exact hlam (.inl h)
 · exact hlam (.inr h)
 · exact happ (.inl h)
 · exact happ (.inr (.inl h))
 · exact happ (.inr (.inr h))
 · obtain ⟨r,j2,e2,r0,r1,hj2⟩:=c68 hL hj1 (n:=2) (by omega) (by omega)
   obtain ⟨s,j3,e3,hs,hj3⟩:=c175 hL hj2
   obtain ⟨a,f1,f2,f3,j4,e4,ha,hj4⟩:=hg j3 hj3
   obtain ⟨b,f4,f5,f6,j5,e5,hb,hj5⟩:=hg j4 hj4
   have hA:=iN f1 f2 f3 a
   generalize ij f1 f2 f3 a=A at e4 hA
   have hB:=iN f4 f5 f6 b
   generalize ij f4 f5 f6 b=B at e5 hB
   simp at e2 e3 e4 e5
   have ac:=Ex.cn a
   have bc:=Ex.cn b
   have tA:A.take 11=A:=List.take_of_length_le (by rw [hA.len];omega)
   have hk:6+r=6∨6+r=7:=by omega
   refine ⟨⟨6+r,0,s,0,[a,b],[],gJ⟩,true,true,true,j5,?_,.HB hk hs ha hb,hj5⟩
   rw [aZ (af:=g247) rfl (by simp [g247])]
   simp (disch:=omega) [g247,e1,h1,h2,aL,e2,e3,e4,e5,hA.eM,hA.flat,hA.EE,hA.len,hA.leaf,hB.eM,hB.flat,hB.EE,hB.len,hB.leaf,tA,ac,bc,dK,ij,lB,gJ]
 · obtain ⟨a,f1,f2,f3,j2,e2,ha,hj2⟩:=hg j1 hj1
   have hA:=iN f1 f2 f3 a
   generalize ij f1 f2 f3 a=A at e2 hA
   obtain ⟨t,j3,e3,ht,hj3⟩:=Hq hL (ds:=ds) (by omega) (fun d hd=>(hD d hd).1) (lv:=[]) (by simp [Sm]) 2 (by omega) j2 hj2
   simp [Ty.av] at e2 e3
   have ac:=Ex.cn a
   refine ⟨⟨9,0,[],0,[a],[],t⟩,true,true,false,j3,?_,.Ij ha ht,hj3⟩
   rw [aZ (af:=g247) rfl (by simp [g247])]
   simp (disch:=omega) [g247,e1,h1,h2,aL,e2,e3,hA.eM,hA.flat,hA.EE,hA.len,hA.leaf,ac,ij,lB,gJ]
 · obtain ⟨a,f1,f2,f3,j2,e2,ha,hj2⟩:=hg j1 hj1
   have hA:=iN f1 f2 f3 a
   generalize ij f1 f2 f3 a=A at e2 hA
   simp at e2
   have ac:=Ex.cn a
   refine ⟨⟨11,0,[],0,[a],[],gJ⟩,true,true,true,j2,?_,.held ha,hj2⟩
   rw [aZ (af:=g247) rfl (by simp [g247])]
   simp (disch:=omega) [g247,e1,h1,h2,aL,e2,hA.eM,hA.flat,hA.EE,hA.len,hA.leaf,ac,ij,lB,gJ]
end Go.Ab.Lw
namespace Go.Ab.Lw
open Ev
def m6:List AV:=[.pv (vI 0),.pv (vI 0),.pv (.str []),.pv (vI 0),.own [] 0,.own [] 1,.pv (vI 0),.pv (.str []),.pv (vI 0),.pv (vI 0),.own [] 2]
def EF (d:Dt):List AV:=[.pv (vI d.pos),.pv (.str d.name),.pv (.aI (d.params.map .str)),.pv (.aI (d.cons.map iL.pv))]
def EG (a:Ex) (as:List Ar):List AV:=[.pv (vI 8),.pv (vI 0),.pv (.str []),.pv (vI 0),.own [a.pv] 3,.own (as.map Ar.pv) 4,.pv (vI 0),.pv (.str []),.pv (vI 0),.pv (vI 0),.own [] 5]
def HC (c:iL) (vs:List eR):List AV:=[.pv (vI 0),.pv (.str c.name),.own (vs.map .str) 6,.pv (vI 0),.pv (vI 0),.pv (.str []),.pv (vI 0),.own [] 7,.own [] 8,.pv (vI 0),.pv (.str []),.pv (vI 0),.pv (vI 0),.own [] 9]
theorem Fi {L:List Int} (hL:Sm L) {ds:List Dt} {dep:Nat} {d:Dt} {a:Ex} {as:List Ar} {ci:Nat} {c:iL} (hc:d.cons[ci]?=some c) (h8:c.fields.length≤8):∀(n k:Nat),c.fields.length-k=n→k≤c.fields.length→∀(vs:List eR) (i:Nat),vs.length=k→(∀v∈vs,v∈kg)→i≤L.length →
   ∃(r:List eR) (j:Nat),cl AP g247L1 ⟨[(0,.ba 0 0),(1,.pv (.aI (ds.map Dt.pv))),(2,.pv (vI (dep+1))),(6,.aT 6 0),(13,.aT 13 0),(14,.aT 14 0),(15,.pv (vI ci)),(16,.aT 16 0),(17,.pv (vI k))],
     [(6,m6),(13,EF d),(14,EG a as),(16,HC c vs)],tp L i,[0,0,0,1,as.length,0,vs.length,0,0,0]⟩ =
     some (.exit 3,⟨[(0,.ba 0 0),(1,.pv (.aI (ds.map Dt.pv))),(2,.pv (vI (dep+1))),(6,.aT 6 0),(13,.aT 13 0),(14,.aT 14 0),(15,.pv (vI ci)),(16,.aT 16 0),(17,.pv (vI c.fields.length)),(179,.pv (.bool false))],
     [(6,m6),(13,EF d),(14,EG a as),(16,HC c r)],tp L j,[0,0,0,1,as.length,0,r.length,0,0,0]⟩) ∧
     r.length=c.fields.length∧(∀v∈r,v∈kg)∧j≤L.length
 | 0,k,hn,hk,vs,i,hv,hm,hi=>by
   have:k=c.fields.length:=by omega
   subst this
   refine ⟨vs,i,?_,hv,hm,hi⟩
   have hcl:=(List.getElem?_eq_some_iff.1 hc).1
   rw [g247L1e]
   simp [-getElem?_pos,g247B1,m6,EF,EG,HC,hc,hcl]
 | n+1,k,hn,hk,vs,i,hv,hm,hi=>by
   have hk:k<c.fields.length:=by omega
   have hcl:=(List.getElem?_eq_some_iff.1 hc).1
   have hb:(vs.length+1)*16≤140737488355328:=by omega
   obtain ⟨s,j,e,hs,hj⟩:=c175 hL hi
   simp at e
   obtain ⟨r,j',e',hr,hm',hj'⟩:=Fi hL hc h8 (a:=a) (as:=as) (ds:=ds) (dep:=dep) n (k+1) (by omega) (by omega) (vs++[s]) j (by simp;omega) (by
     intro x hx;simp at hx;rcases hx with hx | rfl
     · exact hm x hx
     · exact hs) hj
   refine ⟨r,j',?_,hr,hm',hj'⟩
   simp [m6,EF,EG,HC] at e' ⊢
   rw [g247L1e]
   simp (disch:=omega) [-getElem?_pos,g247B1,hc,hcl,hk,aL,e,hb,dK]
   exact e'
def wZ (ds:List Dt) (dep:Nat) (d:Dt) (as:List Ar):Prop:=
 (∀x∈as,eF ds dep x.body)∧(∀x∈as,x.pos=0∧∀v∈x.vars,v∈kg)∧(∀(i:Nat) (c:iL) (x:Ar),d.cons[i]?=some c→as[i]?=some x→x.dZ=c.name∧x.vars.length=c.fields.length)
theorem Fj {L:List Int} (hL:Sm L) {ds:List Dt} {dep:Nat} (hdep:dep<1000) (hg:ql L ds dep) {d:Dt} (hD:D8 d) {a:Ex}:∀(n k:Nat),d.cons.length-k=n→k≤d.cons.length→∀(as:List Ar) (i:Nat),as.length=k→wZ ds dep d as→i≤L.length →
   ∃(r:List Ar) (j:Nat),cl AP g247L0 ⟨[(0,.ba 0 0),(1,.pv (.aI (ds.map Dt.pv))),(2,.pv (vI (dep+1))),(6,.aT 6 0),(13,.aT 13 0),(14,.aT 14 0),(15,.pv (vI k))],
     [(6,m6),(13,EF d),(14,EG a as)],tp L i,[0,0,0,1,as.length,0]⟩ =
     some (.exit 1,⟨[(0,.ba 0 0),(1,.pv (.aI (ds.map Dt.pv))),(2,.pv (vI (dep+1))),(6,.aT 6 0),(13,.aT 13 0),(14,.aT 14 0),(15,.pv (vI d.cons.length)),(161,.pv (.bool false))],
     [(6,m6),(13,EF d),(14,EG a r)],tp L j,[0,0,0,1,r.length,0]⟩) ∧
     r.length=d.cons.length∧wZ ds dep d r∧j≤L.length
 | 0,k,hn,hk,as,i,ha,hm,hi=>by
   have:k=d.cons.length:=by omega
   subst this
   refine ⟨as,i,?_,ha,hm,hi⟩
   rw [g247L0e]
   simp [g247B0,m6,EF,EG]
 | n+1,k,hn,hk,as,i,ha,hm,hi=>by
   have hk:k<d.cons.length:=by omega
   obtain ⟨c,hc⟩:=cE hk
   obtain ⟨_,_,h8,hf⟩:=hD
   obtain ⟨vs,j,e,hv,hvm,hj⟩:=Fi hL (ds:=ds) (dep:=dep) (a:=a) (as:=as) hc (hf c (eE hc)) _ 0 rfl (by omega) [] i rfl (by simp) hi
   obtain ⟨b,f1,f2,f3,j2,e2,hb,hj2⟩:=hg j hj
   have hB:=iN f1 f2 f3 b
   generalize ij f1 f2 f3 b=B at e2 hB
   have bc:=Ex.cn b
   have tB:B.take 11=B:=List.take_of_length_le (by rw [hB.len];omega)
   have hbb:(as.length+1)*200≤140737488355328:=by omega
   have hm2:wZ ds dep d (as++[⟨0,c.name,vs,b⟩]):=by
     refine ⟨?_,?_,?_⟩
     · intro x hx
       simp at hx
       rcases hx with hx | rfl
       · exact hm.1 x hx
       · exact hb
     · intro x hx
       simp at hx
       rcases hx with hx | rfl
       · exact hm.2.1 x hx
       · exact ⟨rfl,hvm⟩
     · intro i c' x h1 h2
       by_cases hlt:i<as.length
       · rw [List.getElem?_append_left hlt] at h2
         exact hm.2.2 i c' x h1 h2
       · rw [List.getElem?_append_right (by omega)] at h2
         have:i-as.length=0:=by
           have:=(List.getElem?_eq_some_iff.1 h2).1
           simpa using this
         have hik:i=k:=by omega
         subst hik
         rw [hc] at h1
         cases h1
         rw [this] at h2
         simp at h2
         subst h2
         exact ⟨rfl,hv⟩
   obtain ⟨r,j',e',hr,hm',hj'⟩:=Fj hL hdep hg ⟨by assumption,by assumption,h8,hf⟩ (a:=a) n (k+1) (by omega) (by omega) (as++[⟨0,c.name,vs,b⟩]) j2 (by simp;omega) hm2 hj2
   refine ⟨r,j',?_,hr,hm',hj'⟩
   have hd1:(dep:Int)+1-1=dep:=by omega
   rw [g247L1e] at e
   rw [g247L0e] at e'
   simp [m6,EF,EG,HC] at e e' e2 ⊢
   rw [g247L0e]
   simp (disch:=omega) [-getElem?_pos,g247B0,hc,hk,aL,hd1,g247L1e,e,e2,hbb,dK,hB.eM,hB.flat,hB.EE,hB.len,hB.leaf,tB,bc]
   rw [g247L0e]
   simp [e']
theorem C5 {L:List Int} (hL:Sm L) {ds:List Dt} (hds:ds.length≤8) (hD:∀d∈ds,D8 d) {dep:Nat} (hdep:dep<1000) (hg:ql L ds dep) {i j1:Nat} {k:Int} (hj1:j1≤L.length)
   (e1:(aW AP).i 68 [.ba 0 0,.pv (vI 14)] (tp L i) []=some ([.pv (vI k)],tp L j1,[])) (k13:k=13) :
   ∃(e:Ex) (fk fa fg:Bool) (j:Nat),(aW AP).i 247 [.ba 0 0,.pv (.aI (ds.map Dt.pv)),.pv (vI (dep+1:Nat))] (tp L i) []=some ([.agg (ij fk fa fg e)],tp L j,[])∧eF ds (dep+1) e∧j≤L.length:=by
 subst k13
 simp at e1
 have h1:¬((dep:Int)+1<1):=by omega
 have h2:(dep:Int)+1-1=dep:=by omega
 by_cases h0:ds=[]
 · subst h0
   obtain ⟨a,f1,f2,f3,j2,e2,ha,hj2⟩:=hg j1 hj1
   refine ⟨a,f1,f2,f3,j2,?_,.up ha,hj2⟩
   rw [aZ (af:=g247) rfl (by simp [g247])]
   cases f1<;>cases f2<;>cases f3<;>simp [ij,lB] at e2<;>simp (disch:=omega) [g247,e1,h1,h2,aL,e2,ij,lB,dK]
 · have hp:0<ds.length:=List.length_pos_iff.2 h0
   obtain ⟨r,j2,e2,r0,r1,hj2⟩:=c68 hL hj1 (n:=ds.length) (by omega) (by omega)
   obtain ⟨m,rfl,hm⟩:=wW r0 r1
   obtain ⟨d,hx⟩:=cE hm
   have hDd:=hD d (eE hx)
   obtain ⟨a,f1,f2,f3,j3,e3,ha,hj3⟩:=hg j2 hj2
   have hA:=iN f1 f2 f3 a
   generalize ij f1 f2 f3 a=A at e3 hA
   have ac:=Ex.cn a
   obtain ⟨as,j4,e4,hal,hao,hj4⟩:=Fj hL hdep hg hDd (a:=a) _ 0 rfl (by omega) [] j3 rfl ⟨by simp,by simp,by simp⟩ hj3
   simp at e2 e3
   refine ⟨⟨8,0,[],0,[a],as,gJ⟩,false,false,false,j4,?_,.Fh (eE hx) ha hal hao.1 hao.2.1 hao.2.2,hj4⟩
   rw [aZ (af:=g247) rfl (by simp [g247])]
   rw [g247L0e] at e4
   simp [m6,EF,EG] at e4
   simp (disch:=omega) [-getElem?_pos,g247,e1,h1,h2,h0,aL,e2,e3,hp,hx,hA.eM,hA.flat,hA.EE,hA.len,hA.leaf,ac,g247L0e,e4,dK,ij,lB,gJ]
theorem c247 {L:List Int} (hL:Sm L) {ds:List Dt} (hds:ds.length≤8) (hD:∀d∈ds,D8 d):∀dep:Nat,dep<1000→ql L ds dep
 | 0,_=>fun i hi=>by
   obtain ⟨k,j1,e1,k0,k14,hj1⟩:=c68 hL hi (n:=14) (by omega) (by omega)
   exact s_ hL hds hD hj1 e1 k0 (by simp)
 | dep+1,h=>fun i hi=>by
   obtain ⟨k,j1,e1,k0,k14,hj1⟩:=c68 hL hi (n:=14) (by omega) (by omega)
   have hg:=c247 hL hds hD dep (by omega)
   by_cases h5:k<5
   · exact s_ hL hds hD hj1 e1 k0 (by simpa using h5)
   · by_cases h12:k≤12
     · exact C4 hL hds hD (by omega) hg hj1 e1 (by omega) h12
     · exact C5 hL hds hD (by omega) hg hj1 e1 (by omega)
end Go.Ab.Lw
namespace Go.Ab.Lw
open Ev
theorem g_:gJ.Ok:=mF rfl
end Go.Ab.Lw
namespace Go.Ab.Lw
open Ev
theorem Gg {sz:Nat} {l:List PV} {k:IntKind} {h:Int} (h0:0≤h) (h1:h≤l.length):eG false sz false true false [.pv (.aI l),.pv (.int k h)]=some (.pv (.aI (l.take h.toNat))):=by
 simp [eG,cC,fE,h0,h1]
end Go.Ab.Lw
namespace Go.Ab.Lw
open Ev
def eQ:List Ar→List Ex→List Ar
 | a::as,x::xs=>⟨a.pos,a.dZ,a.vars,x⟩::eQ as xs
 | as,_=>as
theorem kU:∀{as:List Ar} {xs:List Ex},(eQ as xs).length=as.length
 | [],xs=>by cases xs<;>rfl
 | a::as,[]=>rfl
 | a::as,x::xs=>by simp [eQ,kU (as:=as) (xs:=xs)]
def Ex.qm (e:Ex) (c:List Ex):Ex:=if c.length=e.kids.length+e.aD.length then ⟨e.kind,e.pos,e.name,e.num,c.take e.kids.length,eQ e.aD (c.drop e.kids.length),e.ty⟩ else e
theorem kh {l:List Ar}:((eS (a7 Ar.cells l)).bind (eK 14 true l.length)).map PV.aI=some (.aI (l.map Ar.pv)):=xC bX
theorem w0 {l:List Ar}:((l.map Ar.pv).flatMap aU).map AV.pv=a7 Ar.cells l:=xD bX
theorem EH {c:List Ex} {n:Nat} (h:n≤c.length):eG false 11 false true false [.pv (.aI (c.map Ex.pv)),.pv (.int .i64 (n:Int))]=some (.pv (.aI ((c.map Ex.pv).take n))):=by
 have:=Gg (sz:=11) (l:=c.map Ex.pv) (k:=.i64) (h:=n) (by omega) (by simp;omega)
 simpa using this
theorem Fk {sz:Nat} {l:List PV}:eG false sz false true false [.pv (.aI l),.pv (.int .i64 0)]=some (.pv (.aI [])):=by
 simp [eG,cC,fE]
def GC (e:Ex) (K:List Ex) (A:AV):List AV:=[.pv (vI e.kind),.pv (vI e.pos),.pv (.str e.name),.pv (vI e.num),.own (K.map Ex.pv) 3,A,.pv (vI e.ty.kind),.pv (.str e.ty.name),.pv (vI e.ty.id),.pv (vI e.ty.home),.pv (.aI (e.ty.args.map Ty.pv))]
theorem HD {e:Ex} {c K:List Ex} {n0 N:Nat} (hN:N≤1000) (hc:c.length=n0+N) (hn0:n0≤1000):∀(n i:Nat),N-i=n→i≤N→∀as:List Ar,as.length=N →
   cl AP g374L0 ⟨[(1,.pv (.aI (c.map Ex.pv))),(4,.aT 4 0),(5,.pv (vI n0)),(6,.aT 6 0),(7,.pv (vI i))],[(4,zO),(6,GC e K (.bd 0 14 N true))],[some (a7 Ar.cells as)],[0,0,0,K.length]⟩ =
     some (.exit 0,⟨[(1,.pv (.aI (c.map Ex.pv))),(4,.aT 4 0),(5,.pv (vI n0)),(6,.aT 6 0),(7,.pv (vI N)),(34,.pv (.bool false))],[(4,zO),(6,GC e K (.bd 0 14 N true))],[some (a7 Ar.cells (as.take i++eQ (as.drop i) (c.drop (n0+i))))],[0,0,0,K.length]⟩)
 | 0,i,hn,hi,as,ha=>by
   have:i=N:=by omega
   subst this
   have hq:∀aE ts,bE aE ts [some (a7 Ar.cells as)]=([some (a7 Ar.cells as)],aE,ts):=(bn.one bH).norm
   rw [nM (l:=as) (by omega),List.take_of_length_le (by omega)]
   simp only [eQ,List.append_nil]
   generalize a7 Ar.cells as=T at *
   rw [g374L0e]
   simp [g374B0,GC,zO,hq]
 | n+1,i,hn,hi,as,ha=>by
   have hi:i<N:=by omega
   obtain ⟨a,hx⟩:=cE (l:=as) (i:=i) (by omega)
   obtain ⟨x,hy⟩:=cE (l:=c) (i:=n0+i) (by omega)
   have hci:n0+i<c.length:=by omega
   have ih:=HD (e:=e) (K:=K) hN hc hn0 n (i+1) (by omega) (by omega) (as.set i ⟨a.pos,a.dZ,a.vars,x⟩) (by simpa using ha)
   have hset:=jE bX hx (y:=⟨a.pos,a.dZ,a.vars,x⟩) (o:=3) (vs:=x.cells) (by rw [cP.len];omega) (by
     have h1:=cP.len a.body
     have h2:=cP.len x
     simp only [Ar.cells,List.take_succ_cons,List.take_zero,List.cons_append,List.nil_append,List.drop_succ_cons,List.drop_zero,h2]
     rw [List.drop_eq_nil_of_le (by simp [h1]),List.append_nil])
   rw [Ex.jk] at hset
   have hfin:as.take i++eQ (as.drop i) (c.drop (n0+i))=(as.set i ⟨a.pos,a.dZ,a.vars,x⟩).take (i+1)++eQ ((as.set i ⟨a.pos,a.dZ,a.vars,x⟩).drop (i+1)) (c.drop (n0+(i+1))):=by
     have h1:(as.set i ⟨a.pos,a.dZ,a.vars,x⟩).take (i+1)=as.take i++[⟨a.pos,a.dZ,a.vars,x⟩]:=by
       rw [List.set_eq_take_append_cons_drop,if_pos (by omega),List.take_append,List.take_of_length_le (by simp;omega)]
       have:i+1-(as.take i).length=1:=by simp;omega
       rw [this];rfl
     rw [h1,List.drop_set_of_lt (by omega),dh hx,dh hy]
     simp [eQ,Nat.add_assoc]
   rw [hfin]
   generalize (as.set i ⟨a.pos,a.dZ,a.vars,x⟩).take (i+1)++eQ ((as.set i ⟨a.pos,a.dZ,a.vars,x⟩).drop (i+1)) (c.drop (n0+(i+1)))=R at ih ⊢
   have hq:∀aE ts,bE aE ts [some (a7 Ar.cells as)]=([some (a7 Ar.cells as)],aE,ts):=(bn.one bH).norm
   have hq1:∀aE ts,bE aE ts [some (a7 Ar.cells (as.set i ⟨a.pos,a.dZ,a.vars,x⟩))]=([some (a7 Ar.cells (as.set i ⟨a.pos,a.dZ,a.vars,x⟩))],aE,ts):=(bn.one bH).norm
   have hB:cA (a7 Ar.cells as)=false:=e9 bH
   have hlen:(a7 Ar.cells as).length=N*14:=by rw [dj bX,ha]
   have hle:i*14+3+11≤N*14:=by omega
   generalize a7 Ar.cells (as.set i ⟨a.pos,a.dZ,a.vars,x⟩)=T1 at *
   generalize a7 Ar.cells as=T at *
   have hil:((n0:Int)+i).toNat=n0+i:=by omega
   have hpos:¬((n0:Int)+i<0):=by omega
   rw [g374L0e] at ih ⊢
   simp [GC,zO,hq1] at ih hset
   simp (disch:=omega) [-getElem?_pos,g374B0,GC,zO,hq,hi,hy,hci,hB,hlen,hle,hset,aL,hil,hpos]
   rw [g374L0e]
   simp [hq1,ih]
theorem ta {xs:List Ex}:eQ [] xs=[]:=by cases xs<;>rfl
theorem c374 {e:Ex} (hk:e.kids.length≤1000) (ha:e.aD.length≤1000) {c:List Ex}:(aW AP).p 374 [e.pv,.aI (c.map Ex.pv)]=some [(e.qm c).pv]:=by
 rw [aJ (af:=g374) rfl rfl (by decide)]
 unfold Ex.qm
 have hw:((e.kids.length:Int)+e.aD.length).toNat=e.kids.length+e.aD.length:=by omega
 by_cases hc:c.length=e.kids.length+e.aD.length
 · rw [if_pos hc]
   have hci:(c.length:Int)=(e.kids.length:Int)+e.aD.length:=by omega
   have hle:e.kids.length≤c.length:=by omega
   have hsl:=EH hle
   have hsl2:(c.take e.kids.length).length=e.kids.length:=by simp;omega
   have hb1:e.kids.length*152≤140737488355328:=by omega
   have hb2:e.aD.length*200≤140737488355328:=by omega
   have hz:e.kids.length=0↔c.take e.kids.length=[]:=by rw [←List.length_eq_zero_iff,hsl2]
   rw [←List.map_take] at hsl
   by_cases hA:e.aD=[]
   · have hn:e.aD.length=0:=by rw [hA];rfl
     rw [hn] at hci
     simp at hci
     generalize hK:c.take e.kids.length=K at *
     rw [hA,ta]
     by_cases hK0:K=[]
     · subst hK0
       have h0:=hz.2 rfl
       simp [h0] at hci
       simp (disch:=omega) [g374,g374L0e,g374B0,hA,hci,Fk,aL,h0]
     · simp (disch:=omega) [g374,g374L0e,g374B0,hA,hci,hsl,aL,hK0,hsl2,hb1]
   · have h:=HD (e:=e) (c:=c) (K:=c.take e.kids.length) ha hc hk _ 0 rfl (by omega) e.aD rfl
     simp only [List.take_zero,List.drop_zero,List.nil_append,Nat.add_zero] at h
     have hm:=w0 (l:=e.aD)
     have hl:=kh (l:=eQ e.aD (c.drop e.kids.length))
     have hlen:(a7 Ar.cells (eQ e.aD (c.drop e.kids.length))).length=e.aD.length*14:=by rw [dj bX,kU]
     rw [kU] at hl
     have hq:∀aE ts,bE aE ts [some (a7 Ar.cells e.aD)]=([some (a7 Ar.cells e.aD)],aE,ts):=(bn.one bH).norm
     generalize eQ e.aD (c.drop e.kids.length)=R at *
     generalize a7 Ar.cells R=TR at *
     generalize hK:c.take e.kids.length=K at *
     rw [g374L0e] at h
     generalize a7 Ar.cells e.aD=T at *
     simp [GC,zO,hq] at h
     simp at hl
     by_cases hK0:K=[]
     · subst hK0
       have h0:=hz.2 rfl
       simp [h0] at h hci
       simp (disch:=omega) [-getElem?_pos,g374,hA,hci,Fk,aL,h0,hb2,hm,hq,g374L0e,h,hlen,hl]
     · simp only [hsl2] at h
       simp (disch:=omega) [-getElem?_pos,g374,hA,hci,hsl,aL,hK0,hsl2,hb1,hb2,hm,hq,g374L0e,h,hlen,hl]
 · rw [if_neg hc]
   have hci:¬(c.length:Int)=(e.kids.length:Int)+e.aD.length:=by omega
   simp (disch:=omega) [g374,hci,aL]
end Go.Ab.Lw
namespace Go.Ab.Lw
open Ev
def C6 (cs:List iL) (s:eR):Option Nat:=cH (fun c=>decide (c.name=s)) cs
def iO:List Dt→eR→Nat→Option (Nat×Nat)
 | [],_,_=>none
 | d::r,s,i=>match C6 d.cons s with
   | some k=>some (i,k)
   | none=>iO r s (i+1)
def rF:Option (Nat×Nat)→List PV
 | some (i,k)=>[vI i,vI k,.bool true]
 | none=>[vI 0,vI 0,.bool false]
theorem Fl {ds:List Dt} {s:eR} {i:Nat} {cs:List iL} (hS:Sm cs):∀(n k:Nat),cs.length-k=n→k≤cs.length →
   cl AP g190L1 ⟨[(1,.pv (.str s)),(7,.pv (vI i)),(11,.pv (.aI (ds.map Dt.pv))),(12,.pv (vI ds.length)),(13,.pv (vI i)),(19,.pv (.aI (cs.map iL.pv))),(20,.pv (vI cs.length)),(21,.pv (vI k))],[],[],[]⟩ =
     match cH (fun c=>decide (c.name=s)) (cs.drop k) with
     | some j=>some (.ret,⟨[(4,.pv (vI i)),(5,.pv (vI (k+j:Nat))),(6,.pv (.bool true))],[],[],[]⟩)
     | none=>some (.exit 2,⟨[(1,.pv (.str s)),(7,.pv (vI i)),(11,.pv (.aI (ds.map Dt.pv))),(12,.pv (vI ds.length)),(13,.pv (vI i)),(19,.pv (.aI (cs.map iL.pv))),(20,.pv (vI cs.length)),(21,.pv (vI cs.length)),(22,.pv (.bool false))],[],[],[]⟩)
 | 0,k,hn,hk=>by
   have:k=cs.length:=by omega
   subst this
   rw [g190L1e]
   simp [g190B1,cH]
 | n+1,k,hn,hk=>by
   have hk:k<cs.length:=by omega
   obtain ⟨x,hx⟩:=cE hk
   unfold Sm at hS
   have ih:=Fl (ds:=ds) (s:=s) (i:=i) hS n (k+1) (by omega) (by omega)
   rw [g190L1e] at ih ⊢
   rw [dh hx]
   simp at ih
   by_cases e:x.name=s
   · simp (disch:=omega) [-getElem?_pos,g190B1,hx,hk,e,cH]
   · simp (disch:=omega) [-getElem?_pos,g190B1,hx,hk,e,cH,aL]
     rw [g190L1e]
     simp [ih]
     cases cH (fun c=>decide (c.name=s)) (cs.drop (k+1)) with
     | none=>rfl
     | some j=>simp;omega
theorem HE {ds:List Dt} (hS:Sm ds) (hc:∀d∈ds,Sm d.cons) (s:eR):∀(n i:Nat),ds.length-i=n→i≤ds.length →
   cl AP g190L0 ⟨[(1,.pv (.str s)),(11,.pv (.aI (ds.map Dt.pv))),(12,.pv (vI ds.length)),(13,.pv (vI i))],[],[],[]⟩ =
     match iO (ds.drop i) s i with
     | some q=>some (.ret,⟨[(4,.pv (vI q.1)),(5,.pv (vI q.2)),(6,.pv (.bool true))],[],[],[]⟩)
     | none=>some (.exit 0,⟨[(1,.pv (.str s)),(11,.pv (.aI (ds.map Dt.pv))),(12,.pv (vI ds.length)),(13,.pv (vI ds.length)),(14,.pv (.bool false))],[],[],[]⟩)
 | 0,i,hn,hi=>by
   have:i=ds.length:=by omega
   subst this
   rw [g190L0e]
   simp [g190B0,iO]
 | n+1,i,hn,hi=>by
   have hi:i<ds.length:=by omega
   obtain ⟨d,hd⟩:=cE hi
   unfold Sm at hS
   have ih:=HE hS hc s n (i+1) (by omega) (by omega)
   have h:=Fl (ds:=ds) (s:=s) (i:=i) (hc d (eE hd)) _ 0 rfl (by omega)
   rw [g190L1e] at h
   rw [g190L0e] at ih ⊢
   rw [dh hd]
   simp at ih h
   cases e:cH (fun c=>decide (c.name=s)) d.cons with
   | some k=>
     rw [e] at h
     simp at h
     simp (disch:=omega) [-getElem?_pos,g190B0,hd,hi,iO,C6,e,g190L1e,h]
   | none=>
     rw [e] at h
     simp at h
     simp (disch:=omega) [-getElem?_pos,g190B0,hd,hi,iO,C6,e,g190L1e,h,aL]
     rw [g190L0e]
     simp [ih]
theorem c190 {ds:List Dt} (hS:Sm ds) (hc:∀d∈ds,Sm d.cons) {s:eR}:(aW AP).p 190 [.aI (ds.map Dt.pv),.str s]=some (rF (iO ds s 0)):=by
 have h:=HE hS hc s _ 0 rfl (by omega)
 rw [aJ (af:=g190) rfl rfl (by decide)]
 rw [g190L0e] at h
 simp at h
 cases e:iO ds s 0 with
 | none=>rw [e] at h;simp at h;simp [g190,g190L0e,h,rF]
 | some q=>rw [e] at h;simp at h;simp [g190,g190L0e,h,rF]
theorem Fm {ds:List Dt} {s:eR} {i:Nat} {d:Dt} (hd:ds[i]?=some d) (hS:Sm d.cons):∀(n k:Nat),d.cons.length-k=n→k≤d.cons.length →
   cl AP g191L1 ⟨[(0,.pv (.aI (ds.map Dt.pv))),(1,.pv (.str s)),(7,.pv (vI i)),(8,.pv (vI k))],[],[],[]⟩ =
     match cH (fun c=>decide (c.name=s)) (d.cons.drop k) with
     | some j=>some (.ret,⟨[(4,.pv (vI i)),(5,.pv (vI (k+j:Nat))),(6,.pv (.bool true))],[],[],[]⟩)
     | none=>some (.exit 2,⟨[(0,.pv (.aI (ds.map Dt.pv))),(1,.pv (.str s)),(7,.pv (vI i)),(8,.pv (vI d.cons.length)),(22,.pv (.bool false))],[],[],[]⟩)
 | 0,k,hn,hk=>by
   have:k=d.cons.length:=by omega
   subst this
   rw [g191L1e]
   simp [-getElem?_pos,g191B1,cH,hd]
 | n+1,k,hn,hk=>by
   have hk:k<d.cons.length:=by omega
   obtain ⟨x,hx⟩:=cE hk
   unfold Sm at hS
   have ih:=Fm (s:=s) hd hS n (k+1) (by omega) (by omega)
   rw [g191L1e] at ih ⊢
   rw [dh hx]
   simp at ih
   by_cases e:x.name=s
   · simp (disch:=omega) [-getElem?_pos,g191B1,hd,hx,hk,e,cH]
   · simp (disch:=omega) [-getElem?_pos,g191B1,hd,hx,hk,e,cH,aL]
     rw [g191L1e]
     simp [ih]
     cases cH (fun c=>decide (c.name=s)) (d.cons.drop (k+1)) with
     | none=>rfl
     | some j=>simp;omega
theorem HF {ds:List Dt} (hS:Sm ds) (hc:∀d∈ds,Sm d.cons) (s:eR):∀(n i:Nat),ds.length-i=n→i≤ds.length →
   cl AP g191L0 ⟨[(0,.pv (.aI (ds.map Dt.pv))),(1,.pv (.str s)),(7,.pv (vI i))],[],[],[]⟩ =
     match iO (ds.drop i) s i with
     | some q=>some (.ret,⟨[(4,.pv (vI q.1)),(5,.pv (vI q.2)),(6,.pv (.bool true))],[],[],[]⟩)
     | none=>some (.exit 0,⟨[(0,.pv (.aI (ds.map Dt.pv))),(1,.pv (.str s)),(7,.pv (vI ds.length)),(12,.pv (.bool false))],[],[],[]⟩)
 | 0,i,hn,hi=>by
   have:i=ds.length:=by omega
   subst this
   rw [g191L0e]
   simp [g191B0,iO]
 | n+1,i,hn,hi=>by
   have hi:i<ds.length:=by omega
   obtain ⟨d,hd⟩:=cE hi
   unfold Sm at hS
   have ih:=HF hS hc s n (i+1) (by omega) (by omega)
   have h:=Fm (s:=s) hd (hc d (eE hd)) _ 0 rfl (by omega)
   rw [g191L1e] at h
   rw [g191L0e] at ih ⊢
   rw [dh hd]
   simp at ih h
   cases e:cH (fun c=>decide (c.name=s)) d.cons with
   | some k=>
     rw [e] at h
     simp at h
     simp (disch:=omega) [-getElem?_pos,g191B0,hd,hi,iO,C6,e,g191L1e,h]
   | none=>
     rw [e] at h
     simp at h
     simp (disch:=omega) [-getElem?_pos,g191B0,hd,hi,iO,C6,e,g191L1e,h,aL]
     rw [g191L0e]
     simp [ih]
theorem c191 {ds:List Dt} (hS:Sm ds) (hc:∀d∈ds,Sm d.cons) {s:eR}:(aW AP).p 191 [.aI (ds.map Dt.pv),.str s]=some (rF (iO ds s 0)):=by
 have h:=HF hS hc s _ 0 rfl (by omega)
 rw [aJ (af:=g191) rfl rfl (by decide)]
 rw [g191L0e] at h
 simp at h
 cases e:iO ds s 0 with
 | none=>rw [e] at h;simp at h;simp [g191,g191L0e,h,rF]
 | some q=>rw [e] at h;simp at h;simp [g191,g191L0e,h,rF]
end Go.Ab.Lw
namespace Go.Ab.Lw
open Ev
def fl (d:Dt) (as:List Ar):Bool:=decide (d.cons.map iL.name=as.map dz.dZ)
def jP (ds:List Dt) (as:List Ar):Option Nat:=cH (fun d=>fl d as) ds
def jQ:Option Nat→List PV
 | some i=>[vI i,.bool true]
 | none=>[vI 0,.bool false]
theorem EI:Gy iL.pv (fun c:iL=>[vI c.pos,.str c.name,.aI (c.fields.map Ty.pv)]) 3:=⟨fun _=>rfl,fun _=>rfl,fun _=>by simp⟩
theorem Gi:Gy Ar.pv Ar.cells 14:=⟨fun _=>rfl,fun x=>bX.len x,fun x=>by simp [Ar.cells,Ex.cn]⟩
theorem nR:∀{cs:List iL} {as:List Ar},iT (fun (c:iL) (a:Ar)=>decide (c.name=a.dZ)) cs as=decide (cs.map iL.name=as.map dz.dZ)
 | [],[]=>by simp [iT]
 | c::cs,a::as=>by simp only [iT,nR (cs:=cs) (as:=as),List.map_cons,List.cons.injEq,Bool.decide_and]
 | [],_::_=>by simp [iT]
 | _::_,[]=>by simp [iT]
theorem Gj {sh:Sh} (hq:bn sh) {cs:List iL}:CV (.fn 419 []) sh (fun c:iL=>[vI c.pos,.str c.name,.aI (c.fields.map Ty.pv)]) Ar.cells (fun (c:iL) (a:Ar)=>decide (c.name=a.dZ)) cs:=by
 intro x _ y
 have c:(aW AP).i 419 [.pv x.pv,.pv (Ar.pv y)] sh []=some ([.pv (.bool (decide (x.name=y.dZ)))],sh,[]):=by
   rw [aZ (af:=g419) rfl (by simp [g419])]
   by_cases e:x.name=y.dZ<;>simp [g419,hq.norm,e]
 simp at c
 simp [Ar.cells,Ex.cn,hq.norm,hq.shift,c]
theorem c418 {sh:Sh} (hq:bn sh) {cs:List iL} (hS:Sm cs) {as:List Ar}:(aW AP).i 418 [.pv (.aI (cs.map iL.pv)),.pv (.aI (as.map Ar.pv)),.fn 419 []] sh []=some ([.pv (.bool (decide (cs.map iL.name=as.map dz.dZ)))],sh,[]):=by
 rw [←nR]
 exact Is EI Gi (z1:=[vI 0,.str [],.aI []]) (z2:=[vI 0,.str [],.aI [],vI 0,vI 0,.str [],vI 0,.aI [],.aI [],vI 0,.str [],vI 0,vI 0,.aI []]) rfl rfl (m:=418) rfl hS hq rfl (Gj hq)
theorem Gk {sh:Sh} (hq:bn sh) {as:List Ar} {b:Nat} (hb:sh[b]?=some (some [.pv (.aI (as.map Ar.pv))])) {ds:List Dt} (hc:∀d∈ds,Sm d.cons):Gc (.fn 417 [.ba b 0]) sh Dt.pv (fun d=>fl d as) ds:=by
 intro d hd
 have k:=c418 hq (hc d hd) (as:=as)
 have c:(aW AP).i 417 [.pv d.pv,.ba b 0] sh []=some ([.pv (.bool (fl d as))],sh,[]):=by
   rw [aZ (af:=g417) rfl (by simp [g417])]
   simp [-getElem?_pos,g417,hq.norm,hq.shift,hb,k,fl]
 simp at c
 simp [hq.norm,hq.shift,c]
theorem c407 {ds:List Dt} (hS:Sm ds) (hc:∀d∈ds,Sm d.cons) {as:List Ar}:(aW AP).p 407 [.aI (ds.map Dt.pv),.aI (as.map Ar.pv)]=some (jQ (jP ds as)):=by
 have hq:bn [some [AV.pv (.aI (as.map Ar.pv))]]:=bn.one (by intro v hv;simp at hv;exact ⟨_,hv⟩)
 have k:=H4 Hi (k:=416) rfl hS hq (g:=417) (cap:=[.ba 0 0]) rfl (Gk hq (b:=0) rfl hc)
 rw [aJ (af:=g407) rfl rfl (by decide)]
 unfold jP
 cases e:cH (fun d=>fl d as) ds with
 | none=>rw [e] at k;simp [lA] at k;simp [g407,k,jQ]
 | some i=>rw [e] at k;simp [lA] at k;simp [g407,k,jQ]
end Go.Ab.Lw
namespace Go.Ab.Lw
open Ev
abbrev tm:=Int×Int
def fP (f:tm):PV:=.agg [vI f.1,vI f.2]
@[simp] theorem CF (f:tm):fP f=.agg [vI f.1,vI f.2]:=rfl
theorem c365 {a b:Int}:(aW AP).p 365 [vI a,vI b]=some [fP (a,b)]:=by
 rw [aJ (af:=g365) rfl rfl (by decide)]
 simp [g365]
def findF (ds:List Dt):List Ar→Option tm
 | []=>none
 | a::r=>match iO ds a.dZ 0 with
   | none=>some (9,a.pos)
   | some _=>findF ds r
noncomputable def ik:List eR→List eR→Bool
 | _,[]=>false
 | p,x::r=>decide (x∈p) || ik (p++[x]) r
noncomputable def tc:List iL→List Ar→tm
 | c::cs,a::as=>if a.vars.length≠c.fields.length then (8,a.pos) else if ik [] a.vars=true then (6,a.pos) else tc cs as
 | _,_=>(0,0)
noncomputable def jR (ds:List Dt) (e:Ex):tm:=match findF ds e.aD with
 | some f=>f
 | none=>match jP ds e.aD with
   | none=>(10,e.pos)
   | some i=>match ds[i]? with
     | some d=>tc d.cons e.aD
     | none=>(0,0)
theorem Fo {ds:List Dt} {i:Nat} {d:Dt} (hd:ds[i]?=some d) {as:List Ar} (hS:Sm as):∀(n k:Nat),as.length-k=n→k≤as.length→∀s:Bool,(s=true→as.length=d.cons.length)→∃j:Int,
   cl AP g390L1 ⟨[(0,.pv (.aI (ds.map Dt.pv))),(1,.pv (.aI (as.map Ar.pv))),(6,.pv (vI i)),(7,.pv (.bool s)),(8,.pv (vI k))],[],[],[]⟩ =
     some (.exit 2,⟨[(0,.pv (.aI (ds.map Dt.pv))),(1,.pv (.aI (as.map Ar.pv))),(6,.pv (vI i)),(7,.pv (.bool (s && decide ((d.cons.drop k).map iL.name=(as.drop k).map dz.dZ)))),(8,.pv (vI j)),(30,.pv (.bool false))],[],[],[]⟩)
 | 0,k,hn,hk,s,hs=>by
   have:k=as.length:=by omega
   subst this
   refine ⟨as.length,?_⟩
   rw [g390L1e]
   cases s with
   | false=>simp [g390B1]
   | true=>simp [g390B1,hs rfl]
 | n+1,k,hn,hk,s,hs=>by
   have hk:k<as.length:=by omega
   unfold Sm at hS
   have hil:=(List.getElem?_eq_some_iff.1 hd).1
   cases s with
   | false=>
     refine ⟨k,?_⟩
     rw [g390L1e]
     simp [g390B1]
   | true=>
     have hl:=hs rfl
     obtain ⟨a,ha⟩:=cE hk
     obtain ⟨c,hc⟩:=cE (hl ▸ hk)
     have hk2:k<d.cons.length:=by omega
     obtain ⟨j,ih⟩:=Fo hd hS n (k+1) (by omega) (by omega) (decide (a.dZ=c.name)) (fun _=>hl)
     refine ⟨j,?_⟩
     rw [dh ha,dh hc]
     have key:(true && decide ((c::d.cons.drop (k+1)).map iL.name=(a::as.drop (k+1)).map dz.dZ))=(decide (a.dZ=c.name) && decide ((d.cons.drop (k+1)).map iL.name=(as.drop (k+1)).map dz.dZ)):=by
       rw [Bool.eq_iff_iff]
       simp [eq_comm (a:=c.name)]
     rw [key]
     generalize (decide (a.dZ=c.name) && decide ((d.cons.drop (k+1)).map iL.name=(as.drop (k+1)).map dz.dZ))=r at ih ⊢
     rw [g390L1e] at ih ⊢
     simp at ih
     by_cases e:a.dZ=c.name
     · simp [e] at ih
       simp (disch:=omega) [-getElem?_pos,g390B1,hk,hk2,hil,ha,hc,hd,aL,e]
       rw [g390L1e]
       simp [ih]
     · simp [e] at ih
       have e':(a.dZ == c.name)=false:=by simpa using e
       simp (disch:=omega) [-getElem?_pos,g390B1,hk,hk2,hil,ha,hc,hd,aL,e']
       rw [g390L1e]
       simp [ih]
theorem HG {ds:List Dt} (hS:Sm ds) {as:List Ar} (hA:Sm as):∀(n i:Nat),ds.length-i=n→i≤ds.length →
   cl AP g390L0 ⟨[(0,.pv (.aI (ds.map Dt.pv))),(1,.pv (.aI (as.map Ar.pv))),(6,.pv (vI i))],[],[],[]⟩ =
     match cH (fun d=>fl d as) (ds.drop i) with
     | some k=>some (.ret,⟨[(4,.pv (vI (i+k:Nat))),(5,.pv (.bool true))],[],[],[]⟩)
     | none=>some (.exit 0,⟨[(0,.pv (.aI (ds.map Dt.pv))),(1,.pv (.aI (as.map Ar.pv))),(6,.pv (vI ds.length)),(12,.pv (.bool false))],[],[],[]⟩)
 | 0,i,hn,hi=>by
   have:i=ds.length:=by omega
   subst this
   rw [g390L0e]
   simp [g390B0,cH]
 | n+1,i,hn,hi=>by
   have hi:i<ds.length:=by omega
   obtain ⟨d,hd⟩:=cE hi
   have ih:=HG hS hA n (i+1) (by omega) (by omega)
   obtain ⟨j,h⟩:=Fo hd hA _ 0 rfl (by omega) (decide (as.length=d.cons.length)) (by simp)
   unfold Sm at hS
   have key:(decide (as.length=d.cons.length) && decide (d.cons.map iL.name=as.map dz.dZ))=fl d as:=by
     unfold fl
     by_cases e:d.cons.map iL.name=as.map dz.dZ
     · have:=congrArg List.length e
       simp at this
       simp [e,this]
     · simp [e]
   rw [List.drop_zero,List.drop_zero,key] at h
   rw [g390L1e] at h
   rw [g390L0e] at ih ⊢
   rw [dh hd]
   simp only [cH]
   simp at ih
   by_cases e:fl d as=true
   · rw [if_pos e]
     rw [e] at h
     have hl:as.length=d.cons.length:=by simp [fl] at e;simpa using (congrArg List.length e).symm
     simp [hl] at h
     simp (disch:=omega) [-getElem?_pos,g390B0,hi,hd,hl,g390L1e,h]
   · rw [if_neg e]
     have e:fl d as=false:=by simpa using e
     rw [e] at h
     by_cases hl:as.length=d.cons.length
     · simp [hl] at h
       simp (disch:=omega) [-getElem?_pos,g390B0,hi,hd,hl,g390L1e,h,aL]
       rw [g390L0e]
       simp [ih]
       cases cH (fun d=>fl d as) (ds.drop (i+1)) with
       | none=>rfl
       | some k=>simp;omega
     · have hl':((as.length:Int) == (d.cons.length:Int))=false:=by rw [beq_eq_false_iff_ne];omega
       simp [hl] at h
       simp (disch:=omega) [-getElem?_pos,g390B0,hi,hd,hl',g390L1e,h,aL]
       rw [g390L0e]
       simp [ih]
       cases cH (fun d=>fl d as) (ds.drop (i+1)) with
       | none=>rfl
       | some k=>simp;omega
theorem c390 {ds:List Dt} (hS:Sm ds) {as:List Ar} (hA:Sm as):(aW AP).p 390 [.aI (ds.map Dt.pv),.aI (as.map Ar.pv)]=some (jQ (jP ds as)):=by
 have h:=HG hS hA _ 0 rfl (by omega)
 simp at h
 rw [aJ (af:=g390) rfl rfl (by decide)]
 unfold jP
 cases e:cH (fun d=>fl d as) ds with
 | none=>rw [e] at h;simp at h;simp [g390,h,jQ]
 | some i=>rw [e] at h;simp at h;simp [g390,h,jQ]
abbrev m2 (f:tm):List AV:=[.pv (vI f.1),.pv (vI f.2)]
theorem Fp {ds:List Dt} (hS:Sm ds) (hc:∀d∈ds,Sm d.cons) {e:Ex} (hA:e.aD.length≤1000):∀(n i:Nat),e.aD.length-i=n→i≤e.aD.length →
   cl AP g379L0 ⟨[(0,.pv (.aI (ds.map Dt.pv))),(3,.aT 3 0),(4,.aT 4 0),(5,.pv (vI i))],[(3,e.cl),(4,m2 (0,0))],[],[]⟩ =
     match findF ds (e.aD.drop i) with
     | some f=>some (.ret,⟨[(4,.aT 4 0)],[(4,m2 f)],[],[]⟩)
     | none=>some (.exit 0,⟨[(0,.pv (.aI (ds.map Dt.pv))),(3,.aT 3 0),(4,.aT 4 0),(5,.pv (vI e.aD.length)),(18,.pv (.bool false))],[(3,e.cl),(4,m2 (0,0))],[],[]⟩)
 | 0,i,hn,hi=>by
   have:i=e.aD.length:=by omega
   subst this
   rw [g379L0e]
   simp [g379B0,findF]
 | n+1,i,hn,hi=>by
   have hi:i<e.aD.length:=by omega
   obtain ⟨a,ha⟩:=cE hi
   have ih:=Fp hS hc hA n (i+1) (by omega) (by omega)
   have k:=c191 hS hc (s:=a.dZ)
   have k2:=c365 (a:=9) (b:=a.pos)
   simp at k2
   rw [g379L0e] at ih ⊢
   rw [dh ha]
   simp only [findF]
   simp at ih
   cases q:iO ds a.dZ 0 with
   | none=>
     rw [q] at k
     simp [rF] at k
     simp (disch:=omega) [-getElem?_pos,g379B0,hi,ha,k,k2]
   | some r=>
     rw [q] at k
     simp [rF] at k
     simp (disch:=omega) [-getElem?_pos,g379B0,hi,ha,k,aL]
     rw [g379L0e]
     simp [ih]
theorem Fq {ds:List Dt} {e:Ex} {i9 i:Nat} {a:Ar} (ha:e.aD[i]?=some a) (hv:a.vars.length≤1000):∀(n k:Nat),a.vars.length-k=n→k≤a.vars.length →
   cl AP g379L2 ⟨[(0,.pv (.aI (ds.map Dt.pv))),(3,.aT 3 0),(4,.aT 4 0),(9,.pv (vI i9)),(11,.pv (vI i)),(12,.pv (.aI (a.vars.map .str))),(13,.pv (vI k))],[(3,e.cl),(4,m2 (0,0))],[],[]⟩ =
     if ik (a.vars.take k) (a.vars.drop k)=true then some (.ret,⟨[(4,.aT 4 0)],[(4,m2 (6,a.pos))],[],[]⟩)
     else some (.exit 4,⟨[(0,.pv (.aI (ds.map Dt.pv))),(3,.aT 3 0),(4,.aT 4 0),(9,.pv (vI i9)),(11,.pv (vI i)),(12,.pv (.aI (a.vars.map .str))),(13,.pv (vI a.vars.length)),(90,.pv (.bool false))],[(3,e.cl),(4,m2 (0,0))],[],[]⟩)
 | 0,k,hn,hk=>by
   have:k=a.vars.length:=by omega
   subst this
   rw [g379L2e]
   simp [g379B2,ik]
 | n+1,k,hn,hk=>by
   have hk:k<a.vars.length:=by omega
   have hil:=(List.getElem?_eq_some_iff.1 ha).1
   obtain ⟨x,hx⟩:=cE hk
   have ih:=Fq (ds:=ds) (i9:=i9) ha hv n (k+1) (by omega) (by omega)
   have k1:=c364 (s:=a.vars.take k) (by unfold Sm;simp;omega) (y:=x)
   have k2:=c365 (a:=6) (b:=a.pos)
   have hsl:=Gg (sz:=1) (l:=a.vars.map PV.str) (k:=.i64) (h:=k) (by omega) (by simp;omega)
   simp at k2 hsl
   rw [List.map_take] at k1
   rw [List.take_add_one,hx] at ih
   simp only [Option.toList_some] at ih
   rw [g379L2e] at ih ⊢
   rw [dh hx]
   simp at ih
   by_cases q:x∈a.vars.take k
   · have hq:ik (a.vars.take k) (x::a.vars.drop (k+1))=true:=by simp [ik,q]
     rw [hq]
     rw [decide_eq_true q] at k1
     simp (disch:=omega) [-getElem?_pos,g379B2,hk,hil,ha,hx,hsl,k1,k2]
   · have hq:ik (a.vars.take k) (x::a.vars.drop (k+1))=ik (a.vars.take k++[x]) (a.vars.drop (k+1)):=by simp [ik,q]
     rw [hq]
     rw [decide_eq_false q] at k1
     simp (disch:=omega) [-getElem?_pos,g379B2,hk,hil,ha,hx,hsl,k1,aL]
     rw [g379L2e]
     simp [ih]
     by_cases q3:ik (a.vars.take k++[x]) (a.vars.drop (k+1))=true<;>simp [q3]
theorem Fs {ds:List Dt} {e:Ex} {i9:Nat} {d:Dt} (hd:ds[i9]?=some d) (hA:e.aD.length≤1000) (hv:∀a∈e.aD,a.vars.length≤1000) (hl:e.aD.length=d.cons.length):∀(n i:Nat),e.aD.length-i=n→i≤e.aD.length →
   cl AP g379L1 ⟨[(0,.pv (.aI (ds.map Dt.pv))),(3,.aT 3 0),(4,.aT 4 0),(9,.pv (vI i9)),(11,.pv (vI i))],[(3,e.cl),(4,m2 (0,0))],[],[]⟩ =
     if (tc (d.cons.drop i) (e.aD.drop i)).1≠0 then some (.ret,⟨[(4,.aT 4 0)],[(4,m2 (tc (d.cons.drop i) (e.aD.drop i)))],[],[]⟩)
     else some (.exit 2,⟨[(0,.pv (.aI (ds.map Dt.pv))),(3,.aT 3 0),(4,.aT 4 0),(9,.pv (vI i9)),(11,.pv (vI e.aD.length)),(58,.pv (.bool false))],[(3,e.cl),(4,m2 (0,0))],[],[]⟩)
 | 0,i,hn,hi=>by
   have:i=e.aD.length:=by omega
   subst this
   rw [g379L1e,nM (l:=d.cons) (by omega),nM (l:=e.aD) (by omega)]
   simp [g379B1,tc]
 | n+1,i,hn,hi=>by
   have hi:i<e.aD.length:=by omega
   have hi2:i<d.cons.length:=by omega
   have hil:=(List.getElem?_eq_some_iff.1 hd).1
   obtain ⟨a,ha⟩:=cE hi
   obtain ⟨c,hc⟩:=cE hi2
   have ih:=Fs hd hA hv hl n (i+1) (by omega) (by omega)
   have h:=Fq (ds:=ds) (i9:=i9) ha (hv a (eE ha)) _ 0 rfl (by omega)
   have k2:=c365 (a:=8) (b:=a.pos)
   simp at k2
   rw [List.take_zero,List.drop_zero] at h
   rw [g379L2e] at h
   rw [g379L1e] at ih ⊢
   rw [dh ha,dh hc]
   simp only [tc]
   simp at ih h
   by_cases q:a.vars.length=c.fields.length
   · by_cases q2:ik [] a.vars=true
     · simp [q2,q] at h
       simp (disch:=omega) [-getElem?_pos,g379B1,hi,hi2,hil,ha,hc,hd,q,q2,g379L2e,h]
     · simp [q2,q] at h
       simp (disch:=omega) [-getElem?_pos,g379B1,hi,hi2,hil,ha,hc,hd,q,q2,g379L2e,h,aL]
       rw [g379L1e]
       simp [ih]
   · have q':¬(a.vars.length:Int)=c.fields.length:=by omega
     simp (disch:=omega) [-getElem?_pos,g379B1,hi,hi2,hil,ha,hc,hd,q,q',k2]
theorem td {ds:List Dt} {as:List Ar} {i:Nat} (h:jP ds as=some i):∃d,ds[i]?=some d∧as.length=d.cons.length:=by
 unfold jP at h
 have key:∀{l:List Dt} {k:Nat},cH (fun d=>fl d as) l=some k→∃d,l[k]?=some d∧fl d as=true:=by
   intro l
   induction l with
   | nil=>intro k h;simp [cH] at h
   | cons x r ih=>
     intro k h
     simp only [cH] at h
     split at h
     · rename_i e;cases h;exact ⟨x,rfl,e⟩
     · cases h':cH (fun d=>fl d as) r with
       | none=>rw [h'] at h;simp at h
       | some k'=>rw [h'] at h;simp at h;subst h;simpa using ih h'
 obtain ⟨d,h1,h2⟩:=key h
 refine ⟨d,h1,?_⟩
 unfold fl at h2
 have:=congrArg List.length (of_decide_eq_true h2)
 simpa using this.symm
theorem kV:∀{cs:List iL} {as:List Ar},(tc cs as).1=0→tc cs as=(0,0)
 | [],_,_=>by simp [tc]
 | _::_,[],_=>by simp [tc]
 | c::cs,a::as,h=>by
   simp only [tc] at h ⊢
   split at h
   · simp at h
   · rename_i h1
     rw [if_neg h1]
     split at h
     · simp at h
     · rename_i h2
       rw [if_neg h2]
       exact kV h
theorem c379 {ds:List Dt} (hS:Sm ds) (hc:∀d∈ds,Sm d.cons) {e:Ex} (hO:e.Ok):(aW AP).p 379 [.aI (ds.map Dt.pv),e.pv]=some [fP (jR ds e)]:=by
 have hA:=hO.a
 have h:=Fp hS hc hA _ 0 rfl (by omega)
 rw [aJ (af:=g379) rfl rfl (by decide)]
 unfold jR
 rw [List.drop_zero] at h
 cases q:findF ds e.aD with
 | some f=>
   rw [q] at h
   simp at h
   simp [g379,h]
 | none=>
   rw [q] at h
   simp at h
   have k:=c390 hS (as:=e.aD) (by unfold Sm;omega)
   cases q2:jP ds e.aD with
   | none=>
     rw [q2] at k
     have k2:=c365 (a:=10) (b:=e.pos)
     simp [jQ] at k k2
     simp [g379,h,k,k2]
   | some i=>
     rw [q2] at k
     simp [jQ] at k
     obtain ⟨d,hd,hl⟩:=td q2
     have h2:=Fs hd hA hO.v hl _ 0 rfl (by omega)
     rw [List.drop_zero,List.drop_zero] at h2
     simp only [hd]
     by_cases q3:(tc d.cons e.aD).1=0
     · have:=kV q3
       rw [this] at h2 ⊢
       simp at h2
       simp [g379,h,k,h2]
     · simp [q3] at h2
       simp [g379,h,k,h2]
end Go.Ab.Lw
namespace Go.Ab.Lw
open Ev
theorem Ft {ds:List Dt} (hS:Sm ds) (hc:∀d∈ds,Sm d.cons) {e:Ex} (hA:e.aD.length≤1000):∀(n i:Nat),e.aD.length-i=n→i≤e.aD.length →
   cl AP g415L0 ⟨[(0,.pv (.aI (ds.map Dt.pv))),(3,.aT 3 0),(4,.aT 4 0),(17,.pv (.aI (e.aD.map Ar.pv))),(18,.pv (vI e.aD.length)),(19,.pv (vI i))],[(3,e.cl),(4,m2 (0,0))],[],[]⟩ =
     match findF ds (e.aD.drop i) with
     | some f=>some (.ret,⟨[(4,.aT 4 0)],[(4,m2 f)],[],[]⟩)
     | none=>some (.exit 0,⟨[(0,.pv (.aI (ds.map Dt.pv))),(3,.aT 3 0),(4,.aT 4 0),(17,.pv (.aI (e.aD.map Ar.pv))),(18,.pv (vI e.aD.length)),(19,.pv (vI e.aD.length)),(20,.pv (.bool false))],[(3,e.cl),(4,m2 (0,0))],[],[]⟩)
 | 0,i,hn,hi=>by
   have:i=e.aD.length:=by omega
   subst this
   rw [g415L0e]
   simp [g415B0,findF]
 | n+1,i,hn,hi=>by
   have hi:i<e.aD.length:=by omega
   obtain ⟨a,ha⟩:=cE hi
   have ih:=Ft hS hc hA n (i+1) (by omega) (by omega)
   have k:=c190 hS hc (s:=a.dZ)
   rw [g415L0e] at ih ⊢
   rw [dh ha]
   simp only [findF]
   simp at ih
   cases q:iO ds a.dZ 0 with
   | none=>
     rw [q] at k
     simp [rF] at k
     simp (disch:=omega) [-getElem?_pos,g415B0,hi,ha,k]
   | some r=>
     rw [q] at k
     simp [rF] at k
     simp (disch:=omega) [-getElem?_pos,g415B0,hi,ha,k,aL]
     rw [g415L0e]
     simp [ih]
@[simp] def Ar.cl (a:Ar):List AV:=.pv (vI a.pos)::.pv (.str a.dZ)::.pv (.aI (a.vars.map .str))::a.body.cl
theorem Fu {ds:List Dt} {i10 i:Nat} {as:List Ar} {a:Ar} (hv:a.vars.length≤1000):∀(n k:Nat),a.vars.length-k=n→k≤a.vars.length →
   cl AP g415L2 ⟨[(0,.pv (.aI (ds.map Dt.pv))),(4,.aT 4 0),(10,.pv (vI i10)),(13,.aT 13 0),(50,.pv (.aI (as.map Ar.pv))),(51,.pv (vI as.length)),(52,.pv (vI i)),(75,.pv (.aI (a.vars.map .str))),(76,.pv (vI a.vars.length)),(77,.pv (vI k))],[(4,m2 (0,0)),(13,Ar.cl a)],[],[]⟩ =
     if ik (a.vars.take k) (a.vars.drop k)=true then some (.ret,⟨[(4,.aT 4 0)],[(4,m2 (6,a.pos))],[],[]⟩)
     else some (.exit 4,⟨[(0,.pv (.aI (ds.map Dt.pv))),(4,.aT 4 0),(10,.pv (vI i10)),(13,.aT 13 0),(50,.pv (.aI (as.map Ar.pv))),(51,.pv (vI as.length)),(52,.pv (vI i)),(75,.pv (.aI (a.vars.map .str))),(76,.pv (vI a.vars.length)),(77,.pv (vI a.vars.length)),(78,.pv (.bool false))],[(4,m2 (0,0)),(13,Ar.cl a)],[],[]⟩)
 | 0,k,hn,hk=>by
   have:k=a.vars.length:=by omega
   subst this
   rw [g415L2e]
   simp [g415B2,ik]
 | n+1,k,hn,hk=>by
   have hk:k<a.vars.length:=by omega
   obtain ⟨x,hx⟩:=cE hk
   have ih:=Fu (ds:=ds) (i10:=i10) (i:=i) (as:=as) hv n (k+1) (by omega) (by omega)
   have k1:=c214 (s:=a.vars.take k) (by unfold Sm;simp;omega) (y:=x)
   have hsl:=Gg (sz:=1) (l:=a.vars.map PV.str) (k:=.i64) (h:=k) (by omega) (by simp;omega)
   simp at hsl
   rw [List.map_take] at k1
   rw [List.take_add_one,hx] at ih
   simp only [Option.toList_some] at ih
   rw [g415L2e] at ih ⊢
   rw [dh hx]
   simp at ih
   by_cases q:x∈a.vars.take k
   · have hq:ik (a.vars.take k) (x::a.vars.drop (k+1))=true:=by simp [ik,q]
     rw [hq]
     rw [decide_eq_true q] at k1
     simp (disch:=omega) [-getElem?_pos,g415B2,hk,hx,hsl,k1]
   · have hq:ik (a.vars.take k) (x::a.vars.drop (k+1))=ik (a.vars.take k++[x]) (a.vars.drop (k+1)):=by simp [ik,q]
     rw [hq]
     rw [decide_eq_false q] at k1
     simp (disch:=omega) [-getElem?_pos,g415B2,hk,hx,hsl,k1,aL]
     rw [g415L2e]
     simp [ih]
     by_cases q3:ik (a.vars.take k++[x]) (a.vars.drop (k+1))=true<;>simp [q3]
theorem Fv {ds:List Dt} {i10:Nat} {d:Dt} (hd:ds[i10]?=some d) {as:List Ar} (hA:as.length≤1000) (hv:∀a∈as,a.vars.length≤1000) (hl:as.length=d.cons.length):∀(n i:Nat),as.length-i=n→i≤as.length →
   cl AP g415L1 ⟨[(0,.pv (.aI (ds.map Dt.pv))),(4,.aT 4 0),(10,.pv (vI i10)),(50,.pv (.aI (as.map Ar.pv))),(51,.pv (vI as.length)),(52,.pv (vI i))],[(4,m2 (0,0))],[],[]⟩ =
     if (tc (d.cons.drop i) (as.drop i)).1≠0 then some (.ret,⟨[(4,.aT 4 0)],[(4,m2 (tc (d.cons.drop i) (as.drop i)))],[],[]⟩)
     else some (.exit 2,⟨[(0,.pv (.aI (ds.map Dt.pv))),(4,.aT 4 0),(10,.pv (vI i10)),(50,.pv (.aI (as.map Ar.pv))),(51,.pv (vI as.length)),(52,.pv (vI as.length)),(53,.pv (.bool false))],[(4,m2 (0,0))],[],[]⟩)
 | 0,i,hn,hi=>by
   have:i=as.length:=by omega
   subst this
   rw [g415L1e,nM (l:=d.cons) (by omega),nM (l:=as) (by omega)]
   simp [g415B1,tc]
 | n+1,i,hn,hi=>by
   have hi:i<as.length:=by omega
   have hi2:i<d.cons.length:=by omega
   have hil:=(List.getElem?_eq_some_iff.1 hd).1
   obtain ⟨a,ha⟩:=cE hi
   obtain ⟨c,hc⟩:=cE hi2
   have ih:=Fv hd hA hv hl n (i+1) (by omega) (by omega)
   have h:=Fu (ds:=ds) (i10:=i10) (i:=i) (as:=as) (hv a (eE ha)) _ 0 rfl (by omega)
   rw [List.take_zero,List.drop_zero] at h
   rw [g415L2e] at h
   rw [g415L1e] at ih ⊢
   rw [dh ha,dh hc]
   simp only [tc]
   simp at ih h
   by_cases q:a.vars.length=c.fields.length
   · by_cases q2:ik [] a.vars=true
     · simp [q2,q] at h
       simp (disch:=omega) [-getElem?_pos,g415B1,hi,hi2,hil,ha,hc,hd,q,q2,g415L2e,h]
     · simp [q2,q] at h
       simp (disch:=omega) [-getElem?_pos,g415B1,hi,hi2,hil,ha,hc,hd,q,q2,g415L2e,h,aL]
       rw [g415L1e]
       simp [ih]
   · have q':¬(a.vars.length:Int)=c.fields.length:=by omega
     simp (disch:=omega) [-getElem?_pos,g415B1,hi,hi2,hil,ha,hc,hd,q,q']
theorem c415 {ds:List Dt} (hS:Sm ds) (hc:∀d∈ds,Sm d.cons) {e:Ex} (hO:e.Ok):(aW AP).p 415 [.aI (ds.map Dt.pv),e.pv]=some [fP (jR ds e)]:=by
 have hA:=hO.a
 have h:=Ft hS hc hA _ 0 rfl (by omega)
 rw [aJ (af:=g415) rfl rfl (by decide)]
 unfold jR
 rw [List.drop_zero] at h
 cases q:findF ds e.aD with
 | some f=>
   rw [q] at h
   simp at h
   simp [g415,h]
 | none=>
   rw [q] at h
   simp at h
   have k:=c407 hS hc (as:=e.aD)
   cases q2:jP ds e.aD with
   | none=>
     rw [q2] at k
     simp [jQ] at k
     simp [g415,h,k]
   | some i=>
     rw [q2] at k
     simp [jQ] at k
     obtain ⟨d,hd,hl⟩:=td q2
     have h2:=Fv hd hA hO.v hl _ 0 rfl (by omega)
     rw [List.drop_zero,List.drop_zero] at h2
     simp only [hd]
     by_cases q3:(tc d.cons e.aD).1=0
     · have:=kV q3
       rw [this] at h2 ⊢
       simp at h2
       simp [g415,h,k,h2]
     · simp [q3] at h2
       simp [g415,h,k,h2]
theorem c409 {a b:List eR} (h:a.length+b.length≤1000000000000):(aW AP).p 409 [.aI (a.map .str),.aI (b.map .str)]=some [.aI ((a++b).map .str)]:=by
 rw [aJ (af:=g409) rfl rfl (by decide)]
 have h1:a.length*16≤140737488355328:=by omega
 have h2:(a.length+b.length)*16≤140737488355328:=by omega
 have h3:b.length*16≤140737488355328:=by omega
 by_cases ha:a=[]
 · subst ha
   by_cases hb:b=[]
   · subst hb;simp [g409]
   · simp [g409,hb,h3]
 · by_cases hb:b=[]
   · subst hb;simp [g409,ha,h1]
   · simp [g409,ha,hb,h1,h2]
end Go.Ab.Lw
namespace Go.Ab.Lw
open Ev
inductive Ex.EJ (P:Ex→Prop):Ex→Prop
 | mk {e:Ex}:P e→(∀x∈e.ch,Ex.EJ P x)→Ex.EJ P e
theorem Ex.EJ.h {P:Ex→Prop} {e:Ex} (h:e.EJ P):P e:=by cases h;assumption
theorem Ex.EJ.c {P:Ex→Prop} {e:Ex} (h:e.EJ P):∀x∈e.ch,x.EJ P:=by cases h;assumption
inductive Ex.C7:Nat→Ex→Prop
 | mk {n:Nat} {e:Ex}:(∀x∈e.ch,Ex.C7 n x)→Ex.C7 (n+1) e
theorem Ex.C7.c {n:Nat} {e:Ex} (h:Ex.C7 (n+1) e):∀x∈e.ch,Ex.C7 n x:=by cases h;assumption
noncomputable def dF (ds:List Dt) (names:List eR) (e:Ex):tm:=
 if e.kind=1 then (if e.name∈names then (0,0) else (9,e.pos))
 else if e.kind=2 then (if (iO ds e.name 0).isSome then (0,0) else (9,e.pos))
 else if e.kind=8 then jR ds e
 else if e.kind=9 then (if e.ty.formed ds []=0 then (0,0) else (e.ty.formed ds [],e.pos))
 else (0,0)
def lC (f:Nat→Ex→tm):Nat→List Ex→tm
 | _,[]=>(0,0)
 | i,x::r=>if (f i x).1≠0 then f i x else lC f (i+1) r
theorem o_ {f g:Nat→Ex→tm}:∀{l:List Ex} {i:Nat},(∀i,∀x∈l,f i x=g i x)→lC f i l=lC g i l
 | [],_,_=>rfl
 | x::r,i,h=>by
   simp only [lC]
   rw [h i x (by simp),o_ (l:=r) fun i y hy=>h i y (by simp [hy])]
theorem Ex.EK {e x:Ex} (h:x∈e.ch):SizeOf.sizeOf x<SizeOf.sizeOf e:=by
 rw [Ex.ch,List.mem_append,List.mem_map] at h
 cases e
 rcases h with h | ⟨a,ha,rfl⟩
 · have:=_root_.List.sizeOf_lt_of_mem h;simp at *;omega
 · have:=_root_.List.sizeOf_lt_of_mem ha;have:=dz.o9 a;simp at *;omega
open Classical in
noncomputable def Ex.a7 (ds:List Dt) (e:Ex) (names:List eR):tm:=
 if (dF ds names e).1≠0 then dF ds names e
 else lC (fun i x=>if _h:x∈e.ch then Ex.a7 ds x (names++dE e i) else (0,0)) 0 e.ch
termination_by e
decreasing_by exact Ex.EK _h
theorem Ex.w4 (ds:List Dt) (e:Ex) (names:List eR):e.a7 ds names=if (dF ds names e).1≠0 then dF ds names e else lC (fun i x=>x.a7 ds (names++dE e i)) 0 e.ch:=by
 rw [Ex.a7]
 split
 · rfl
 · exact o_ fun i x hx=>by rw [dif_pos hx]
theorem nS {ds:List Dt} {e:Ex} (h:(jR ds e).1=0):jR ds e=(0,0):=by
 unfold jR at h ⊢
 have hf:∀{as:List Ar} {f:tm},findF ds as=some f→f.1=9:=by
   intro as
   induction as with
   | nil=>intro f h;simp [findF] at h
   | cons a r ih=>
     intro f h
     simp only [findF] at h
     split at h
     · cases h;rfl
     · exact ih h
 cases q:findF ds e.aD with
 | some f=>rw [q] at h;simp only at h;rw [hf q] at h;cases h
 | none=>
   rw [q] at h
   simp only at h ⊢
   cases q2:jP ds e.aD with
   | none=>rw [q2] at h;simp at h
   | some i=>
     rw [q2] at h
     simp only at h ⊢
     cases q3:ds[i]? with
     | none=>rfl
     | some d=>rw [q3] at h;exact kV h
theorem w5 {ds:List Dt} {names:List eR} {e:Ex} (h:(dF ds names e).1=0):dF ds names e=(0,0):=by
 unfold dF at h ⊢
 split
 · rename_i h1
   rw [if_pos h1] at h
   split
   · rfl
   · rename_i h2;rw [if_neg h2] at h;cases h
 · rename_i h1
   rw [if_neg h1] at h
   split
   · rename_i h2
     rw [if_pos h2] at h
     split
     · rfl
     · rename_i h3;rw [if_neg h3] at h;cases h
   · rename_i h2
     rw [if_neg h2] at h
     split
     · rename_i h3
       rw [if_pos h3] at h
       exact nS h
     · rename_i h3
       rw [if_neg h3] at h
       split
       · rename_i h4
         rw [if_pos h4] at h
         split
         · rfl
         · rename_i h5;rw [if_neg h5] at h;exact absurd h h5
       · rfl
theorem te {f:Nat→Ex→tm} (hf:∀i x,(f i x).1=0→f i x=(0,0)):∀{l:List Ex} {i:Nat},(lC f i l).1=0→lC f i l=(0,0)
 | [],_,_=>rfl
 | x::r,i,h=>by
   simp only [lC] at h ⊢
   split
   · rename_i h1;rw [if_pos h1] at h;exact absurd h h1
   · rename_i h1;rw [if_neg h1] at h;exact te hf h
theorem tf {ds:List Dt}:∀{e:Ex} {names:List eR},(e.a7 ds names).1=0→e.a7 ds names=(0,0):=by
 intro e
 refine Ex.recC (p:=fun e=>∀{names:List eR},(e.a7 ds names).1=0→e.a7 ds names=(0,0)) ?_ e
 intro e ih names h
 rw [Ex.w4] at h ⊢
 split
 · rename_i h1;rw [if_pos h1] at h;exact absurd h h1
 · rename_i h1
   rw [if_neg h1] at h
   have key:∀{l:List Ex} {i:Nat},(∀x∈l,x∈e.ch)→(lC (fun i x=>x.a7 ds (names++dE e i)) i l).1=0→lC (fun i x=>x.a7 ds (names++dE e i)) i l=(0,0):=by
     intro l
     induction l with
     | nil=>intro i _ _;rfl
     | cons x r ihr=>
       intro i hl h
       simp only [lC] at h ⊢
       split
       · rename_i h1;rw [if_pos h1] at h;exact absurd h h1
       · rename_i h1;rw [if_neg h1] at h;exact ihr (fun y hy=>hl y (by simp [hy])) h
   exact key (fun x hx=>hx) h
structure EL (e:Ex):Prop where
 ok:e.Ok
 one:e.One
 cw:e.EJ fun x=>x.ty.Cw
theorem EL.c {e x:Ex} (h:EL e) (hx:x∈e.ch):EL x:=⟨h.ok.c x hx,h.one.c x hx,h.cw.c x hx⟩
theorem HH {ds:List Dt} {names:List eR} {e:Ex} (he:EL e) (hn:names.length≤900000000)
   (ih:∀i,∀x∈e.ch,(aW AP).p 405 [.aI (ds.map Dt.pv),.aI ((names++dE e i).map .str),x.pv]=some [fP (x.a7 ds (names++dE e i))]):∀(n i:Nat),e.ch.length-i=n→i≤e.ch.length →
   cl AP g405L0 ⟨[(0,.pv (.aI (ds.map Dt.pv))),(1,.pv (.aI (names.map .str))),(5,.aT 5 0),(6,.aT 6 0),(64,.pv (.aI (e.ch.map Ex.pv))),(65,.pv (vI e.ch.length)),(66,.pv (vI i))],[(5,e.cl),(6,m2 (0,0))],[],[]⟩ =
     if (lC (fun i x=>x.a7 ds (names++dE e i)) i (e.ch.drop i)).1≠0 then some (.ret,⟨[(6,.aT 6 0)],[(6,m2 (lC (fun i x=>x.a7 ds (names++dE e i)) i (e.ch.drop i)))],[],[]⟩)
     else some (.exit 1,⟨[(0,.pv (.aI (ds.map Dt.pv))),(1,.pv (.aI (names.map .str))),(5,.aT 5 0),(6,.aT 6 0),(64,.pv (.aI (e.ch.map Ex.pv))),(65,.pv (vI e.ch.length)),(66,.pv (vI e.ch.length)),(67,.pv (.bool false))],[(5,e.cl),(6,m2 (0,0))],[],[]⟩)
 | 0,i,hk,hi=>by
   have:i=e.ch.length:=by omega
   subst this
   rw [List.drop_length]
   generalize e.ch=C
   rw [g405L0e]
   simp [g405B0,lC]
 | n+1,i,hk,hi=>by
   have hi:i<e.ch.length:=by omega
   obtain ⟨x,hx⟩:=cE hi
   have hlen:=Ex.iM (e:=e)
   have hk1:=he.ok.k
   have hk2:=he.ok.a
   have hr:=HH he hn ih n (i+1) (by omega) (by omega)
   have k1:=c411 hi he.one.h he.ok
   have hbl:=kT he.ok (i:=i)
   have k2:=c409 (a:=names) (b:=dE e i) (by omega)
   have k3:=ih i x (eE hx)
   rw [dh hx]
   simp only [lC]
   generalize hN:names++dE e i=N at *
   generalize hF:x.a7 ds N=F at *
   generalize hG:lC (fun i x=>x.a7 ds (names++dE e i)) (i+1) (e.ch.drop (i+1))=G at *
   clear ih
   generalize dE e i=B at *
   generalize e.ch=C at *
   rw [g405L0e] at hr ⊢
   simp at k1 k2 k3 hr
   by_cases q:F.1=0
   · simp (disch:=omega) [-getElem?_pos,g405B0,hi,hx,k1,k2,k3,q,aL]
     rw [g405L0e]
     simp [hr]
   · simp (disch:=omega) [-getElem?_pos,g405B0,hi,hx,k1,k2,k3,q]
theorem c405 {ds:List Dt} (hS:Sm ds) (hc:∀d∈ds,Sm d.cons):∀(n:Nat) {e:Ex},EL e→e.C7 n→∀names:List eR,names.length+1000*n≤900000000→(aW AP).p 405 [.aI (ds.map Dt.pv),.aI (names.map .str),e.pv]=some [fP (e.a7 ds names)]
 | 0,e,_,hh,_,_=>by cases hh
 | n+1,e,he,hh,names,hl=>by
   have ih:∀i,∀x∈e.ch,(aW AP).p 405 [.aI (ds.map Dt.pv),.aI ((names++dE e i).map .str),x.pv]=some [fP (x.a7 ds (names++dE e i))]:=fun i x hx=>
     c405 hS hc n (he.c hx) (hh.c x hx) _ (by have:=kT he.ok (i:=i);simp;omega)
   have h:=HH he (by omega) ih _ 0 rfl (by omega)
   have k1:=c414 he.ok
   rw [List.drop_zero] at h
   rw [Ex.w4]
   have hz:=te (f:=fun i x=>x.a7 ds (names++dE e i)) (fun i x h=>tf h) (l:=e.ch) (i:=0)
   clear ih
   have k2:=c214 (s:=names) (by unfold Sm;omega) (y:=e.name)
   have k3:=c190 hS hc (s:=e.name)
   have k4:=c415 hS hc he.ok
   have k5:=c185 hS (l:=[]) (by simp [Sm]) he.ok.t
   generalize lC (fun i x=>x.a7 ds (names++dE e i)) 0 e.ch=G at *
   generalize e.ch=C at *
   rw [aJ (af:=g405) rfl rfl (by decide)]
   simp at k1 k2 k3 k4 k5
   have hG:(G=(0,0)∧G.1=0)∨(¬G.1=0):=by
     by_cases q:G.1=0
     · exact .inl ⟨hz q,q⟩
     · exact .inr q
   clear hz
   generalize hQ:jR ds e=Q at *
   generalize hT:e.ty.formed ds []=T at *
   by_cases q1:e.kind=1
   · simp only [q1] at k1
     by_cases q2:e.name∈names
     · rcases hG with ⟨rfl,hG⟩ | hG<;>simp [hG,q1] at h<;>simp [q2] at k2<;>simp [g405,dF,q1,q2,k1,k2,h,hG]
     · simp [q2] at k2
       simp [g405,dF,q1,q2,k2]
   · by_cases q3:e.kind=2
     · simp only [q3] at k1
       cases q4:iO ds e.name 0 with
       | none=>
         rw [q4] at k3
         simp [rF] at k3
         simp [g405,dF,q3,q4,k3]
       | some r=>
         rw [q4] at k3
         simp [rF] at k3
         rcases hG with ⟨rfl,hG⟩ | hG<;>simp [hG,q3] at h<;>simp [g405,dF,q3,q4,k1,k3,h,hG]
     · by_cases q5:e.kind=8
       · simp only [q5] at k1
         by_cases q6:Q.1=0
         · have:Q=(0,0):=by rw [←hQ] at q6 ⊢;exact nS q6
           subst this
           rcases hG with ⟨rfl,hG⟩ | hG<;>simp [hG,q5] at h<;>simp [q5] at k4<;>simp [g405,dF,q5,hQ,k1,k4,h,hG]
         · simp [q5] at k4
           simp [g405,dF,q5,hQ,k4,q6]
       · by_cases q7:e.kind=9
         · simp only [q7] at k1
           by_cases q8:T=0
           · subst q8
             rcases hG with ⟨rfl,hG⟩ | hG<;>simp [hG,q7] at h<;>simp [g405,dF,q7,hT,k1,k5,h,hG]
           · simp [g405,dF,q7,hT,k5,q8]
         · rcases hG with ⟨rfl,hG⟩ | hG<;>simp [hG] at h<;>simp [g405,dF,q1,q3,q5,q7,k1,h,hG]
end Go.Ab.Lw
namespace Go.Ab.Lw
open Ev
inductive Lk:Ex→Ex→Prop
 | mk {e f:Ex}:f.kind=e.kind→f.name=e.name→f.num=e.num→f.ty=e.ty→f.kids.length=e.kids.length→f.aD.map (fun a=>(a.dZ,a.vars))=e.aD.map (fun a=>(a.dZ,a.vars)) →
     (∀(i:Nat) (x y:Ex),e.ch[i]?=some x→f.ch[i]?=some y→Lk x y)→Lk e f
def tg (b:Nat):List AV:=[.pv (vI 0),.pv (vI 0),.pv (.str []),.pv (vI 0),.own [] b,.own [] (b+1),.pv (vI 0),.pv (.str []),.pv (vI 0),.pv (vI 0),.own [] (b+2)]
def aF (h:Bool) (N:Nat):AV:=if h then .bd 0 14 N true else .own [] 0
def bF (h:Bool):Nat:=if h then 0 else 1
def GD (h:Bool):au:=if h then [0,0,0] else [0,0,0,0]
def C8 (e:Ex) (p:Int) (A:AV):List AV:=[.pv (vI e.kind),.pv (vI p),.pv (.str e.name),.pv (vI e.num),.pv (.aI (e.kids.map Ex.pv)),A,.pv (vI e.ty.kind),.pv (.str e.ty.name),.pv (vI e.ty.id),.pv (vI e.ty.home),.pv (.aI (e.ty.args.map Ty.pv))]
theorem Fw {e:Ex} {p:Int} {b2 m:Nat} {N:Nat} (hN:N≤1000) {SA:List Ar→Sh} (h1:∀c,(SA c)[0]?=some (some (a7 Ar.cells c))) (h2:∀c c',(SA c).set 0 (some (a7 Ar.cells c'))=SA c') (h3:∀c,bn (SA c)) :
   ∀(n i:Nat),N-i=n→i≤N→∀(as:List Ar) (k:Int),as.length=N→∃(r:List Ar) (k':Int),r.length=N∧r.map (fun a=>(a.dZ,a.vars,a.body))=as.map (fun a=>(a.dZ,a.vars,a.body)) ∧
   cl AP g402L0 ⟨[(1,.pv (vI k)),(2,.aT 2 0),(4,.aT 4 0),(6,.bd b2 11 m true),(7,.pv (vI i))],[(2,C8 e p (.bd 0 14 N true)),(4,tg 0)],SA as,[0,0,0]⟩ =
     some (.exit 0,⟨[(1,.pv (vI k')),(2,.aT 2 0),(4,.aT 4 0),(6,.bd b2 11 m true),(7,.pv (vI N)),(23,.pv (.bool false))],[(2,C8 e p (.bd 0 14 N true)),(4,tg 0)],SA r,[0,0,0]⟩)
 | 0,i,hn,hi,as,k,ha=>by
   have:i=N:=by omega
   subst this
   refine ⟨as,k,ha,rfl,?_⟩
   have hq:=(h3 as).norm
   generalize SA as=S at *
   rw [g402L0e]
   simp [g402B0,C8,tg,hq]
 | n+1,i,hn,hi,as,k,ha=>by
   have hi:i<N:=by omega
   obtain ⟨a,hx⟩:=cE (l:=as) (i:=i) (by omega)
   obtain ⟨r,k',r1,r2,ih⟩:=Fw (e:=e) (p:=p) (b2:=b2) (m:=m) hN h1 h2 h3 n (i+1) (by omega) (by omega) (as.set i ⟨k,a.dZ,a.vars,a.body⟩) (IntKind.i64.wrap (k+1)) (by simpa using ha)
   refine ⟨r,k',r1,?_,?_⟩
   · rw [r2,List.map_set]
     apply List.ext_getElem?
     intro j
     rw [List.getElem?_set]
     split
     · rename_i hj
       subst hj
       simp [hx]
       omega
     · rfl
   · have hset:=nP bX hx (y:=⟨k,a.dZ,a.vars,a.body⟩) (o:=0) (p:=vI k) (by omega) (by simp [Ar.cells])
     have hs1:=h1 as
     have hs2:=h2 as (as.set i ⟨k,a.dZ,a.vars,a.body⟩)
     have hq:=(h3 as).norm
     have hq1:=(h3 (as.set i ⟨k,a.dZ,a.vars,a.body⟩)).norm
     have hB:cA (a7 Ar.cells as)=false:=e9 bH
     have hlen:(a7 Ar.cells as).length=N*14:=by rw [dj bX,ha]
     have hle:i*14+1≤N*14:=by omega
     generalize SA (as.set i ⟨k,a.dZ,a.vars,a.body⟩)=S1 at *
     generalize SA as=S at *
     generalize SA r=S2 at *
     generalize a7 Ar.cells (as.set i ⟨k,a.dZ,a.vars,a.body⟩)=T1 at *
     generalize a7 Ar.cells as=T at *
     rw [g402L0e] at ih ⊢
     simp [C8,tg,hq1] at ih hset
     simp (disch:=omega) [-getElem?_pos,g402B0,C8,tg,hq,hi,hs1,hB,hlen,hle,hset,hs2,aL]
     rw [g402L0e]
     simp [hq1,ih]
theorem C9 {e:Ex} {p:Int} {h:Bool} {N b:Nat} {m:Nat} (hm:m≤2000) {SS:List Ex→Sh} (h1:∀c,(SS c)[b]?=some (some (a7 Ex.cells c))) (h2:∀c c',(SS c).set b (some (a7 Ex.cells c'))=SS c') (h3:∀c,bn (SS c)) {c0:List Ex}
   (hc:∀x∈c0,∀k:Int,∃(y:Ex) (k':Int),(aW AP).p 402 [x.pv,vI k]=some [y.pv,vI k']∧Lk x y) :
   ∀(n i:Nat),m-i=n→i≤m→∀(c:List Ex) (k:Int),c.length=m→c.drop i=c0.drop i→∃(r:List Ex) (k':Int),r.length=m∧r.take i=c.take i∧(∀(j:Nat) (x y:Ex),i≤j→c0[j]?=some x→r[j]?=some y→Lk x y) ∧
   cl AP g402L1 ⟨[(1,.pv (vI k)),(2,.aT 2 0),(4,.aT 4 0),(6,.bd b 11 m true),(8,.pv (vI i))],[(2,C8 e p (aF h N)),(4,tg (bF h))],SS c,GD h⟩ =
     some (.exit 2,⟨[(1,.pv (vI k')),(2,.aT 2 0),(4,.aT 4 0),(6,.bd b 11 m true),(8,.pv (vI m)),(37,.pv (.bool false))],[(2,C8 e p (aF h N)),(4,tg (bF h))],SS r,GD h⟩)
 | 0,i,hn,hi,c,k,ha,hd=>by
   have:i=m:=by omega
   subst this
   refine ⟨c,k,ha,rfl,?_,?_⟩
   · intro j x y hj _ hy
     have:=(List.getElem?_eq_some_iff.1 hy).1
     omega
   have hq:=(h3 c).norm
   generalize SS c=S at *
   rw [g402L1e]
   cases h<;>simp [g402B1,C8,tg,aF,bF,GD,hq]
 | n+1,i,hn,hi,c,k,ha,hd=>by
   have hi:i<m:=by omega
   obtain ⟨x,hx⟩:=cE (l:=c) (i:=i) (by omega)
   have hx0:c0[i]?=some x:=by
     have:=congrArg (fun l=>l[0]?) hd
     simpa [hx] using this.symm
   obtain ⟨y,ky,cy,hl⟩:=hc x (eE hx0) k
   obtain ⟨r,k',r1,r2,r3,ih⟩:=C9 (e:=e) (p:=p) (h:=h) (N:=N) hm h1 h2 h3 hc n (i+1) (by omega) (by omega) (c.set i y) ky (by simpa using ha) (by
     rw [List.drop_set_of_lt (by omega)]
     have:=congrArg (List.drop 1) hd
     simpa [List.drop_drop,Nat.add_comm] using this)
   have hry:r[i]?=some y:=by
     have:=congrArg (fun l=>l[i]?) r2
     simp only [List.getElem?_take] at this
     rw [if_pos (by omega),if_pos (by omega)] at this
     rw [this,List.getElem?_set_self (by omega)]
   refine ⟨r,k',r1,?_,?_,?_⟩
   · have:=congrArg (List.take i) r2
     rw [List.take_take,List.take_take,Nat.min_eq_left (by omega),List.take_set_of_le (by omega)] at this
     exact this
   · intro j u v hj hu hv
     by_cases hji:j=i
     · subst hji
       rw [hx0] at hu;cases hu
       rw [hry] at hv;cases hv
       exact hl
     · exact r3 j u v (by omega) hu hv
   · have hset:=jE cP hx (y:=y) (o:=0) (vs:=y.cells) (by rw [cP.len];omega) (by
       have h1:=cP.len x
       have h2:=cP.len y
       simp [h1,h2])
     rw [Ex.jk,Nat.add_zero] at hset
     have hget:=jD cP hx (o:=0) (k:=11) (by omega)
     have ht:(((x.cells.drop 0).take 11).map AV.pv)=x.cl:=by
       rw [List.drop_zero,List.take_of_length_le (by rw [cP.len];omega),Ex.jk]
     rw [ht,Nat.add_zero] at hget
     have hs1:=h1 c
     have hs2:=h2 c (c.set i y)
     have hq:=(h3 c).norm
     have hq1:=(h3 (c.set i y)).norm
     have hB:cA (a7 Ex.cells c)=false:=e9 bH
     have hlen:(a7 Ex.cells c).length=m*11:=by rw [dj cP,ha]
     have hle:i*11+11≤m*11:=by omega
     clear r2 r3 hc hd h1 h2 h3
     generalize SS (c.set i y)=S1 at *
     generalize SS c=S at *
     generalize SS r=S2 at *
     generalize a7 Ex.cells (c.set i y)=T1 at *
     generalize a7 Ex.cells c=T at *
     rw [g402L1e] at ih ⊢
     simp at cy
     cases h<;>simp [C8,tg,aF,bF,GD,hq1] at ih hset hget ⊢ <;>
       simp (disch:=omega) [-getElem?_pos,g402B1,hq,hi,hs1,hB,hlen,hle,hget,hset,hs2,cy,aL] <;>
       rw [g402L1e]<;>simp [hq1,ih]
theorem mm:∀{as:List Ar} {xs:List Ex},xs.length=as.length→(eQ as xs).map dz.body=xs
 | [],[],_=>rfl
 | [],_::_,h=>by simp at h
 | _::_,[],h=>by simp at h
 | a::as,x::xs,h=>by simp only [eQ,List.map_cons,mm (as:=as) (xs:=xs) (by simpa using h)]
theorem qn:∀{as:List Ar} {xs:List Ex},(eQ as xs).map (fun a=>(a.dZ,a.vars))=as.map (fun a=>(a.dZ,a.vars))
 | [],xs=>by cases xs<;>rfl
 | a::as,[]=>rfl
 | a::as,x::xs=>by simp only [eQ,List.map_cons,qn (as:=as) (xs:=xs)]
theorem Gl {e:Ex} {c:List Ex} (h:c.length=e.kids.length+e.aD.length):(e.qm c).ch=c:=by
 unfold Ex.qm
 rw [if_pos h]
 simp only [Ex.ch]
 rw [mm (by simp;omega),List.take_append_drop]
theorem w6 {e e2:Ex} (h0:e2.kind=e.kind∧e2.name=e.name∧e2.num=e.num∧e2.ty=e.ty∧e2.kids.length=e.kids.length∧e2.aD.map (fun a=>(a.dZ,a.vars))=e.aD.map (fun a=>(a.dZ,a.vars))) {c:List Ex} (hl:c.length=e.ch.length)
   (hc:∀(j:Nat) (x y:Ex),e.ch[j]?=some x→c[j]?=some y→Lk x y):Lk e (e2.qm c):=by
 obtain ⟨h1,h2,h3,h4,h5,h6⟩:=h0
 have ha:e2.aD.length=e.aD.length:=by have:=congrArg List.length h6;simpa using this
 rw [Ex.iM] at hl
 have hl2:c.length=e2.kids.length+e2.aD.length:=by omega
 have hch:=Gl hl2
 have hw:e2.qm c=⟨e2.kind,e2.pos,e2.name,e2.num,c.take e2.kids.length,eQ e2.aD (c.drop e2.kids.length),e2.ty⟩:=by unfold Ex.qm;rw [if_pos hl2]
 refine .mk ?_ ?_ ?_ ?_ ?_ ?_ ?_
 · rw [hw];exact h1
 · rw [hw];exact h2
 · rw [hw];exact h3
 · rw [hw];exact h4
 · rw [hw];simp;omega
 · rw [hw];simp only;rw [qn];exact h6
 · intro i x y hx hy
   rw [hch] at hy
   exact hc i x y hx hy
theorem AE {sz n:Nat} {ag:Bool}:DM sz n ag none=none:=rfl
theorem th {cs:List AV}:pO cs none=.agg cs:=rfl
theorem EM {o:Option (List PV)}:l8 none o=none:=rfl
theorem EN {p:PV}:l8 (some p) none=none:=rfl
theorem c145j {e:Ex} {X:Sh}:(aW AP).i 145 [.pv e.pv] X []=(aW AP).i 145 [.agg (e.Df (.pv (.aI (e.aD.map Ar.pv))))] X []:=by
 rw [aZ (af:=g145) rfl (by simp [g145]),aZ (af:=g145) rfl (by simp [g145])]
 simp [g145]
theorem c402:∀(n:Nat) {e:Ex},e.Ok→e.C7 n→∀k:Int,∃(y:Ex) (k':Int),(aW AP).p 402 [e.pv,vI k]=some [y.pv,vI k']∧Lk e y
 | 0,e,_,hh,_=>by cases hh
 | n+1,e,hO,hh,k=>by
   have hc:∀x∈e.ch,∀k:Int,∃(y:Ex) (k':Int),(aW AP).p 402 [x.pv,vI k]=some [y.pv,vI k']∧Lk x y:=fun x hx k=>c402 n (hO.c x hx) (hh.c x hx) k
   have hk:=hO.k
   have ha:=hO.a
   have hlen:=Ex.iM (e:=e)
   by_cases hA:e.aD=[]
   · by_cases hK:e.kids=[]
     · have hch:e.ch=[]:=by simp [Ex.ch,hA,hK]
       obtain ⟨k0,c1⟩:=c145i (e:=⟨e.kind,k,e.name,e.num,e.kids,e.aD,e.ty⟩) (A:=.pv (.aI (e.aD.map Ar.pv))) hk ha (X:=[]) (by intro cs h;simp at h) (.inl rfl)
       have hch1:(⟨e.kind,k,e.name,e.num,e.kids,e.aD,e.ty⟩:Ex).ch=[]:=hch
       rw [if_pos hch1] at c1
       have cj:=c145j (e:=⟨e.kind,k,e.name,e.num,e.kids,e.aD,e.ty⟩) (X:=[])
       rw [c1] at cj
       clear c1
       have c2:=c374 (e:=⟨e.kind,k,e.name,e.num,[],[],e.ty⟩) (by simp) (by simp) (c:=[])
       refine ⟨(⟨e.kind,k,e.name,e.num,[],[],e.ty⟩:Ex).qm [],IntKind.i64.wrap (k+1),?_,w6 (e:=e) (e2:=⟨e.kind,k,e.name,e.num,[],[],e.ty⟩) (c:=[]) ⟨rfl,rfl,rfl,rfl,by simp [hK],by simp [hA]⟩ (by simp [hch]) (by simp)⟩
       generalize (⟨e.kind,k,e.name,e.num,[],[],e.ty⟩:Ex).qm []=Y at *
       simp [hK,hA] at cj c2
       rw [aJ (af:=g402) rfl rfl (by decide)]
       simp [g402,g402L0e,g402B0,g402L1e,g402B1,hA,hK,cj,c2]
     · -- kids alone
       have hchk:e.ch=e.kids:=by simp [Ex.ch,hA]
       have hne:e.ch≠[]:=by rw [hchk];exact hK
       obtain ⟨k0,c1⟩:=c145i (e:=⟨e.kind,k,e.name,e.num,e.kids,e.aD,e.ty⟩) (A:=.pv (.aI (e.aD.map Ar.pv))) hk ha (X:=[]) (by intro cs h;simp at h) (.inl rfl)
       have hch1:(⟨e.kind,k,e.name,e.num,e.kids,e.aD,e.ty⟩:Ex).ch=e.ch:=rfl
       rw [hch1,if_neg hne] at c1
       have cj:=c145j (e:=⟨e.kind,k,e.name,e.num,e.kids,e.aD,e.ty⟩) (X:=[])
       rw [c1] at cj
       clear c1
       simp only [List.nil_append,List.length_nil,Nat.zero_add] at cj
       obtain ⟨r,k',r1,_,r3,h4⟩:=C9 (e:=e) (p:=k) (h:=false) (N:=0) (b:=k0) (m:=e.ch.length) (by omega) (SS:=fun c=>nn k0++[some (a7 Ex.cells c)])
         (fun c=>by simp) (fun c c'=>by simp) (fun c=>(cG k0).app (bn.one bH)) (c0:=e.ch) hc _ 0 rfl (by omega) e.ch (IntKind.i64.wrap (k+1)) rfl rfl
       have c2:=c374 (e:=⟨e.kind,k,e.name,e.num,e.kids,[],e.ty⟩) hk (by simp) (c:=r)
       refine ⟨(⟨e.kind,k,e.name,e.num,e.kids,[],e.ty⟩:Ex).qm r,k',?_,w6 (e:=e) (e2:=⟨e.kind,k,e.name,e.num,e.kids,[],e.ty⟩) ⟨rfl,rfl,rfl,rfl,rfl,by simp [hA]⟩ r1 (fun j x y=>r3 j x y (by omega))⟩
       generalize (⟨e.kind,k,e.name,e.num,e.kids,[],e.ty⟩:Ex).qm r=Y at *
       have hget:(nn k0++[some (a7 Ex.cells r)])[k0]?=some (some (a7 Ex.cells r)):=by simp
       have hl2:(a7 Ex.cells r).length=e.ch.length*11:=by rw [dj cP,r1]
       have hl3:=nQ (l:=r)
       rw [r1] at hl3
       have hq:∀aE ts,bE aE ts (nn k0++[some (a7 Ex.cells e.ch)])=(nn k0++[some (a7 Ex.cells e.ch)],aE,ts):=((cG k0).app (bn.one bH)).norm
       have hsh:∀n,eu n (nn k0++[some (a7 Ex.cells e.ch)])=nn k0++[some (a7 Ex.cells e.ch)]:=((cG k0).app (bn.one bH)).shift
       clear hc r3
       generalize nn k0++[some (a7 Ex.cells e.ch)]=S0 at *
       generalize nn k0++[some (a7 Ex.cells r)]=S1 at *
       generalize a7 Ex.cells r=T1 at *
       generalize hm:e.ch.length=m at *
       rw [g402L1e] at h4
       simp [C8,aF,bF,GD,tg,hq,hA] at h4
       simp [hA] at cj c2 hl3
       rw [aJ (af:=g402) rfl rfl (by decide)]
       simp (disch:=omega) [-getElem?_pos,g402,g402L0e,g402B0,hA,cj,hq,hsh,g402L1e,h4,hget,hl2,hl3,c2]
   · -- aD
     have hne:e.ch≠[]:=by simp [Ex.ch,hA]
     have hcl:0<e.aD.length:=List.length_pos_iff.2 hA
     obtain ⟨k0,c1⟩:=c145i (e:=⟨e.kind,k,e.name,e.num,e.kids,e.aD,e.ty⟩) (A:=.bd 0 14 e.aD.length true) hk ha (X:=[some (a7 Ar.cells e.aD)]) (bn.one bH) (.inr ⟨0,by simp,rfl,rfl⟩)
     have hch1:(⟨e.kind,k,e.name,e.num,e.kids,e.aD,e.ty⟩:Ex).ch=e.ch:=rfl
     rw [hch1,if_neg hne] at c1
     simp only [List.length_singleton] at c1
     obtain ⟨as',k1,a1,a2,h3⟩:=Fw (e:=e) (p:=k) (b2:=1+k0) (m:=e.ch.length) (N:=e.aD.length) ha (SA:=fun as=>[some (a7 Ar.cells as)]++nn k0++[some (a7 Ex.cells e.ch)])
       (fun c=>by simp) (fun c c'=>by simp) (fun c=>((bn.one bH).app (cG k0)).app (bn.one bH)) _ 0 rfl (by omega) e.aD (IntKind.i64.wrap (k+1)) rfl
     obtain ⟨r,k',r1,_,r3,h4⟩:=C9 (e:=e) (p:=k) (h:=true) (N:=e.aD.length) (b:=1+k0) (m:=e.ch.length) (by omega) (SS:=fun c=>[some (a7 Ar.cells as')]++nn k0++[some (a7 Ex.cells c)])
       (fun c=>by simp [List.getElem?_append_right,Nat.add_comm]) (fun c c'=>by simp [List.set_append_right,Nat.add_comm]) (fun c=>((bn.one bH).app (cG k0)).app (bn.one bH)) (c0:=e.ch) hc _ 0 rfl (by omega) e.ch k1 rfl rfl
     have c2:=c374 (e:=⟨e.kind,k,e.name,e.num,e.kids,as',e.ty⟩) hk (by simpa [a1] using ha) (c:=r)
     have hcv:as'.map (fun a=>(a.dZ,a.vars))=e.aD.map (fun a=>(a.dZ,a.vars)):=by
       have:=congrArg (List.map fun t:eR×List eR×Ex=>(t.1,t.2.1)) a2
       simpa [Function.comp_def] using this
     refine ⟨(⟨e.kind,k,e.name,e.num,e.kids,as',e.ty⟩:Ex).qm r,k',?_,w6 (e:=e) (e2:=⟨e.kind,k,e.name,e.num,e.kids,as',e.ty⟩) ⟨rfl,rfl,rfl,rfl,rfl,hcv⟩ r1 (fun j x y=>r3 j x y (by omega))⟩
     generalize (⟨e.kind,k,e.name,e.num,e.kids,as',e.ty⟩:Ex).qm r=Y at *
     have hget:([some (a7 Ar.cells as')]++nn k0++[some (a7 Ex.cells r)])[1+k0]?=some (some (a7 Ex.cells r)):=by simp [List.getElem?_append_right,Nat.add_comm]
     have hget0:([some (a7 Ar.cells as')]++nn k0++[some (a7 Ex.cells r)])[0]?=some (some (a7 Ar.cells as')):=by simp
     have hl2:(a7 Ex.cells r).length=e.ch.length*11:=by rw [dj cP,r1]
     have hl3:=nQ (l:=r)
     rw [r1] at hl3
     have hl4:(a7 Ar.cells as').length=e.aD.length*14:=by rw [dj bX,a1]
     have hl5:=kh (l:=as')
     rw [a1] at hl5
     have hm:=w0 (l:=e.aD)
     have hb:e.aD.length*200≤140737488355328:=by omega
     have hqA:∀aE ts,bE aE ts [some (a7 Ar.cells e.aD)]=([some (a7 Ar.cells e.aD)],aE,ts):=(bn.one bH).norm
     have hqT:∀(as:List Ar) (c:List Ex) aE ts,bE aE ts ([some (a7 Ar.cells as)]++nn k0++[some (a7 Ex.cells c)])=([some (a7 Ar.cells as)]++nn k0++[some (a7 Ex.cells c)],aE,ts):=fun as c=>(((bn.one bH).app (cG k0)).app (bn.one bH)).norm
     have hq:=hqT e.aD e.ch
     have hq1:=hqT as' e.ch
     have hsh:∀n,eu n ([some (a7 Ar.cells e.aD)]++nn k0++[some (a7 Ex.cells e.ch)])=[some (a7 Ar.cells e.aD)]++nn k0++[some (a7 Ex.cells e.ch)]:=(((bn.one bH).app (cG k0)).app (bn.one bH)).shift
     clear hc r3 hqT a2 hcv
     generalize [some (a7 Ar.cells e.aD)]++nn k0++[some (a7 Ex.cells e.ch)]=S0 at *
     generalize [some (a7 Ar.cells as')]++nn k0++[some (a7 Ex.cells e.ch)]=S1 at *
     generalize [some (a7 Ar.cells as')]++nn k0++[some (a7 Ex.cells r)]=S2 at *
     generalize a7 Ex.cells r=T1 at *
     generalize a7 Ar.cells as'=T2 at *
     generalize a7 Ar.cells e.aD=T3 at *
     generalize hmm:e.ch.length=m at *
     rw [g402L0e] at h3
     rw [g402L1e] at h4
     simp [C8,aF,bF,GD,tg,hq,hq1] at h3 h4
     simp [hqA] at c1 c2 hl3 hl5
     rw [aJ (af:=g402) rfl rfl (by decide)]
     simp (disch:=omega) [-getElem?_pos,AE,EM,EN,th,g402,hA,hb,hm,hqA,c1,hq,hq1,hsh,g402L0e,h3,g402L1e,h4,hget,hget0,hl2,hl3,hl4,hl5,c2]
end Go.Ab.Lw
namespace Go.Ab.Lw
open Ev
theorem Gm {e:Ex} {k:Int} {b m:Nat} (hm:m≤2000) {SS:List Ex→Sh} (h1:∀c,(SS c)[b]?=some (some (a7 Ex.cells c))) (h2:∀c c',(SS c).set b (some (a7 Ex.cells c'))=SS c') (h3:∀c,bn (SS c)) {c0:List Ex} {Q:Ex→Prop}
   (hc:∀x∈c0,∀k:Int,∃y:Ex,(aW AP).p 431 [x.pv,vI k]=some [y.pv]∧Q y) :
   ∀(n i:Nat),m-i=n→i≤m→∀c:List Ex,c.length=m→c.drop i=c0.drop i→(∀(j:Nat) (y:Ex),j<i→c[j]?=some y→Q y)→∃r:List Ex,r.length=m∧(∀y∈r,Q y) ∧
   cl AP g431L0 ⟨[(1,.pv (vI k)),(2,.aT 2 0),(4,.aT 4 0),(5,.bd b 11 m true),(6,.pv (vI i))],[(2,e.cl),(4,tg 0)],SS c,[0,0,0]⟩ =
     some (.exit 0,⟨[(1,.pv (vI k)),(2,.aT 2 0),(4,.aT 4 0),(5,.bd b 11 m true),(6,.pv (vI m)),(13,.pv (.bool false))],[(2,e.cl),(4,tg 0)],SS r,[0,0,0]⟩)
 | 0,i,hn,hi,c,ha,hd,hq0=>by
   have:i=m:=by omega
   subst this
   refine ⟨c,ha,?_,?_⟩
   · intro y hy
     obtain ⟨j,hj,rfl⟩:=List.getElem_of_mem hy
     exact hq0 j _ (by omega) (List.getElem?_eq_getElem hj)
   have hq:=(h3 c).norm
   generalize SS c=S at *
   rw [g431L0e]
   simp [g431B0,tg,hq]
 | n+1,i,hn,hi,c,ha,hd,hq0=>by
   have hi:i<m:=by omega
   obtain ⟨x,hx⟩:=cE (l:=c) (i:=i) (by omega)
   have hx0:c0[i]?=some x:=by
     have:=congrArg (fun l=>l[0]?) hd
     simpa [hx] using this.symm
   obtain ⟨y,cy,hl⟩:=hc x (eE hx0) (IntKind.i64.wrap (k+i))
   obtain ⟨r,r1,r2,ih⟩:=Gm (e:=e) (k:=k) hm h1 h2 h3 hc n (i+1) (by omega) (by omega) (c.set i y) (by simpa using ha) (by
     rw [List.drop_set_of_lt (by omega)]
     have:=congrArg (List.drop 1) hd
     simpa [List.drop_drop,Nat.add_comm] using this) (by
     intro j u hj hu
     rw [List.getElem?_set] at hu
     split at hu
     · split at hu
       · cases hu;exact hl
       · cases hu
     · exact hq0 j u (by omega) hu)
   refine ⟨r,r1,r2,?_⟩
   have hset:=jE cP hx (y:=y) (o:=0) (vs:=y.cells) (by rw [cP.len];omega) (by
     have h1:=cP.len x
     have h2:=cP.len y
     simp [h1,h2])
   rw [Ex.jk,Nat.add_zero] at hset
   have hget:=jD cP hx (o:=0) (k:=11) (by omega)
   have ht:(((x.cells.drop 0).take 11).map AV.pv)=x.cl:=by
     rw [List.drop_zero,List.take_of_length_le (by rw [cP.len];omega),Ex.jk]
   rw [ht,Nat.add_zero] at hget
   have hs1:=h1 c
   have hs2:=h2 c (c.set i y)
   have hq:=(h3 c).norm
   have hq1:=(h3 (c.set i y)).norm
   have hB:cA (a7 Ex.cells c)=false:=e9 bH
   have hlen:(a7 Ex.cells c).length=m*11:=by rw [dj cP,ha]
   have hle:i*11+11≤m*11:=by omega
   clear r2 hc hd h1 h2 h3 hq0
   generalize SS (c.set i y)=S1 at *
   generalize SS c=S at *
   generalize SS r=S2 at *
   generalize a7 Ex.cells (c.set i y)=T1 at *
   generalize a7 Ex.cells c=T at *
   rw [g431L0e] at ih ⊢
   simp at cy
   simp [tg,hq1] at ih hset hget ⊢
   simp (disch:=omega) [-getElem?_pos,g431B0,hq,hi,hs1,hB,hlen,hle,hget,hset,hs2,cy,aL]
   rw [g431L0e]
   simp [hq1,ih]
theorem Ar.jk (a:Ar):(Ar.cells a).map AV.pv=Ar.cl a:=by
 simp only [Ar.cells,List.map_cons,Ex.jk,Ar.cl]
theorem ti {l:List PV} {τ:Nat} {b:List AV}:∀a:List AV,eS (a++.own l τ::b)=eS (a++.pv (.aI l)::b)
 | []=>rfl
 | x::a=>by simp only [List.cons_append,eS,ti a]
theorem C_ {l:List PV} {τ o:Nat} {T:List AV}:eS (aN T o [.own l τ])=eS (aN T o [.pv (.aI l)]):=by
 simp only [aN,List.append_assoc,List.singleton_append,ti,List.length_singleton]
def gI (n:Nat) (e:Ex):Prop:=EL e∧e.C7 n
theorem qo {n:Nat} {e:Ex} {K:List Ex} {A:List Ar} (he:EL e) (hK:K.length=e.kids.length) (hA:A.length≤1000) (hv:∀a∈A,a.vars.length≤1000) (hk:∀x∈K,gI n x) (ha:∀a∈A,gI n a.body) {p:Int}:gI (n+1) ⟨e.kind,p,e.name,e.num,K,A,e.ty⟩:=by
 have hch:∀x∈Ex.ch ⟨e.kind,p,e.name,e.num,K,A,e.ty⟩,gI n x:=by
   intro x hx
   simp only [Ex.ch,List.mem_append,List.mem_map] at hx
   rcases hx with hx | ⟨a,h,rfl⟩
   · exact hk x hx
   · exact ha a h
 refine ⟨⟨.mk ?_ hA hv he.ok.t fun x hx=>(hch x hx).1.ok,.mk ?_ fun x hx=>(hch x hx).1.one,.mk ?_ fun x hx=>(hch x hx).1.cw⟩,.mk fun x hx=>(hch x hx).2⟩
 · have:=he.ok.k;simp only;omega
 · intro h8;simp only at h8 ⊢;rw [hK];exact he.one.h h8
 · exact he.cw.h
theorem AF {n:Nat}:gI (n+1) ⟨10,0,[],0,[],[],gJ⟩:=
 ⟨⟨.mk (by simp) (by simp) (by simp) (mF rfl) (by simp [Ex.ch]),.mk (by simp) (by simp [Ex.ch]),.mk ⟨fun _=>rfl,by simp [gJ]⟩ (by simp [Ex.ch])⟩,.mk (by simp [Ex.ch])⟩
theorem tj:∀{as:List Ar} {xs:List Ex},xs.length=as.length→∀a∈eQ as xs,a.body∈xs
 | [],[],_,a,h=>by simp [eQ] at h
 | [],_::_,h,_,_=>by simp at h
 | _::_,[],h,_,_=>by simp at h
 | b::as,x::xs,h,a,ha=>by
   simp only [eQ,List.mem_cons] at ha
   rcases ha with rfl | ha
   · simp
   · exact List.mem_cons_of_mem _ (tj (by simpa using h) a ha)
theorem AG {as:List Ar} {xs:List Ex} {a:Ar} (h:a∈eQ as xs):∃b∈as,b.vars=a.vars:=by
 have h1:(a.dZ,a.vars)∈(eQ as xs).map (fun a=>(a.dZ,a.vars)):=List.mem_map.2 ⟨a,h,rfl⟩
 rw [qn] at h1
 obtain ⟨b,hb,e⟩:=List.mem_map.1 h1
 exact ⟨b,hb,by simpa using congrArg Prod.snd e⟩
theorem EO {n m:Nat} {e:Ex} (h:e.C7 n):n≤m→e.C7 m:=by
 induction h generalizing m with
 | mk _ ih=>
   intro hm
   obtain ⟨k,rfl⟩:∃k,m=k+1:=⟨m-1,by omega⟩
   exact .mk fun x hx=>ih x hx (by omega)
def nT (n:Nat) (e:Ex):Prop:=gI n e∧e.EJ fun x=>∀a∈x.aD,a.vars.length≤8
theorem C' {n m:Nat} {e:Ex} (h:nT n e) (hm:n≤m):nT m e:=⟨⟨h.1.1,EO h.1.2 hm⟩,h.2⟩
theorem dw {n:Nat} {k:Int} {s:eR} {m:Int} {l:List Ex} {t:Ty} (hk:k≠8) (hl:l.length≤1000) (ht:t.Ok) (hc:t.Cw) (hx:∀x∈l,nT n x):nT (n+1) ⟨k,0,s,m,l,[],t⟩:=
 ⟨⟨⟨.mk hl (by simp) (by simp) ht (by simpa [Ex.ch] using fun x h=>(hx x h).1.1.ok),.mk (fun h=>absurd h hk) (by simpa [Ex.ch] using fun x h=>(hx x h).1.1.one),.mk hc (by simpa [Ex.ch] using fun x h=>(hx x h).1.1.cw)⟩,
   .mk (by simpa [Ex.ch] using fun x h=>(hx x h).1.2)⟩,.mk (by simp) (by simpa [Ex.ch] using fun x h=>(hx x h).2)⟩
theorem fD:gJ.Cw:=⟨fun _=>rfl,by simp [gJ]⟩
theorem eF.HI {ds:List Dt} (hD:∀d∈ds,D8 d) {n:Nat} {e:Ex} (h:eF ds n e):nT (n+1) e:=by
 induction h with
 | var _=>exact dw (by decide) (by simp) g_ fD (by simp)
 | int _ _=>exact dw (by decide) (by simp) g_ fD (by simp)
 | dZ _ _=>exact dw (by decide) (by simp) g_ fD (by simp)
 | gone=>exact dw (by decide) (by simp) g_ fD (by simp)
 | hole=>exact dw (by decide) (by simp) g_ fD (by simp)
 | lam _ _ ih=>exact dw (by decide) (by simp) g_ fD (by simpa using ih)
 | app _ _ iha ihb=>exact dw (by decide) (by simp) g_ fD (by simpa using ⟨iha,ihb⟩)
 | HB hk _ _ _ iha ihb=>exact dw (by rcases hk with rfl | rfl<;>decide) (by simp) g_ fD (by simpa using ⟨iha,ihb⟩)
 | Ij _ ht ih=>exact dw (by decide) (by simp) (fj.ok (fun d hd=>(hD d hd).1) (by simp) ht) (fj.cw (by simp) ht) (by simpa using ih)
 | held _ ih=>exact dw (by decide) (by simp) g_ fD (by simpa using ih)
 | up _ ih=>exact C' ih (by omega)
 | @Fh n d a as hd ha hl hb hv hc iha ihb=>
   obtain ⟨_,_,h8a,h8b⟩:=hD _ hd
   have h8:∀x∈as,x.vars.length≤8:=by
     intro x hx
     obtain ⟨i,hi,rfl⟩:=List.getElem_of_mem hx
     obtain ⟨c,hcc⟩:=cE (show i<_ from hl ▸ hi)
     have:=(hc i c _ hcc (List.getElem?_eq_getElem hi)).2
     have:=h8b c (eE hcc)
     omega
   have hch:∀x∈Ex.ch ⟨8,0,[],0,[a],as,gJ⟩,nT (n+1) x:=by
     intro x hx
     simp [Ex.ch] at hx
     rcases hx with rfl | ⟨b,hb,rfl⟩
     · exact iha
     · exact ihb b hb
   exact ⟨⟨⟨.mk (by simp) (by simp;omega) (fun x hx=>by have:=h8 x hx;omega) g_ fun x hx=>(hch x hx).1.1.ok,.mk (fun _=>rfl) fun x hx=>(hch x hx).1.1.one,.mk fD fun x hx=>(hch x hx).1.1.cw⟩,.mk fun x hx=>(hch x hx).1.2⟩,.mk h8 fun x hx=>(hch x hx).2⟩
theorem EP {e f:Ex} (h:Lk e f):∀{n:Nat},gI n e→gI n f:=by
 induction h with
 | @mk e f h1 h2 h3 h4 h5 h6 _ ih=>
   intro n hs
   cases n with
   | zero=>cases hs.2
   | succ n=>
   have ha:f.aD.length=e.aD.length:=by have:=congrArg List.length h6;simpa using this
   have hl:f.ch.length=e.ch.length:=by rw [Ex.iM,Ex.iM];omega
   have Eu:∀y∈f.ch,gI n y:=by
     intro y hy
     obtain ⟨i,hi⟩:=List.mem_iff_getElem?.1 hy
     have hlt:=(List.getElem?_eq_some_iff.1 hi).1
     obtain ⟨x,hx⟩:=cE (l:=e.ch) (i:=i) (by omega)
     exact ih i x y hx hi ⟨hs.1.c (eE hx),hs.2.c x (eE hx)⟩
   refine ⟨⟨.mk (by have:=hs.1.ok.k;omega) (by have:=hs.1.ok.a;omega) ?_ (by rw [h4];exact hs.1.ok.t) fun y hy=>(Eu y hy).1.ok,.mk (by rw [h1,h5];exact hs.1.one.h) fun y hy=>(Eu y hy).1.one,.mk (by rw [h4];exact hs.1.cw.h) fun y hy=>(Eu y hy).1.cw⟩,.mk fun y hy=>(Eu y hy).2⟩
   intro a hm
   have:(a.dZ,a.vars)∈e.aD.map (fun a=>(a.dZ,a.vars)):=by rw [←h6];exact List.mem_map_of_mem hm
   simp only [List.mem_map] at this
   obtain ⟨b,hb,hq⟩:=this
   have:=hs.1.ok.v b hb
   simp at hq
   rw [←hq.2];exact this
end Go.Ab.Lw
namespace Go.Ab.Lw
open Ev
theorem c145z {e:Ex} (hO:e.Ok):∃k,(aW AP).i 145 [.pv e.pv] [] []=some (if e.ch=[] then ([.own [] 0],[],[0]) else ([.bd k 11 e.ch.length true],nn k++[some (a7 Ex.cells e.ch)],[])):=by
 obtain ⟨k,c⟩:=c145i (A:=.pv (.aI (e.aD.map Ar.pv))) hO.k hO.a (X:=[]) (by intro cs h;simp at h) (.inl rfl)
 have cj:=c145j (e:=e) (X:=[])
 refine ⟨k,?_⟩
 rw [cj,c]
 simp
theorem c431:∀(n:Nat) {e:Ex},nT n e→∀k:Int,∃y:Ex,(aW AP).p 431 [e.pv,vI k]=some [y.pv]∧gI n y
 | 0,e,h,_=>by cases h.1.2
 | n+1,e,h,k=>by
   have hc:∀x∈e.ch,∀k:Int,∃y:Ex,(aW AP).p 431 [x.pv,vI k]=some [y.pv]∧gI n y:=fun x hx k=>c431 n ⟨⟨h.1.1.c hx,h.1.2.c x hx⟩,h.2.c x hx⟩ k
   have hO:=h.1.1.ok
   have hk:=hO.k
   have ha:=hO.a
   have hlen:=Ex.iM (e:=e)
   obtain ⟨k0,cj⟩:=c145z hO
   by_cases hA:e.aD=[]
   · by_cases hK:e.kids=[]
     · have hch:e.ch=[]:=by simp [Ex.ch,hA,hK]
       rw [if_pos hch] at cj
       have c2:=c374 (e:=e) hk ha (c:=[])
       have hw:e.qm []=⟨e.kind,e.pos,e.name,e.num,[],[],e.ty⟩:=by simp [Ex.qm,hA,hK,eQ]
       rw [hw] at c2
       refine ⟨⟨e.kind,e.pos,e.name,e.num,[],[],e.ty⟩,?_,qo h.1.1 (by simp [hK]) (by simp) (by simp) (by simp) (by simp)⟩
       simp [hK,hA] at cj c2
       rw [aJ (af:=g431) rfl rfl (by decide)]
       simp [g431,g431L0e,g431B0,hA,hK,cj,c2]
     · -- kids alone
       have hchk:e.ch=e.kids:=by simp [Ex.ch,hA]
       have hne:e.ch≠[]:=by rw [hchk];exact hK
       rw [if_neg hne] at cj
       obtain ⟨r,r1,r2,h4⟩:=Gm (e:=e) (k:=k) (b:=k0) (m:=e.ch.length) (by omega) (SS:=fun c=>nn k0++[some (a7 Ex.cells c)])
         (fun c=>by simp) (fun c c'=>by simp) (fun c=>(cG k0).app (bn.one bH)) (c0:=e.ch) hc _ 0 rfl (by omega) e.ch rfl rfl (by omega)
       have c2:=c374 (e:=e) hk ha (c:=r)
       have hrl:r.length=e.kids.length:=by rw [r1,hchk]
       have hw:e.qm r=⟨e.kind,e.pos,e.name,e.num,r,[],e.ty⟩:=by rw [Ex.qm,if_pos (by omega),hA,ta,List.take_of_length_le (by omega)]
       rw [hw] at c2
       refine ⟨⟨e.kind,e.pos,e.name,e.num,r,[],e.ty⟩,?_,qo h.1.1 hrl (by simp) (by simp) r2 (by simp)⟩
       have hget:(nn k0++[some (a7 Ex.cells r)])[k0]?=some (some (a7 Ex.cells r)):=by simp
       have hl2:(a7 Ex.cells r).length=e.ch.length*11:=by rw [dj cP,r1]
       have hl3:=nQ (l:=r)
       rw [r1] at hl3
       have hq:∀aE ts,bE aE ts (nn k0++[some (a7 Ex.cells e.ch)])=(nn k0++[some (a7 Ex.cells e.ch)],aE,ts):=((cG k0).app (bn.one bH)).norm
       have hsh:∀n,eu n (nn k0++[some (a7 Ex.cells e.ch)])=nn k0++[some (a7 Ex.cells e.ch)]:=((cG k0).app (bn.one bH)).shift
       clear hc r2 h hw
       generalize nn k0++[some (a7 Ex.cells e.ch)]=S0 at *
       generalize nn k0++[some (a7 Ex.cells r)]=S1 at *
       generalize a7 Ex.cells r=T1 at *
       generalize hm:e.ch.length=m at *
       rw [g431L0e] at h4
       simp [tg,hq,hA] at h4
       simp [hA] at cj c2 hl3
       rw [aJ (af:=g431) rfl rfl (by decide)]
       simp (disch:=omega) [-getElem?_pos,g431,hA,cj,hq,hsh,g431L0e,h4,hget,hl2,hl3,c2]
   · -- aD
     have hne:e.ch≠[]:=by simp [Ex.ch,hA]
     have hN0:0<e.aD.length:=List.length_pos_iff.2 hA
     rw [if_neg hne] at cj
     obtain ⟨r,r1,r2,h4⟩:=Gm (e:=e) (k:=k) (b:=k0) (m:=e.ch.length) (by omega) (SS:=fun c=>nn k0++[some (a7 Ex.cells c)])
       (fun c=>by simp) (fun c c'=>by simp) (fun c=>(cG k0).app (bn.one bH)) (c0:=e.ch) hc _ 0 rfl (by omega) e.ch rfl rfl (by omega)
     have c2:=c374 (e:=e) hk ha (c:=r)
     have hw:e.qm r=⟨e.kind,e.pos,e.name,e.num,r.take e.kids.length,eQ e.aD (r.drop e.kids.length),e.ty⟩:=by rw [Ex.qm,if_pos (by omega)]
     rw [hw] at c2
     have hKl:(r.take e.kids.length).length=e.kids.length:=by rw [List.length_take];omega
     have hKg:∀x∈r.take e.kids.length,gI n x:=fun x hx=>r2 x (List.mem_of_mem_take hx)
     have hal:(eQ e.aD (r.drop e.kids.length)).length=e.aD.length:=kU
     have hag:∀a∈eQ e.aD (r.drop e.kids.length),gI n a.body:=fun a hm=>r2 _ (List.mem_of_mem_drop (tj (by rw [List.length_drop];omega) a hm))
     have hav:∀a∈eQ e.aD (r.drop e.kids.length),a.vars.length≤8:=fun a hm=>by
       obtain ⟨b,hb,he⟩:=AG hm
       rw [←he];exact h.2.h b hb
     generalize r.take e.kids.length=K at *
     generalize eQ e.aD (r.drop e.kids.length)=as at *
     have hgood:∀A:List Ar,A.length≤1000→(∀a∈A,a.vars.length≤1000∧gI n a.body)→gI (n+1) ⟨e.kind,e.pos,e.name,e.num,K,A,e.ty⟩:=fun A h1 h2=>
       qo h.1.1 hKl h1 (fun a hm=>(h2 a hm).1) hKg fun a hm=>(h2 a hm).2
     obtain ⟨kk,m1,m2,m3⟩:=c26 (n:=k) (m:=e.aD.length) (by omega) (by omega)
     obtain ⟨q,rfl⟩:∃q:Nat,kk=q:=⟨kk.toNat,by omega⟩
     obtain ⟨w,w1,w2,w3⟩:=c26 (n:=k) (m:=7) (by omega) (by omega)
     have hqN:q<e.aD.length:=by omega
     obtain ⟨a,hx⟩:=cE (l:=as) (i:=q) (by omega)
     obtain ⟨a0,hx0⟩:=cE (l:=as) (i:=0) (by omega)
     have hma:=hav a (eE hx)
     have hga:=hag a (eE hx)
     have hget:(nn k0++[some (a7 Ex.cells r)])[k0]?=some (some (a7 Ex.cells r)):=by simp
     have hl2:(a7 Ex.cells r).length=e.ch.length*11:=by rw [dj cP,r1]
     have hl3:=nQ (l:=r)
     rw [r1] at hl3
     have hq:∀aE ts,bE aE ts (nn k0++[some (a7 Ex.cells e.ch)])=(nn k0++[some (a7 Ex.cells e.ch)],aE,ts):=((cG k0).app (bn.one bH)).norm
     have hsh:∀n,eu n (nn k0++[some (a7 Ex.cells e.ch)])=nn k0++[some (a7 Ex.cells e.ch)]:=((cG k0).app (bn.one bH)).shift
     have hkl:(nn k0++[some (a7 Ex.cells r)]).set k0 none=nn k0++[none]:=by simp
     have hsl:(nn k0++[none]).length=k0+1:=by simp
     have hg2:∀X:List AV,(nn k0++[none]++[some X])[k0+1]?=some (some X):=fun X=>by rw [List.getElem?_append_right (by simp)];simp
     have hs2:∀X Y:List AV,(nn k0++[none]++[some X]).set (k0+1) (some Y)=nn k0++[none]++[some Y]:=fun X Y=>by rw [List.set_append_right _ _ (by simp)];simp
     have hb:e.aD.length*200≤140737488355328:=by omega
     have hm2:=w0 (l:=as)
     have hB:cA (a7 Ar.cells as)=false:=e9 bH
     have hlT:(a7 Ar.cells as).length=e.aD.length*14:=by rw [dj bX,hal]
     have hle2:q*14+2+1≤e.aD.length*14:=by omega
     have hle1:q*14+1+1≤e.aD.length*14:=by omega
     have hle14:q*14+14≤e.aD.length*14:=by omega
     have hle0:14≤e.aD.length*14:=by omega
     have hL:=kh (l:=as)
     rw [hal] at hL
     have has:as≠[]:=by rintro rfl;simp at hal;omega
     have hg1:=EC bX hx (o:=2) (by omega) (p:=.aI (a.vars.map .str)) (by simp [Ar.cells])
     obtain ⟨T1,t1,t1l,t1f⟩:∃T1,aN (a7 Ar.cells as) (q*14+2) [.own (a.vars.map .str++[.str [120]]) 3]=T1∧T1.length=e.aD.length*14 ∧
         ((eS T1).bind (eK 14 true e.aD.length)).map PV.aI=some (.aI ((as.set q ⟨a.pos,a.dZ,a.vars++[[120]],a.body⟩).map Ar.pv)):=by
       refine ⟨_,rfl,by simp [aN,hlT];omega,?_⟩
       have hset:=nP bX hx (y:=⟨a.pos,a.dZ,a.vars++[[120]],a.body⟩) (o:=2) (p:=.aI (a.vars.map .str++[.str [120]])) (by omega) (by simp [Ar.cells])
       have hl:=kh (l:=as.set q ⟨a.pos,a.dZ,a.vars++[[120]],a.body⟩)
       rw [List.length_set,hal] at hl
       rw [C_,hset]
       exact hl
     obtain ⟨T2,t2,t2l,t2f⟩:∃T2,aN (a7 Ar.cells as) (q*14+1) [.pv (.str [71,111,110,101])]=T2∧T2.length=e.aD.length*14 ∧
         ((eS T2).bind (eK 14 true e.aD.length)).map PV.aI=some (.aI ((as.set q ⟨a.pos,[71,111,110,101],a.vars,a.body⟩).map Ar.pv)):=by
       refine ⟨_,rfl,by simp [aN,hlT];omega,?_⟩
       have hset:=nP bX hx (y:=⟨a.pos,[71,111,110,101],a.vars,a.body⟩) (o:=1) (p:=.str [71,111,110,101]) (by omega) (by simp [Ar.cells])
       have hl:=kh (l:=as.set q ⟨a.pos,[71,111,110,101],a.vars,a.body⟩)
       rw [List.length_set,hal] at hl
       rw [hset]
       exact hl
     have har:∀x:Ar,(((Ar.cells x).drop 0).take 14).map AV.pv=Ar.cl x:=fun x=>by rw [List.drop_zero,List.take_of_length_le (by rw [bX.len];omega),Ar.jk]
     have g0:(a7 Ar.cells as).take 14=a0.cl:=by
       have:=jD bX hx0 (o:=0) (k:=14) (by omega)
       rw [har a0] at this
       simpa using this
     have gq:((a7 Ar.cells as).drop (q*14)).take 14=a.cl:=by
       have:=jD bX hx (o:=0) (k:=14) (by omega)
       rw [har a] at this
       simpa using this
     obtain ⟨T3,t3,t3l,t3b,T4,t4,t4l,t4f⟩:∃T3,aN (a7 Ar.cells as) (q*14) a0.cl=T3∧T3.length=e.aD.length*14∧cA T3=false∧∃T4,aN T3 0 a.cl=T4∧T4.length=e.aD.length*14 ∧
         ((eS T4).bind (eK 14 true e.aD.length)).map PV.aI=some (.aI (((as.set q a0).set 0 a).map Ar.pv)):=by
       have h1:=jE bX hx (y:=a0) (o:=0) (vs:=Ar.cells a0) (by rw [bX.len];omega) (by have h1:=bX.len a;have h2:=bX.len a0;simp [h1,h2])
       rw [Ar.jk,Nat.add_zero] at h1
       obtain ⟨b,hb0⟩:=cE (l:=as.set q a0) (i:=0) (by rw [List.length_set];omega)
       have h2:=jE bX hb0 (y:=a) (o:=0) (vs:=Ar.cells a) (by rw [bX.len];omega) (by have h1:=bX.len a;have h2:=bX.len b;simp [h1,h2])
       rw [Ar.jk,Nat.zero_mul,Nat.add_zero] at h2
       have hl:=kh (l:=(as.set q a0).set 0 a)
       rw [List.length_set,List.length_set,hal] at hl
       exact ⟨_,h1,by rw [dj bX,List.length_set,hal],e9 bH,_,h2,by rw [dj bX,List.length_set,List.length_set,hal],hl⟩
     have tk:=nO bX (l:=as) (i:=q) (by omega)
     have tkf:=kh (l:=as.take q)
     have tkl:(as.take q).length=q:=by rw [List.length_take];omega
     rw [tkl,←tk] at tkf
     clear tk
     have G0:=hgood as (by omega) fun x hm=>⟨by have:=hav x hm;omega,hag x hm⟩
     have G1:=hgood (as.set q ⟨a.pos,a.dZ,a.vars++[[120]],a.body⟩) (by rw [List.length_set];omega) fun x hm=>by
       rcases List.mem_or_eq_of_mem_set hm with h | rfl
       · exact ⟨by have:=hav x h;omega,hag x h⟩
       · exact ⟨by simp;omega,hga⟩
     have G2:=hgood (as.set q ⟨a.pos,[71,111,110,101],a.vars,a.body⟩) (by rw [List.length_set];omega) fun x hm=>by
       rcases List.mem_or_eq_of_mem_set hm with h | rfl
       · exact ⟨by have:=hav x h;omega,hag x h⟩
       · exact ⟨by simp;omega,hga⟩
     have G3:=hgood ((as.set q a0).set 0 a) (by rw [List.length_set,List.length_set];omega) fun x hm=>by
       rcases List.mem_or_eq_of_mem_set hm with h | rfl
       · rcases List.mem_or_eq_of_mem_set h with h | rfl
         · exact ⟨by have:=hav x h;omega,hag x h⟩
         · exact ⟨by have:=hav _ (eE hx0);omega,hag _ (eE hx0)⟩
       · exact ⟨by omega,hga⟩
     have G4:=hgood (as.take q) (by omega) fun x hm=>by
       have h:=List.mem_of_mem_take hm
       exact ⟨by have:=hav x h;omega,hag x h⟩
     clear hc r2 h hw hgood hag hav hga hKg
     generalize a7 Ar.cells as=T at *
     generalize nn k0++[some (a7 Ex.cells e.ch)]=S0 at *
     generalize nn k0++[some (a7 Ex.cells r)]=S1 at *
     generalize nn k0++[none]=S2 at *
     generalize a7 Ex.cells r=U at *
     generalize hm:e.ch.length=m at *
     rw [g431L0e] at h4
     simp [tg,hq] at h4
     simp at cj c2 hl3 m1 w1 hg1 hL t1f t2f t4f tkf t1 t2 t3 t4 g0 gq
     have hqi:((q:Int)≤e.aD.length):=by omega
     have hsH:hU 14 false true [.bd (k0+1) 14 e.aD.length true,.pv (.int .i64 (q:Int))]=some (.bd (k0+1) 14 q true):=by
       simp [hU,fE]
       omega
     by_cases q1:w=1
     · subst q1
       refine ⟨_,?_,G1⟩
       rw [aJ (af:=g431) rfl rfl (by decide)]
       have hv1:a.vars.length*16≤140737488355328:=by omega
       have hv2:(a.vars.length+1)*16≤140737488355328:=by omega
       by_cases hv:a.vars=[]
       · simp [hv] at t1 t1f hg1
         simp (disch:=omega) [-getElem?_pos,g431,cj,hq,hsh,g431L0e,h4,hget,hl2,hl3,hkl,c2,hal,hA,has,hb,hm2,hsl,m1,w1,hg2,hs2,hB,hlT,hqN,hg1,hv,t1,t1l,t1f,hle2]
       · simp (disch:=omega) [-getElem?_pos,g431,cj,hq,hsh,g431L0e,h4,hget,hl2,hl3,hkl,c2,hal,hA,has,hb,hm2,hsl,m1,w1,hg2,hs2,hB,hlT,hqN,hg1,hv,hv1,hv2,t1,t1l,t1f,hle2]
     · by_cases q2:w=2
       · subst q2
         refine ⟨_,?_,G2⟩
         rw [aJ (af:=g431) rfl rfl (by decide)]
         simp (disch:=omega) [-getElem?_pos,g431,cj,hq,hsh,g431L0e,h4,hget,hl2,hl3,hkl,c2,hal,hA,has,hb,hm2,hsl,m1,w1,hg2,hs2,hB,hlT,hqN,t2,t2l,t2f,hle1]
       · by_cases q3:w=3
         · subst q3
           refine ⟨_,?_,G3⟩
           rw [aJ (af:=g431) rfl rfl (by decide)]
           simp (disch:=omega) [-getElem?_pos,g431,cj,hq,hsh,g431L0e,h4,hget,hl2,hl3,hkl,c2,hal,hA,has,hb,hm2,hsl,m1,w1,hg2,hs2,hB,hlT,hqN,hN0,g0,gq,t3,t3l,t3b,t4,t4l,t4f,hle14,hle0]
         · by_cases q4:w=4
           · subst q4
             by_cases q0:q=0
             · subst q0
               simp at hsH
               refine ⟨_,?_,AF⟩
               rw [aJ (af:=g431) rfl rfl (by decide)]
               simp (disch:=omega) [-getElem?_pos,g431,cj,hq,hsh,g431L0e,h4,hget,hl2,hl3,hkl,c2,hal,hA,has,hb,hm2,hsl,m1,w1,hg2,hs2,hB,hlT,hqN,hsH,gJ]
             · refine ⟨_,?_,G4⟩
               have hqn:¬e.aD.length*14=q*14:=by omega
               have hqle:q*14≤e.aD.length*14:=by omega
               rw [aJ (af:=g431) rfl rfl (by decide)]
               simp (disch:=omega) [-getElem?_pos,g431,cj,hq,hsh,g431L0e,h4,hget,hl2,hl3,hkl,c2,hal,hA,has,hb,hm2,hsl,m1,w1,hg2,hs2,hB,hlT,hqN,q0,hqn,hqle,hsH,tkf]
           · refine ⟨_,?_,G0⟩
             rw [aJ (af:=g431) rfl rfl (by decide)]
             simp (disch:=omega) [-getElem?_pos,g431,cj,hq,hsh,g431L0e,h4,hget,hl2,hl3,hkl,c2,hal,hA,has,hb,hm2,hsl,m1,w1,hg2,hs2,hB,hlT,hqN,q1,q2,q3,q4,hL]
end Go.Ab.Lw
namespace Go.Ab.Lw
open Ev
def Da (F G:tm):tm:=if F.1≠0 then F else G
theorem HJ {ds:List Dt} {names:List eR} {e:Ex} (he:EL e) (hn:names.length≤900000000)
   (ih:∀i,∀x∈e.ch,(aW AP).p 366 [.aI (ds.map Dt.pv),.aI ((names++dE e i).map .str),x.pv]=some [fP (x.a7 ds (names++dE e i))]):∀(n i:Nat),e.ch.length-i=n→i≤e.ch.length→∀F:tm,(F.1=0→F=(0,0))→∃j:Int,
   cl AP g366L0 ⟨[(0,.pv (.aI (ds.map Dt.pv))),(1,.pv (.aI (names.map .str))),(5,.aT 5 0),(6,.aT 6 0),(7,.aT 7 0),(12,.pv (.aI (e.ch.map Ex.pv))),(13,.pv (vI i))],[(5,e.cl),(6,m2 (0,0)),(7,m2 F)],[],[]⟩ =
     some (.exit 1,⟨[(0,.pv (.aI (ds.map Dt.pv))),(1,.pv (.aI (names.map .str))),(5,.aT 5 0),(6,.aT 6 0),(7,.aT 7 0),(12,.pv (.aI (e.ch.map Ex.pv))),(13,.pv (vI j)),(69,.pv (.bool false))],[(5,e.cl),(6,m2 (0,0)),(7,m2 (Da F (lC (fun i x=>x.a7 ds (names++dE e i)) i (e.ch.drop i))))],[],[]⟩)
 | 0,i,hk,hi,F,hF=>by
   have:i=e.ch.length:=by omega
   subst this
   refine ⟨e.ch.length,?_⟩
   rw [List.drop_length]
   have:Da F (lC (fun i x=>x.a7 ds (names++dE e i)) e.ch.length [])=F:=by
     unfold Da
     split
     · rfl
     · rename_i q;exact (hF (by simpa using q)).symm
   rw [this]
   generalize e.ch=C
   rw [g366L0e]
   simp [g366B0]
 | n+1,i,hk,hi,F,hF=>by
   have hi:i<e.ch.length:=by omega
   by_cases hF0:F.1=0
   · obtain ⟨x,hx⟩:=cE hi
     have hlen:=Ex.iM (e:=e)
     have hk1:=he.ok.k
     have hk2:=he.ok.a
     obtain ⟨j,hr⟩:=HJ he hn ih n (i+1) (by omega) (by omega) (x.a7 ds (names++dE e i)) tf
     refine ⟨j,?_⟩
     have k1:=c380 hi he.one.h he.ok
     have hbl:=kT he.ok (i:=i)
     have hb:(names.length+(dE e i).length)*16≤140737488355328:=by omega
     have hb1:names.length*16≤140737488355328:=by omega
     have hb2:(dE e i).length*16≤140737488355328:=by omega
     have k3:=ih i x (eE hx)
     rw [dh hx]
     have hor:Da F (lC (fun i x=>x.a7 ds (names++dE e i)) i (x::e.ch.drop (i+1)))=Da (x.a7 ds (names++dE e i)) (lC (fun i x=>x.a7 ds (names++dE e i)) (i+1) (e.ch.drop (i+1))):=by
       simp only [Da,lC,hF0]
       simp
     rw [hor]
     clear hor
     generalize hG:Da (x.a7 ds (names++dE e i)) (lC (fun i x=>x.a7 ds (names++dE e i)) (i+1) (e.ch.drop (i+1)))=G at *
     generalize hFF:x.a7 ds (names++dE e i)=FF at *
     clear ih hG
     have hF':=hF hF0
     subst hF'
     generalize dE e i=B at *
     generalize e.ch=C at *
     rw [g366L0e] at hr ⊢
     simp at k1 k3 hr
     by_cases h1:names=[]
     · subst h1
       simp only [List.map_nil] at hr
       by_cases h2:B=[]
       · subst h2
         simp at k3
         simp (disch:=omega) [-getElem?_pos,g366B0,hi,hx,k1,k3,aL]
         rw [g366L0e]
         simp [hr]
       · simp at k3
         simp (disch:=omega) [-getElem?_pos,g366B0,hi,hx,k1,k3,h2,hb2,aL]
         rw [g366L0e]
         simp [hr]
     · by_cases h2:B=[]
       · subst h2
         simp at k3
         simp (disch:=omega) [-getElem?_pos,g366B0,hi,hx,k1,k3,h1,hb1,aL]
         rw [g366L0e]
         simp [hr]
       · simp (disch:=omega) [-getElem?_pos,g366B0,hi,hx,k1,k3,h1,h2,hb,hb1,aL]
         rw [g366L0e]
         simp [hr]
   · refine ⟨i,?_⟩
     have:Da F (lC (fun i x=>x.a7 ds (names++dE e i)) i (e.ch.drop i))=F:=by simp [Da,hF0]
     rw [this]
     generalize e.ch=C at *
     rw [g366L0e]
     simp [g366B0,hi,hF0]
theorem c366 {ds:List Dt} (hS:Sm ds) (hc:∀d∈ds,Sm d.cons):∀(n:Nat) {e:Ex},EL e→e.C7 n→∀names:List eR,names.length+1000*n≤900000000→(aW AP).p 366 [.aI (ds.map Dt.pv),.aI (names.map .str),e.pv]=some [fP (e.a7 ds names)]
 | 0,e,_,hh,_,_=>by cases hh
 | n+1,e,he,hh,names,hl=>by
   have ih:∀i,∀x∈e.ch,(aW AP).p 366 [.aI (ds.map Dt.pv),.aI ((names++dE e i).map .str),x.pv]=some [fP (x.a7 ds (names++dE e i))]:=fun i x hx=>
     c366 hS hc n (he.c hx) (hh.c x hx) _ (by have:=kT he.ok (i:=i);simp;omega)
   obtain ⟨j,h⟩:=HJ he (by omega) ih _ 0 rfl (by omega) (dF ds names e) w5
   have k1:=c145 he.ok
   rw [List.drop_zero] at h
   rw [Ex.w4]
   change _=some [fP (Da (dF ds names e) (lC (fun i x=>x.a7 ds (names++dE e i)) 0 e.ch))]
   clear ih
   have k2:=c364 (s:=names) (by unfold Sm;omega) (y:=e.name)
   have k3:=c191 hS hc (s:=e.name)
   have k4:=c379 hS hc he.ok
   have k5:=c186 hS (l:=[]) (by simp [Sm]) he.ok.t he.cw.h
   have f9:=c365 (a:=9) (b:=e.pos)
   have fT:=c365 (a:=e.ty.formed ds []) (b:=e.pos)
   generalize Da (dF ds names e) (lC (fun i x=>x.a7 ds (names++dE e i)) 0 e.ch)=G at *
   generalize e.ch=C at *
   rw [aJ (af:=g366) rfl rfl (by decide)]
   rw [g366L0e] at h
   simp at k1 k2 k3 k4 k5 f9 fT
   generalize hQ:jR ds e=Q at *
   generalize hT:e.ty.formed ds []=T at *
   by_cases q1:e.kind=1
   · simp only [q1] at k1
     by_cases q2:e.name∈names
     · simp [dF,q1,q2] at h;simp [q2] at k2;simp [g366,q1,k1,k2,g366L0e,h]
     · simp [dF,q1,q2] at h;simp [q2] at k2;simp [g366,q1,k1,k2,f9,g366L0e,h]
   · by_cases q3:e.kind=2
     · simp only [q3] at k1
       cases q4:iO ds e.name 0 with
       | none=>
         rw [q4] at k3
         simp [rF] at k3
         simp [dF,q3,q4] at h
         simp [g366,q3,k1,k3,f9,g366L0e,h]
       | some r=>
         rw [q4] at k3
         simp [rF] at k3
         simp [dF,q3,q4] at h
         simp [g366,q3,k1,k3,g366L0e,h]
     · by_cases q5:e.kind=8
       · simp only [q5] at k1
         simp [q5] at k4
         simp [dF,q5,hQ] at h
         simp [g366,q5,k1,k4,g366L0e,h]
       · by_cases q7:e.kind=9
         · simp only [q7] at k1
           by_cases q8:T=0
           · subst q8
             simp [dF,q7,hT] at h
             simp [g366,q7,k1,k5,g366L0e,h]
           · simp [dF,q7,hT,q8] at h
             simp [g366,q7,q8,k1,k5,fT,g366L0e,h]
         · simp [dF,q1,q3,q5,q7] at h
           simp [g366,q1,q3,q5,q7,k1,g366L0e,h]
end Go.Ab.Lw
namespace Go.Ab.Lw
def Ik (g:Nat) (x:List PV):Option (List PV):=match g,x with
 | 79,[]=>some [.aI (cT.map Dt.pv)]
 | _,_=>none
theorem Gn:∀g x r,Ik g x=some r→(aW AP).p g x=some r:=by
 intro g x r h
 unfold Ik at h
 split at h
 · cases h;exact c79
 · cases h
theorem c401:(aW AP).p 401 []=some [.bool true]:=Fc.Fb (k:=100) (n:=30) Gn (by kernel_rfl)
end Go.Ab.Lw
namespace Go.Ab.Lw
open Ev
theorem HK {bits other spoil:Int} {L names:List Int} (hN:names.length≤5):∀(n i:Nat),names.length-i=n→i≤names.length→∀acc:List eR,acc.length=i→∃ns:List eR,ns.length≤5 ∧
   cl AP g423L0 ⟨[(0,.pv (vI bits)),(1,.pv (vI other)),(2,.pv (.aI (L.map vI))),(3,.pv (.aI (names.map vI))),(4,.pv (vI spoil)),(11,.own (acc.map .str) 0),(12,.pv (vI i))],[],[],[acc.length]⟩ =
     some (.exit 0,⟨[(0,.pv (vI bits)),(1,.pv (vI other)),(2,.pv (.aI (L.map vI))),(3,.pv (.aI (names.map vI))),(4,.pv (vI spoil)),(11,.own (ns.map .str) 0),(12,.pv (vI names.length)),(29,.pv (.bool false))],[],[],[ns.length]⟩)
 | 0,i,hn,hi,acc,ha=>by
   have:i=names.length:=by omega
   subst this
   refine ⟨acc,by omega,?_⟩
   rw [g423L0e]
   simp [g423B0]
 | n+1,i,hn,hi,acc,ha=>by
   have hi:i<names.length:=by omega
   obtain ⟨x,hx⟩:=cE hi
   obtain ⟨r,c,r0,r6⟩:=c26 (n:=x) (m:=6) (by omega) (by omega)
   have hb:(acc.length+1)*16≤140737488355328:=by omega
   obtain ⟨s,hs⟩:∃s:eR,([[120],[121],[122],[102],[103],[105,100]]:List eR)[r.toNat]?=some s:=by
     have:r=0∨r=1∨r=2∨r=3∨r=4∨r=5:=by omega
     rcases this with rfl | rfl | rfl | rfl | rfl | rfl<;>exact ⟨_,rfl⟩
   obtain ⟨ns,h1,ih⟩:=HK (bits:=bits) (other:=other) (spoil:=spoil) (L:=L) hN n (i+1) (by omega) (by omega) (acc++[s]) (by simp;omega)
   refine ⟨ns,h1,?_⟩
   rw [g423L0e] at ih ⊢
   simp at c ih
   have:r=0∨r=1∨r=2∨r=3∨r=4∨r=5:=by omega
   rcases this with rfl | rfl | rfl | rfl | rfl | rfl<;>simp at hs<;>subst hs <;>
     simp (disch:=omega) [-getElem?_pos,g423B0,hi,hx,c,hb,aL]<;>rw [g423L0e]<;>simp [ih]
def GF:List eR:=[[120],[121],[122],[102],[103],[105,100],[118,49],[118,50]]
theorem Gp (bits other:Int) (L names:List Int) (spoil:Int):(aW AP).p 423 [vI bits,vI other,.aI (L.map vI),.aI (names.map vI),vI spoil]=some [.bool true]:=by
 have c0:=c401
 have c1:=c15 (l:=L)
 rw [aJ (af:=g423) rfl rfl (by decide)]
 by_cases hL:L.length≤60
 · simp [hL] at c1
   by_cases ha:names.length≤5
   · have hLs:Sm L:=by unfold Sm;omega
     obtain ⟨ds,e1,hda,hds⟩:=c32 bits
     obtain ⟨dO,e1O,hdaO,hdsO⟩:=c32 other
     have hD:∀d∈ds,D8 d:=fun d hd=>C3 d (hda d hd)
     have hDO:∀d∈dO,D8 d:=fun d hd=>C3 d (hdaO d hd)
     obtain ⟨e,fk,fa,fg,j,e2,hR,hj⟩:=c247 hLs hds hD 4 (by omega) 0 (by omega)
     obtain ⟨y,e3,hy⟩:=c431 5 (hR.HI hD) spoil
     obtain ⟨z,k',e4,hz⟩:=c402 5 hy.1.ok hy.2 1
     have hg:=EP hz hy
     obtain ⟨ns,hn,hl⟩:=HK (bits:=bits) (other:=other) (spoil:=spoil) (L:=L) ha _ 0 rfl (by omega) [] rfl
     have sB:Sm ds:=by unfold Sm;omega
     have sO:Sm dO:=by unfold Sm;omega
     have cB:∀d∈ds,Sm d.cons:=fun d hd=>by have:=(hD d hd).2.2.1;unfold Sm;omega
     have cO:∀d∈dO,Sm d.cons:=fun d hd=>by have:=(hDO d hd).2.2.1;unfold Sm;omega
     have k1:=c405 sO cO 5 hg.1 hg.2 ns (by omega)
     have k2:=c366 sO cO 5 hg.1 hg.2 ns (by omega)
     have k3:=c405 sB cB 5 hg.1 hg.2 (ns++GF) (by simp [GF];omega)
     have k4:=c366 sB cB 5 hg.1 hg.2 (ns++GF) (by simp [GF];omega)
     have hb:(ns.length+8)*16≤140737488355328:=by omega
     have hdr:∀q:List PV,(ns.map PV.str++q).drop ns.length=q:=fun q=>by
       have:=List.drop_left (l₁:=ns.map PV.str) (l₂:=q)
       rw [List.length_map] at this
       exact this
     have ha2:(names.length:Int)≤5:=by omega
     generalize z.a7 dO ns=F1 at *
     generalize z.a7 ds (ns++GF)=F2 at *
     rw [g423L0e] at hl
     simp [GF] at e1 e1O e3 e4 k1 k2 k3 k4 hl
     cases fk<;>cases fa<;>cases fg<;>simp [ij,lB] at e2<;>simp [-getElem?_pos,g423,c0,c1,ha2,e1,e1O,e2,e3,e4,g423L0e,hl,k1,k2,k3,k4,hb,hdr,fP,cJ,lD]
   · have ha':¬(names.length:Int)≤5:=by omega
     simp [g423,c0,c1,ha']
 · simp [hL] at c1
   simp [g423,c0,c1]
end Go.Ab.Lw
