import Derived.Test.YtdigkcfoiilpfaaCodeA
import Derived.KernelRfl
/-
  The program's data.
  The makers: what their functions Cm.
  The makers: what their functions Cm.
  The data declarations that programs are made of: what the reader makes of their text.
  The makers: data declarations, chosen by bits.
  The makers: types and substitutions off the tape.
  Types and substitutions: what replaces variables.
  Types: rebuilding with new leaves.
  Substitutions: composing; equality of types and of substitutions.
  The order of types.
  Chapter 13: the plain laws, and the law that composition composes.
  Chapter 13: equality of substitutions; the laws SubstAssociates and SubstEqual.
  Functions of package slices over any elements.
  Ranges over a slice backward.
  Names, and which types are valid.
  Which types are valid.
  Contexts: their entries; looking names up.
  slices.EqualFunc and slices.Clip over any elements.
  Valid types by the reference; small types.
  What the pure data of a parameter looks EP.
  Chapter 3: what its laws make; the laws TypesValid and TypesEqual.
  The variables of types, by the program and by the reference.
  The reference's variables of types; they are the program's.
  Law 19 makes contexts; the law EnvironLooks.
  The maker of types over any list of data types.
  Correct types in declarations.
  Expressions.
  Arrays of structs in shared memory: their cells one behind the other.
  Expressions: children, the part at a path, and the names that are bound.
  How many nodes an expression has; expressions whose texts are known.
  Depths of types and expressions.
  Depths of types.
  Instances, by the program.
  Chapter 3: nodes by the reference, occurrences.
  Chapter 3: the rigid constants of types, by the program.
  The reference's store of type variables: what it looks EP, bound variables, walks.
  The reference's unifier: arrows, rigid constants, variables of a store, joining.
  Chapter 3: the rigid constants of types, by the program and by the reference.
  Chapter 3: the law TypesMeasured.
  Chapter 3: the law TypesMeasured.
-/
set_option linter.unusedVariables false
set_option linter.unusedSimpArgs false
set_option linter.unnecessarySimpa false
set_option maxRecDepth 100000
set_option maxHeartbeats 8000000
namespace Go.Ab.Lw
structure Ty where
 kind:Int
 name:List UInt8
 id:Int
 home:Int
 args:List Ty
 deriving Inhabited
noncomputable instance:DecidableEq Ty:=fun _ _=>Classical.propDecidable _
mutual
def Ty.pv:Ty→PV
 | ⟨k,n,i,h,as⟩=>.agg [.int .i64 k,.str n,.int .i64 i,.int .i64 h,.aF (Ty.cM as)]
def Ty.cM:List Ty→List PV
 | []=>[]
 | a::r=>a.pv::Ty.cM r
end
theorem Ty.yO:∀l:List Ty,Ty.cM l=l.map Ty.pv
 | []=>by simp [Ty.cM]
 | a::r=>by simp [Ty.cM,Ty.yO r]
@[simp] theorem Ty.oT (t:Ty):t.pv=.agg [.int .i64 t.kind,.str t.name,.int .i64 t.id,.int .i64 t.home,.aF (t.args.map Ty.pv)]:=by
 cases t;simp only [Ty.pv,Ty.yO]
theorem Ty.fH {p:Ty→Prop} (h:∀t:Ty,(∀x∈t.args,p x)→p t):∀t,p t
 | ⟨k,n,i,hm,as⟩=>h _ (fun x _hx=>Ty.fH h x)
termination_by t=>SizeOf.sizeOf t
decreasing_by have:=_root_.List.sizeOf_lt_of_mem _hx;simp at *;omega
structure F3 where
 pos:Int
 name:List UInt8
 fields:List Ty
 deriving Inhabited
structure Dt where
 pos:Int
 name:List UInt8
 params:List (List UInt8)
 cons:List F3
 deriving Inhabited
def F3.pv (c:F3):PV:=.agg [.int .i64 c.pos,.str c.name,.aF (c.fields.map Ty.pv)]
def Dt.pv (d:Dt):PV:=.agg [.int .i64 d.pos,.str d.name,.aF (d.params.map .str),.aF (d.cons.map F3.pv)]
@[simp] theorem F3.oT (c:F3):c.pv=.agg [.int .i64 c.pos,.str c.name,.aF (c.fields.map Ty.pv)]:=rfl
@[simp] theorem Dt.oT (d:Dt):d.pv=.agg [.int .i64 d.pos,.str d.name,.aF (d.params.map .str),.aF (d.cons.map F3.pv)]:=rfl
structure As where
 id:Int
 ty:Ty
 deriving Inhabited
def As.pv (a:As):PV:=.agg [.int .i64 a.id,.int .i64 a.ty.kind,.str a.ty.name,.int .i64 a.ty.id,.int .i64 a.ty.home,.aF (a.ty.args.map Ty.pv)]
@[simp] theorem As.oT (a:As):a.pv=.agg [.int .i64 a.id,.int .i64 a.ty.kind,.str a.ty.name,.int .i64 a.ty.id,.int .i64 a.ty.home,.aF (a.ty.args.map Ty.pv)]:=rfl
@[simp] theorem As.eta (t:As):As.mk t.id t.ty=t:=rfl
abbrev vI (n:Int):PV:=.int .i64 n
def tp (L:List Int) (i:Int):Sh:=[some [.pv (.aF (L.map vI)),.pv (vI i)]]
@[simp] theorem Jd (L:List Int) (i:Int):tp L i=[some [.pv (.aF (L.map vI)),.pv (vI i)]]:=rfl
def Sm {α:Type} (l:List α):Prop:=l.length<1099511627776
def Gl {α:Type} (l:List α):Prop:=l.length≤9223372036854775807
@[simp] theorem I3 (n:Nat):((n:Int)<0)↔False:=by simp
theorem dv {α:Type} {l:List α} {i:Nat} {x:α} (h:l[i]?=some x):l.drop i=x::l.drop (i+1):=by
 obtain ⟨hi,rfl⟩:=List.getElem?_eq_some_iff.1 h
 exact List.drop_eq_getElem_cons hi
theorem eg {α:Type} {l:List α} {i:Nat} (h:i<l.length):∃x,l[i]?=some x:=⟨_,List.getElem?_eq_getElem h⟩
theorem ej {α:Type} {l:List α} {i:Nat} {x:α} (h:l[i]?=some x):x∈l:=List.mem_of_getElem? h
theorem Ia {α:Type} {l:List α} {i:Nat} (h:l.length≤i):l.drop i=[]:=List.drop_eq_nil_of_le h
end Go.Ab.Lw
namespace Go.Ab.Lw
open Ev
theorem c26 {n m:Int} (h1:1≤m) (h2:m<4611686018427387904):∃r,(aC AP).p 26 [vI n,vI m]=some [vI r]∧0≤r∧r<m:=by
 rw [az (af:=g26) rfl rfl (by decide)]
 have a1:=Int.tmod_lt_of_pos n (show 0<m by omega)
 have a2:=Int.lt_tmod_of_pos n (show 0<m by omega)
 have e1:¬m<1:=by omega
 have e2:¬m=0:=by omega
 by_cases h:n.tmod m<0
 · refine ⟨n.tmod m+m,?_,by omega,by omega⟩
   simp (disch:=omega) [g26,e1,e2,h,aI]
 · refine ⟨n.tmod m,?_,by omega,by omega⟩
   simp [g26,e1,e2,h]
theorem c68 {L:List Int} (hL:Sm L) {i:Nat} (hi:i≤L.length) {n:Int} (h1:1≤n) (h2:n<4611686018427387904) :
   ∃(r:Int) (j:Nat),(aC AP).i 68 [.aO 0 0,.pv (vI n)] (tp L i) []=some ([.pv (vI r)],tp L j,[])∧0≤r∧r<n∧j≤L.length:=by
 unfold Sm at hL
 rw [aT (af:=g68) rfl (by simp [g68])]
 by_cases h:i<L.length
 · obtain ⟨x,hx⟩:=eg h
   obtain ⟨r,e,e1,e2⟩:=c26 (n:=x) h1 h2
   refine ⟨r,i+1,?_,e1,e2,h⟩
   have h':¬L.length≤i:=by omega
   simp (disch:=omega) [-getElem?_pos,g68,h',aI,hx,e]
 · have h':L.length≤i:=by omega
   refine ⟨0,i,?_,by omega,by omega,hi⟩
   simp [g68,h']
theorem c63 {n:Int}:(aC AP).p 63 [vI n]=some [(Ty.mk 1 [] n 0 []).pv]:=by
 rw [az (af:=g63) rfl rfl (by decide)]
 simp [g63]
theorem c71 {n m:Int}:(aC AP).p 71 [vI n,vI m]=some [(Ty.mk 3 [] m n []).pv]:=by
 rw [az (af:=g71) rfl rfl (by decide)]
 simp [g71]
theorem c72 {n:Int}:(aC AP).p 72 [vI n]=some [(Ty.mk 2 [] n 0 []).pv]:=by
 rw [az (af:=g72) rfl rfl (by decide)]
 simp [g72]
theorem c62 {s:List UInt8} {l:List Ty} (h:Sm l):(aC AP).p 62 [.str s,.aF (l.map Ty.pv)]=some [(Ty.mk 4 s 0 0 l).pv]:=by
 unfold Sm at h
 rw [az (af:=g62) rfl rfl (by decide)]
 cases l with
 | nil=>simp [g62]
 | cons a r=>
   have:(r.length+1)*64≤140737488355328:=by simp at h;omega
   simp [g62,this]
theorem c34:(aC AP).p 34 []=some [(Ty.mk 4 [73,110,116] 0 0 []).pv]:=by
 rw [az (af:=g34) rfl rfl (by decide)]
 have h:=c62 (s:=[73,110,116]) (l:=[]) (by simp [Sm])
 simp at h
 simp [g34,h]
theorem c69 {a b:Ty}:(aC AP).p 69 [a.pv,b.pv]=some [(Ty.mk 4 [45,62] 0 0 [a,b]).pv]:=by
 rw [az (af:=g69) rfl rfl (by decide)]
 have h:=c62 (s:=[45,62]) (l:=[a,b]) (by simp [Sm])
 simp at h
 simp [g69,h]
theorem c15 {l:List Int}:(aC AP).p 15 [.aF (l.map vI)]=some [.bool (decide (l.length≤60))]:=by
 rw [az (af:=g15) rfl rfl (by decide)]
 simp [g15]
 omega
end Go.Ab.Lw
namespace Go.Ab.Lw
open Ev
def Calm (sh:Sh):Prop:=∀aB ts,bZ aB ts sh=(sh,aB,ts)
theorem Ef:Calm []:=fun _ _=>rfl
theorem rT {L:List Int} {i:Int}:Calm (tp L i):=fun _ _=>rfl
def iy (n:Int):Ty:=⟨1,[],n,0,[]⟩
def lj (h n:Int):Ty:=⟨3,[],n,h,[]⟩
def rU (n:Int):Ty:=⟨2,[],n,0,[]⟩
def hZ:Ty:=⟨4,[73,110,116],0,0,[]⟩
theorem c70_4 {sh:Sh} (h:Calm sh):(aC AP).i 70 [.pv (vI 4)] sh []=some ([.own ([iy 0,iy 1,iy 2,iy 3].map Ty.pv) 0],sh,[4]):=by
 have hh:=h
 unfold Calm at h
 rw [aT (af:=g70) rfl (by decide)]
 have c0:=c63 (n:=0);have c1:=c63 (n:=1);have c2:=c63 (n:=2);have c3:=c63 (n:=3)
 simp at c0 c1 c2 c3
 simp (disch:=omega) [-getElem?_pos,g70,g70L0e,g70B0,aI,c0,c1,c2,c3,h,iy]
def dK:List Ty:=[iy 0,iy 1,iy 2,iy 3,lj 0 0,lj 1 0,lj (-1) 2,rU 0]
theorem c28:(aC AP).p 28 []=some [.aF (dK.map Ty.pv)]:=by
 rw [az (af:=g28) rfl rfl (by decide)]
 have h:=c70_4 Ef
 have c1:=c71 (n:=0) (m:=0);have c2:=c71 (n:=1) (m:=0);have c3:=c71 (n:=-1) (m:=2);have c4:=c72 (n:=0)
 simp [iy] at h c1 c2 c3 c4
 simp [g28,h,c1,c2,c3,c4,dK,iy,lj,rU]
end Go.Ab.Lw
namespace Go.Ab.Lw
def Ib:List UInt8:=[100,97,116,97,32,66,111,111,108,32,61,32,84,114,117,101,32,124,32,70,97,108,115,101,59,32,100,97,116,97,32,79,112,116,105,111,110,32,97,32,61,32,78,111,110,101,32,124,32,83,111,109,101,32,97,59,32,100,97,116,97,32,76,105,115,116,32,97,32,61,32,78,105,108,32,124,32,67,111,110,115,32,97,32,40,76,105,115,116,32,97,41,59,100,97,116,97,32,80,97,105,114,32,97,32,98,32,61,32,80,97,105,114,32,97,32,98,59,32,100,97,116,97,32,78,97,116,32,61,32,90,101,114,111,32,124,32,83,117,99,99,32,78,97,116,59,32,100,97,116,97,32,70,117,110,32,97,32,98,32,61,32,70,117,110,32,40,97,32,45,62,32,98,41,59,32,100,97,116,97,32,84,119,111,32,97,32,61,32,66,111,116,104,32,97,32,97,32,124,32,79,110,101,32,40,79,112,116,105,111,110,32,97,41,59]
def Gm:List PV:=[.aF [.agg [.int .i64 4,.str [100,97,116,97],.int .i64 0],.agg [.int .i64 2,.str [66,111,111,108],.int .i64 5],.agg [.int .i64 5,.str [61],.int .i64 10],.agg [.int .i64 2,.str [84,114,117,101],.int .i64 12],.agg [.int .i64 5,.str [124],.int .i64 17],.agg [.int .i64 2,.str [70,97,108,115,101],.int .i64 19],.agg [.int .i64 5,.str [59],.int .i64 24],.agg [.int .i64 4,.str [100,97,116,97],.int .i64 26],.agg [.int .i64 2,.str [79,112,116,105,111,110],.int .i64 31],.agg [.int .i64 1,.str [97],.int .i64 38],.agg [.int .i64 5,.str [61],.int .i64 40],.agg [.int .i64 2,.str [78,111,110,101],.int .i64 42],.agg [.int .i64 5,.str [124],.int .i64 47],.agg [.int .i64 2,.str [83,111,109,101],.int .i64 49],.agg [.int .i64 1,.str [97],.int .i64 54],.agg [.int .i64 5,.str [59],.int .i64 55],.agg [.int .i64 4,.str [100,97,116,97],.int .i64 57],.agg [.int .i64 2,.str [76,105,115,116],.int .i64 62],.agg [.int .i64 1,.str [97],.int .i64 67],.agg [.int .i64 5,.str [61],.int .i64 69],.agg [.int .i64 2,.str [78,105,108],.int .i64 71],.agg [.int .i64 5,.str [124],.int .i64 75],.agg [.int .i64 2,.str [67,111,110,115],.int .i64 77],.agg [.int .i64 1,.str [97],.int .i64 82],.agg [.int .i64 5,.str [40],.int .i64 84],.agg [.int .i64 2,.str [76,105,115,116],.int .i64 85],.agg [.int .i64 1,.str [97],.int .i64 90],.agg [.int .i64 5,.str [41],.int .i64 91],.agg [.int .i64 5,.str [59],.int .i64 92],.agg [.int .i64 4,.str [100,97,116,97],.int .i64 93],.agg [.int .i64 2,.str [80,97,105,114],.int .i64 98],.agg [.int .i64 1,.str [97],.int .i64 103],.agg [.int .i64 1,.str [98],.int .i64 105],.agg [.int .i64 5,.str [61],.int .i64 107],.agg [.int .i64 2,.str [80,97,105,114],.int .i64 109],.agg [.int .i64 1,.str [97],.int .i64 114],.agg [.int .i64 1,.str [98],.int .i64 116],.agg [.int .i64 5,.str [59],.int .i64 117],.agg [.int .i64 4,.str [100,97,116,97],.int .i64 119],.agg [.int .i64 2,.str [78,97,116],.int .i64 124],.agg [.int .i64 5,.str [61],.int .i64 128],.agg [.int .i64 2,.str [90,101,114,111],.int .i64 130],.agg [.int .i64 5,.str [124],.int .i64 135],.agg [.int .i64 2,.str [83,117,99,99],.int .i64 137],.agg [.int .i64 2,.str [78,97,116],.int .i64 142],.agg [.int .i64 5,.str [59],.int .i64 145],.agg [.int .i64 4,.str [100,97,116,97],.int .i64 147],.agg [.int .i64 2,.str [70,117,110],.int .i64 152],.agg [.int .i64 1,.str [97],.int .i64 156],.agg [.int .i64 1,.str [98],.int .i64 158],.agg [.int .i64 5,.str [61],.int .i64 160],.agg [.int .i64 2,.str [70,117,110],.int .i64 162],.agg [.int .i64 5,.str [40],.int .i64 166],.agg [.int .i64 1,.str [97],.int .i64 167],.agg [.int .i64 5,.str [45,62],.int .i64 169],.agg [.int .i64 1,.str [98],.int .i64 172],.agg [.int .i64 5,.str [41],.int .i64 173],.agg [.int .i64 5,.str [59],.int .i64 174],.agg [.int .i64 4,.str [100,97,116,97],.int .i64 176],.agg [.int .i64 2,.str [84,119,111],.int .i64 181],.agg [.int .i64 1,.str [97],.int .i64 185],.agg [.int .i64 5,.str [61],.int .i64 187],.agg [.int .i64 2,.str [66,111,116,104],.int .i64 189],.agg [.int .i64 1,.str [97],.int .i64 194],.agg [.int .i64 1,.str [97],.int .i64 196],.agg [.int .i64 5,.str [124],.int .i64 198],.agg [.int .i64 2,.str [79,110,101],.int .i64 200],.agg [.int .i64 5,.str [40],.int .i64 204],.agg [.int .i64 2,.str [79,112,116,105,111,110],.int .i64 205],.agg [.int .i64 1,.str [97],.int .i64 212],.agg [.int .i64 5,.str [41],.int .i64 213],.agg [.int .i64 5,.str [59],.int .i64 214]],.agg [.int .i64 0,.int .i64 0]]
def cn:List Dt:=[⟨0,[66,111,111,108],[],[⟨12,[84,114,117,101],[]⟩,⟨19,[70,97,108,115,101],[]⟩]⟩,
 ⟨26,[79,112,116,105,111,110],[[97]],[⟨42,[78,111,110,101],[]⟩,⟨49,[83,111,109,101],[⟨5,[97],0,0,[]⟩]⟩]⟩,
 ⟨57,[76,105,115,116],[[97]],[⟨71,[78,105,108],[]⟩,⟨77,[67,111,110,115],[⟨5,[97],0,0,[]⟩,⟨4,[76,105,115,116],0,0,[⟨5,[97],0,0,[]⟩]⟩]⟩]⟩,
 ⟨93,[80,97,105,114],[[97],[98]],[⟨109,[80,97,105,114],[⟨5,[97],0,0,[]⟩,⟨5,[98],0,0,[]⟩]⟩]⟩,
 ⟨119,[78,97,116],[],[⟨130,[90,101,114,111],[]⟩,⟨137,[83,117,99,99],[⟨4,[78,97,116],0,0,[]⟩]⟩]⟩,
 ⟨147,[70,117,110],[[97],[98]],[⟨162,[70,117,110],[⟨4,[45,62],0,0,[⟨5,[97],0,0,[]⟩,⟨5,[98],0,0,[]⟩]⟩]⟩]⟩,
 ⟨176,[84,119,111],[[97]],[⟨189,[66,111,116,104],[⟨5,[97],0,0,[]⟩,⟨5,[97],0,0,[]⟩]⟩,⟨200,[79,110,101],[⟨4,[79,112,116,105,111,110],0,0,[⟨5,[97],0,0,[]⟩]⟩]⟩]⟩]
theorem Ic:(aC AP).p 118 [.str Ib]=some Gm:=Fc.H_ (k:=400) (n:=20) (by kernel_rfl)
def Je (g:Nat) (x:List PV):Option (List PV):=match g,x with
 | 118,[.str s]=>if s=Ib then some Gm else none
 | _,_=>none
theorem Hl:∀g x r,Je g x=some r→(aC AP).p g x=some r:=by
 intro g x r h
 unfold Je at h
 split at h
 · split at h
   · rename_i e;subst e;cases h;exact Ic
   · cases h
 · cases h
theorem c79:(aC AP).p 79 []=some [.aF (cn.map Dt.pv)]:=Fc.H' (k:=400) (n:=40) Hl (by kernel_rfl)
end Go.Ab.Lw
namespace Go.Ab.Lw
open Ev
@[simp] theorem Hx {l:List Dt}:aQ 4 (l.map Dt.pv)=true:=by cases l<;>simp
@[simp] theorem qD {l:List Ty}:aQ 5 (l.map Ty.pv)=true:=by cases l<;>simp
theorem Eg {n:Int} (h1:0≤n) (h2:n<18446744073709551616):IntKind.u64.wrap n=n:=by
 simp [IntKind.wrap,IntKind.bits,IntKind.signed]
 omega
def Ie (bits:Int) (ds:List Dt):Option (aG×St):=
 some (.exit 0,⟨[(0,.pv (vI bits)),(3,.pv (.aF (cn.map Dt.pv))),(4,.own (ds.map Dt.pv) 0),(5,.pv (vI 7)),(24,.pv (.bool false))],[],[],[ds.length]⟩)
theorem ID (bits:Int):∀(n i:Nat),7-i=n→i≤7→∀acc:List Dt,(∀d∈acc,d∈cn)→acc.length≤1+i →
   ∃ds:List Dt,cl AP g32L0 ⟨[(0,.pv (vI bits)),(3,.pv (.aF (cn.map Dt.pv))),(4,.own (acc.map Dt.pv) 0),(5,.pv (vI i))],[],[],[acc.length]⟩=Ie bits ds ∧
     (∀d∈ds,d∈cn)∧ds.length≤8
 | 0,i,hn,hi,acc,ha,hl=>by
   have:i=7:=by omega
   subst this
   refine ⟨acc,?_,ha,by omega⟩
   rw [g32L0e]
   have h7:cn.length=7:=rfl
   simp [g32B0,h7,Ie]
 | n+1,i,hn,hi,acc,ha,hl=>by
   have h7:cn.length=7:=rfl
   have hi:i<7:=by omega
   obtain ⟨x,hx⟩:=eg (l:=cn) (i:=i) (by omega)
   have hb:(acc.length+1)*72≤140737488355328:=by omega
   obtain ⟨d1,e1,m1,l1⟩:=ID bits n (i+1) (by omega) (by omega) (acc++[x]) (by
     intro d hd;simp at hd;rcases hd with hd | rfl
     · exact ha d hd
     · exact ej hx) (by simp;omega)
   obtain ⟨d2,e2,m2,l2⟩:=ID bits n (i+1) (by omega) (by omega) acc ha (by omega)
   simp at e1 e2
   have hi':(i:Int)<7:=by omega
   have key:∀S,S=cl AP g32L0 ⟨[(0,.pv (vI bits)),(3,.pv (.aF (cn.map Dt.pv))),(4,.own (acc.map Dt.pv) 0),(5,.pv (vI i))],[],[],[acc.length]⟩→S=Ie bits d1∨S=Ie bits d2:=by
     intro S hS
     rw [g32L0e] at hS
     simp (disch:=omega) [-getElem?_pos,g32B0,h7,hi',hx,aI,Eg,hb,e1,e2] at hS
     subst hS
     (repeat' split)<;>simp
   rcases key _ rfl with h | h
   · exact ⟨d1,h,m1,l1⟩
   · exact ⟨d2,h,m2,l2⟩
theorem c32 (bits:Int):∃ds:List Dt,(aC AP).p 32 [vI bits]=some [.aF (ds.map Dt.pv)]∧(∀d∈ds,d∈cn)∧ds.length≤8:=by
 have hp:=c79
 have h7:cn.length=7:=rfl
 obtain ⟨x,hx⟩:=eg (l:=cn) (i:=1) (by decide)
 obtain ⟨d1,e1,m1,l1⟩:=ID bits 7 0 rfl (by omega) [x] (by intro d hd;simp at hd;subst hd;exact ej hx) (by simp)
 obtain ⟨d2,e2,m2,l2⟩:=ID bits 7 0 rfl (by omega) [] (by simp) (by simp)
 rw [g32L0e] at e1 e2
 simp at e1 e2
 have key:∀S,S=(aC AP).p 32 [vI bits]→S=some [.aF (d1.map Dt.pv)]∨S=some [.aF (d2.map Dt.pv)]:=by
   intro S hS
   rw [az (af:=g32) rfl rfl (by decide)] at hS
   simp [-getElem?_pos,g32,hp,g32L0e,hx,e1,e2,Ie] at hS
   subst hS
   (repeat' split)<;>simp
 rcases key _ rfl with h | h
 · exact ⟨d1,h,m1,l1⟩
 · exact ⟨d2,h,m2,l2⟩
end Go.Ab.Lw
namespace Go.Ab.Lw
open Ev
inductive Made (lv:Ty→Prop):Ty→Prop
 | leaf {t:Ty}:lv t→Made lv t
 | int:Made lv hZ
 | Gn {d:Dt} {args:List Ty}:d∈cn→args.length=d.params.length→(∀x∈args,Made lv x)→Made lv ⟨4,d.name,0,0,args⟩
 | arrow {a b:Ty}:Made lv a→Made lv b→Made lv ⟨4,[45,62],0,0,[a,b]⟩
def Ty.av (t:Ty):AV:=.agg [.pv (vI t.kind),.pv (.str t.name),.pv (vI t.id),.pv (vI t.home),.pv (.aF (t.args.map Ty.pv))]
@[simp] theorem Ty.Jf (t:Ty):t.av=.agg [.pv (vI t.kind),.pv (.str t.name),.pv (vI t.id),.pv (vI t.home),.pv (.aF (t.args.map Ty.pv))]:=rfl
theorem Hm {r:Int} {n:Nat} (h0:0≤r) (h1:r<n):∃m:Nat,r=m∧m<n:=⟨r.toNat,by omega,by omega⟩
end Go.Ab.Lw
namespace Go.Ab.Lw
open Ev
inductive Ty.Ok:Ty→Prop
 | mk {t:Ty}:Sm t.args→(∀x∈t.args,Ty.Ok x)→Ty.Ok t
theorem Ty.Ok.sm {t:Ty} (h:t.Ok):Sm t.args:=by cases h;assumption
theorem Ty.Ok.uL {t:Ty} (h:t.Ok):∀x∈t.args,x.Ok:=by cases h;assumption
inductive Ty.Wf:Ty→Prop
 | mk {t:Ty}:(t.kind=1→t.args=[])→(∀x∈t.args,Ty.Wf x)→Ty.Wf t
theorem Ty.Wf.var {t:Ty} (h:t.Wf):t.kind=1→t.args=[]:=by cases h;assumption
theorem Ty.Wf.uL {t:Ty} (h:t.Wf):∀x∈t.args,x.Wf:=by cases h;assumption
end Go.Ab.Lw
namespace Go.Ab.Lw
open Ev
def ka (sh:Sh):Prop:=∀cs,some cs∈sh→∀v∈cs,∃p,v=AV.pv p
theorem uM {aB ts:al}:∀{cs:List AV},(∀v∈cs,∃p,v=AV.pv p)→aV aB ts cs=(cs,aB,ts)
 | [],_=>rfl
 | v::r,h=>by
   obtain ⟨p,rfl⟩:=h v (by simp)
   simp only [ot,tQ,uM (cs:=r) (fun v hv=>h v (by simp [hv]))]
theorem ka.norm:∀{sh:Sh},ka sh→∀aB ts,bZ aB ts sh=(sh,aB,ts)
 | [],_,_,_=>rfl
 | none::sh,h,aB,ts=>by
   simp only [ou,ka.norm (sh:=sh) (fun cs hc=>h cs (by simp [hc]))]
 | some cs::sh,h,aB,ts=>by
   simp only [oz,uM (h cs (by simp)),ka.norm (sh:=sh) (fun cs hc=>h cs (by simp [hc]))]
theorem qE {n:Nat}:∀{cs:List AV},(∀v∈cs,∃p,v=AV.pv p)→cs.map (bL n)=cs
 | [],_=>rfl
 | v::r,h=>by
   obtain ⟨p,rfl⟩:=h v (by simp)
   simp only [List.map_cons,qm,qE (cs:=r) (fun v hv=>h v (by simp [hv]))]
theorem ka.shift:∀{sh:Sh},ka sh→∀n,ew n sh=sh
 | [],_,_=>rfl
 | none::sh,h,n=>by
   simp only [mB,ka.shift (sh:=sh) (fun cs hc=>h cs (by simp [hc]))]
 | some cs::sh,h,n=>by
   simp only [mC,qE (h cs (by simp)),ka.shift (sh:=sh) (fun cs hc=>h cs (by simp [hc]))]
def Ty.cl (t:Ty):List AV:=[.pv (vI t.kind),.pv (.str t.name),.pv (vI t.id),.pv (vI t.home),.pv (.aF (t.args.map Ty.pv))]
end Go.Ab.Lw
namespace Go.Ab.Lw
open Ev
noncomputable instance:DecidableEq As:=fun _ _=>Classical.propDecidable _
theorem Jg {as bs:List Ty} (hS:Sm as) (hl:as.length=bs.length) (h:∀x∈as,∀y,(aC AP).p 20 [x.pv,y.pv]=some [.bool (decide (x=y))]):∀(n i:Nat),as.length-i=n→i≤as.length →
   cl AP g57L0 ⟨[(0,.pv (.aF (as.map Ty.pv))),(1,.pv (.aF (bs.map Ty.pv))),(5,.pv (.int .i64 i))],[],[],[]⟩ =
     if as.drop i=bs.drop i then some (.exit 0,⟨[(0,.pv (.aF (as.map Ty.pv))),(1,.pv (.aF (bs.map Ty.pv))),(5,.pv (.int .i64 as.length)),(14,.pv (.bool false))],[],[],[]⟩)
     else some (.ret,⟨[(4,.pv (.bool false))],[],[],[]⟩)
 | 0,i,hn,hi=>by
   have:i=as.length:=by omega
   subst this
   rw [g57L0e]
   simp [g57B0,hl]
 | n+1,i,hn,hi=>by
   have hi:i<as.length:=by omega
   obtain ⟨x,hx⟩:=eg hi
   obtain ⟨y,hy⟩:=eg (hl ▸ hi)
   have hc:=h x (ej hx) y
   simp at hc
   rw [g57L0e,dv hx,dv hy]
   unfold Sm at hS
   have ih:=Jg hS hl h n (i+1) (by omega) (by omega)
   simp at ih
   simp (disch:=omega) [-getElem?_pos,g57B0,hx,hy,hi,hc,aI,ih]
   by_cases e:x=y<;>simp [e]
theorem c57 {as bs:List Ty} (hS:Sm as) (h:∀x∈as,∀y,(aC AP).p 20 [x.pv,y.pv]=some [.bool (decide (x=y))]) :
   (aC AP).p 57 [.aF (as.map Ty.pv),.aF (bs.map Ty.pv)]=some [.bool (decide (as=bs))]:=by
 rw [az (af:=g57) rfl rfl (by decide)]
 by_cases hl:as.length=bs.length
 · have hL:=Jg hS hl h _ 0 rfl (by omega)
   simp at hL
   simp [g57,hl,hL]
   by_cases e:as=bs<;>simp [e]
 · have:¬as=bs:=fun e=>hl (by rw [e])
   simp [g57,hl,this]
   omega
theorem c20 {a b:Ty} (hO:a.Ok):(aC AP).p 20 [a.pv,b.pv]=some [.bool (decide (a=b))]:=by
 revert b hO
 refine Ty.fH (p:=fun a=>∀{b:Ty},a.Ok→(aC AP).p 20 [a.pv,b.pv]=some [.bool (decide (a=b))]) ?_ a
 intro a ih b hO
 have h:=c57 (bs:=b.args) hO.sm (fun x hx y=>ih x hx (hO.uL x hx))
 rw [az (af:=g20) rfl rfl (by decide)]
 simp [g20,h]
 cases a;cases b
 simp
 (repeat' split)<;>simp_all
end Go.Ab.Lw
namespace Go.Ab.Lw
open Ev
def fJ (a b:Int):Int:=if a<b then -1 else if b<a then 1 else 0
def oU (a b:List UInt8):Int:=if bP.de a b=true then -1 else if a=b then 0 else 1
def uU:List Int→Int
 | []=>0
 | x::r=>if x=0 then uU r else x
mutual
def j4:Ty→Ty→Int
 | ⟨k,n,i,h,as⟩,b=>if uU [fJ k b.kind,oU n b.name,fJ i b.id,fJ h b.home,fJ as.length b.args.length]=0 then lp as b.args
     else uU [fJ k b.kind,oU n b.name,fJ i b.id,fJ h b.home,fJ as.length b.args.length]
def lp:List Ty→List Ty→Int
 | [],[]=>0
 | [],_::_=>-1
 | _::_,[]=>1
 | a::r,b::s=>if j4 a b=0 then lp r s else j4 a b
end
def rV (a b:Ty):Int:=uU [fJ a.kind b.kind,oU a.name b.name,fJ a.id b.id,fJ a.home b.home,fJ a.args.length b.args.length]
theorem rW (a b:Ty):j4 a b=if rV a b=0 then lp a.args b.args else rV a b:=by
 cases a;simp only [j4,rV];rfl
theorem c113 {n:Int}:(aC AP).p 113 [vI n]=some [.bool false]:=by
 rw [az (af:=g113) rfl rfl (by decide)]
 simp [g113]
theorem c114 {n:List UInt8}:(aC AP).p 114 [.str n]=some [.bool false]:=by
 rw [az (af:=g114) rfl rfl (by decide)]
 simp [g114]
theorem c81 {a b:Int}:(aC AP).p 81 [vI a,vI b]=some [vI (fJ a b)]:=by
 have h1:=c113 (n:=a)
 have h2:=c113 (n:=b)
 rw [az (af:=g81) rfl rfl (by decide)]
 simp [g81,h1,h2,fJ]
 (repeat' split)<;>rfl
theorem c82 {a b:List UInt8}:(aC AP).p 82 [.str a,.str b]=some [vI (oU a b)]:=by
 have h1:=c114 (n:=a)
 have h2:=c114 (n:=b)
 rw [az (af:=g82) rfl rfl (by decide)]
 by_cases e1:bP.de a b=true
 · simp [g82,h1,h2,oU,e1]
 · have e1:bP.de a b=false:=by simpa using e1
   by_cases e2:a=b
   · subst e2
     simp [g82,h1,h2,oU,e1]
   · simp [g82,h1,h2,oU,e1,e2]
theorem c80 {a b c d e:Int}:(aC AP).p 80 [.aF [vI a,vI b,vI c,vI d,vI e]]=some [vI (uU [a,b,c,d,e])]:=by
 rw [az (af:=g80) rfl rfl (by decide)]
 by_cases h1:a=0
 · by_cases h2:b=0
   · by_cases h3:c=0
     · by_cases h4:d=0
       · by_cases h5:e=0
         · simp (disch:=omega) [-getElem?_pos,g80,g80L0e,g80B0,aI,uU,h1,h2,h3,h4,h5]
         · simp (disch:=omega) [-getElem?_pos,g80,g80L0e,g80B0,aI,uU,h1,h2,h3,h4,h5]
       · simp (disch:=omega) [-getElem?_pos,g80,g80L0e,g80B0,aI,uU,h1,h2,h3,h4]
     · simp (disch:=omega) [-getElem?_pos,g80,g80L0e,g80B0,aI,uU,h1,h2,h3]
   · simp (disch:=omega) [-getElem?_pos,g80,g80L0e,g80B0,aI,uU,h1,h2]
 · simp (disch:=omega) [-getElem?_pos,g80,g80L0e,g80B0,aI,uU,h1]
def Ig (as bs:List Ty) (sh:Sh) (l:Int) (c:Int) (eq:Bool):Option (aG×St):=
 if eq=true then some (.exit 0,⟨[(0,.pv (.aF (as.map Ty.pv))),(1,.pv (.aF (bs.map Ty.pv))),(2,.fn 35 []),(11,.pv (.aF (as.map Ty.pv))),(12,.pv (vI l)),(13,.pv (vI l)),(14,.pv (.bool false))],[],sh,[]⟩)
 else some (.ret,⟨[(6,.pv (vI c))],[],sh,[]⟩)
theorem Jh {as bs:List Ty} (hS:Sm as) (hl:as.length=bs.length) (h:∀x∈as,∀y,(aC AP).i 35 [.pv x.pv,.pv y.pv] [] []=some ([.pv (vI (j4 x y))],[],[])):∀(n i:Nat),as.length-i=n→i≤as.length →
   cl AP g83L0 ⟨[(0,.pv (.aF (as.map Ty.pv))),(1,.pv (.aF (bs.map Ty.pv))),(2,.fn 35 []),(11,.pv (.aF (as.map Ty.pv))),(12,.pv (vI as.length)),(13,.pv (vI i))],[],[],[]⟩ =
     Ig as bs [] as.length (lp (as.drop i) (bs.drop i)) (decide (lp (as.drop i) (bs.drop i)=0))
 | 0,i,hn,hi=>by
   have:i=as.length:=by omega
   subst this
   rw [g83L0e,Ia (l:=bs) (by omega)]
   simp [g83B0,Ig,lp]
 | n+1,i,hn,hi=>by
   have hi:i<as.length:=by omega
   obtain ⟨x,hx⟩:=eg hi
   obtain ⟨y,hy⟩:=eg (hl ▸ hi)
   have hc:=h x (ej hx) y
   have ih:=Jh hS hl h n (i+1) (by omega) (by omega)
   unfold Sm at hS
   have hb:¬bs.length≤i:=by omega
   rw [g83L0e] at ih ⊢
   rw [dv hx,dv hy]
   simp at ih hc
   by_cases e:j4 x y=0
   · rw [e] at hc
     simp (disch:=omega) [-getElem?_pos,g83B0,hx,hy,hi,hb,hc,aI]
     rw [g83L0e]
     simp [ih,lp,e]
   · simp (disch:=omega) [-getElem?_pos,g83B0,hx,hy,hi,hb,hc,aI,e,Ig,lp]
theorem Eh {a b:Ty} (h:rV a b=0):a.args.length=b.args.length:=by
 simp only [rV,uU] at h
 have:fJ a.args.length b.args.length=0:=by
   split at h
   · split at h
     · split at h
       · split at h
         · split at h
           · assumption
           · contradiction
         · contradiction
       · contradiction
     · contradiction
   · contradiction
 unfold fJ at this
 split at this
 · cases this
 · split at this
   · cases this
   · omega
theorem c35_both {a:Ty} (hO:a.Ok):∀b:Ty,(aC AP).p 35 [a.pv,b.pv]=some [vI (j4 a b)]∧(aC AP).i 35 [.pv a.pv,.pv b.pv] [] []=some ([.pv (vI (j4 a b))],[],[]):=by
 revert hO
 refine Ty.fH (p:=fun a=>a.Ok→∀b:Ty,(aC AP).p 35 [a.pv,b.pv]=some [vI (j4 a b)]∧(aC AP).i 35 [.pv a.pv,.pv b.pv] [] []=some ([.pv (vI (j4 a b))],[],[])) ?_ a
 intro a ih hO b
 have k1:=c81 (a:=a.kind) (b:=b.kind)
 have k2:=c82 (a:=a.name) (b:=b.name)
 have k3:=c81 (a:=a.id) (b:=b.id)
 have k4:=c81 (a:=a.home) (b:=b.home)
 have k5:=c81 (a:=a.args.length) (b:=b.args.length)
 have k6:=c80 (a:=fJ a.kind b.kind) (b:=oU a.name b.name) (c:=fJ a.id b.id) (d:=fJ a.home b.home) (e:=fJ a.args.length b.args.length)
 have eH:uU [fJ a.kind b.kind,oU a.name b.name,fJ a.id b.id,fJ a.home b.home,fJ a.args.length b.args.length]=rV a b:=rfl
 rw [eH] at k6
 have hS:=hO.sm
 by_cases e:rV a b=0
 · have hl:=Eh e
   have h:=Jh hS hl (fun x hx y=>(ih x hx (hO.uL x hx) y).2) _ 0 rfl (by omega)
   rw [g83L0e] at h
   simp at h
   have c83:(aC AP).i 83 [.pv (.aF (a.args.map Ty.pv)),.pv (.aF (b.args.map Ty.pv)),.fn 35 []] [] []=some ([.pv (vI (lp a.args b.args))],[],[]):=by
     rw [aT (af:=g83) rfl (by simp [g83])]
     by_cases e2:lp a.args b.args=0
     · simp [Ig,e2] at h
       have hlt:¬a.args.length<b.args.length:=by omega
       simp [g83,g83L0e,h,hlt,e2]
     · simp [Ig,e2] at h
       simp [g83,g83L0e,h]
   rw [e] at k6
   rw [rW,if_pos e]
   constructor
   · rw [az (af:=g35) rfl rfl (by decide)]
     simp [g35,k1,k2,k3,k4,k5,k6,c83]
   · rw [aT (af:=g35) rfl (by simp [g35])]
     simp [g35,k1,k2,k3,k4,k5,k6,c83]
 · rw [rW,if_neg e]
   constructor
   · rw [az (af:=g35) rfl rfl (by decide)]
     simp [g35,k1,k2,k3,k4,k5,k6,e]
   · rw [aT (af:=g35) rfl (by simp [g35])]
     simp [g35,k1,k2,k3,k4,k5,k6,e]
theorem c35 {a b:Ty} (hO:a.Ok):(aC AP).p 35 [a.pv,b.pv]=some [vI (j4 a b)]:=(c35_both hO b).1
theorem c33 {a b:Ty} (hO:a.Ok):(aC AP).p 33 [a.pv,b.pv]=some [.bool (j4 a b == 0)]:=by
 have h:=c35 (b:=b) hO
 simp at h
 rw [az (af:=g33) rfl rfl (by decide)]
 simp [g33,h]
end Go.Ab.Lw
namespace Go.Ab.Lw
open Ev
theorem iY:∀d∈cn,d.params.length≤8:=by decide +kernel
end Go.Ab.Lw
namespace Go.Ab.Lw
open Ev
theorem mK:∀s:List UInt8,bP.de s s=false
 | []=>rfl
 | a::r=>by simp [bP.de,mK r]
theorem B1 {a b:Int}:fJ a b=0↔a=b:=by
 unfold fJ
 split
 · constructor
   · intro h;cases h
   · intro h;omega
 · split
   · constructor
     · intro h;cases h
     · intro h;omega
   · constructor
     · intro _;omega
     · intro _;rfl
theorem B2 {a b:List UInt8}:oU a b=0↔a=b:=by
 unfold oU
 split
 · rename_i h
   constructor
   · intro e;cases e
   · intro e;subst e;rw [mK] at h;cases h
 · split
   · rename_i h;simp [h]
   · rename_i h;simp [h]
theorem uN:∀{l:List Int},uU l=0↔∀x∈l,x=0
 | []=>by simp [uU]
 | x::r=>by
   simp only [uU]
   split
   · rename_i h;rw [uN];simp [h]
   · rename_i h;constructor
     · intro e;exact absurd e h
     · intro e;exact e x (by simp)
theorem qF {a b:Ty}:rV a b=0↔a.kind=b.kind∧a.name=b.name∧a.id=b.id∧a.home=b.home∧a.args.length=b.args.length:=by
 unfold rV
 rw [uN]
 simp [B1,B2]
 intros;omega
theorem qG (a:Ty):∀b,j4 a b=0↔a=b:=by
 refine Ty.fH (p:=fun a=>∀b,j4 a b=0↔a=b) ?_ a
 intro a ih b
 have key:∀(as bs:List Ty),(∀x∈as,∀b,j4 x b=0↔x=b)→(lp as bs=0↔as=bs):=by
   intro as
   induction as with
   | nil=>intro bs _;cases bs<;>simp [lp]
   | cons x r ih=>
     intro bs h
     cases bs with
     | nil=>simp [lp]
     | cons y s=>
       simp only [lp]
       have hx:=h x (by simp) y
       have hr:=ih s (fun z hz=>h z (by simp [hz]))
       split
       · rename_i e;rw [hr];simp [hx.1 e]
       · rename_i e;constructor
         · intro e';exact absurd e' e
         · intro e';simp at e';exact absurd (hx.2 e'.1) e
 rw [rW]
 split
 · rename_i h
   rw [key _ _ ih]
   rw [qF] at h
   cases a;cases b;simp at h ⊢;simp [h]
 · rename_i h
   constructor
   · intro e;exact absurd e h
   · intro e;subst e;exact absurd (qF.2 ⟨rfl,rfl,rfl,rfl,rfl⟩) h
theorem Ei (a b:Ty):(j4 a b == 0)=decide (a=b):=by
 by_cases h:a=b
 · rw [decide_eq_true h,(qG a b).2 h];rfl
 · rw [decide_eq_false h];simpa using fun e=>h ((qG a b).1 e)
theorem c33e {a b:Ty} (hO:a.Ok):(aC AP).p 33 [a.pv,b.pv]=some [.bool (decide (a=b))]:=by rw [c33 hO,Ei]
def e7 {α:Type} (p:α→Bool):List α→Option Nat
 | []=>none
 | a::r=>if p a=true then some 0 else (e7 p r).map (·+1)
theorem iz {α:Type} {p:α→Bool}:∀{l:List α},e7 p l=none↔∀x∈l,p x=false
 | []=>by simp [e7]
 | a::r=>by
   simp only [e7]
   by_cases h:p a=true
   · simp [h]
   · have h:p a=false:=by simpa using h
     simp [h,iz]
end Go.Ab.Lw
namespace Go.Ab.Lw
open Ev
structure El {α:Type} (f:α→PV) (sz:Nat) (ag:Bool):Prop where
 len:∀x,(aH (f x)).length=sz
 of:∀x,bQ ag sz (aH (f x))=some (.pv (f x))
theorem El.head {α:Type} {f:α→PV} {sz:Nat} {ag:Bool} (h:El f sz ag) (l:List α):aQ sz (l.map f)=true:=by
 cases l with
 | nil=>rfl
 | cons x r=>simp [aQ,h.len x]
theorem yg:El vI 1 false:=⟨fun _=>rfl,fun _=>rfl⟩
theorem Ih:El Ty.pv 5 true:=⟨fun x=>by simp,fun x=>by simp⟩
def uO (o:Option Nat):Int:=match o with | some k=>k | none=>-1
theorem uP {α:Type} {p:α→Bool} {s:List α}:decide (0≤uO (e7 p s))=s.any p:=by
 cases hi:e7 p s with
 | none=>
   have:s.any p=false:=by rw [List.any_eq_false];intro x hx;rw [iz.1 hi x hx];simp
   rw [this];rfl
 | some k=>
   have:s.any p=true:=by
     cases e:s.any p with
     | true=>rfl
     | false=>rw [List.any_eq_false] at e;have:=iz.2 (fun x hx=>by simpa using e x hx);rw [hi] at this;cases this
   rw [this];simp [uO]
end Go.Ab.Lw
namespace Go.Ab.Lw
open Ev
def Ej (f:St→Option (aG×St)) (live:List Nat) (pi px sz:Nat) (ag:Bool) (env:List (Nat×AV)) (r:List (PV×Nat)):Option (aG×St)→Option (aG×St)
 | some (.normal,st')=>gv f live pi px sz ag env r st'
 | some (e,st')=>some (e,{ st' with env:=env })
 | none=>none
@[simp] theorem EB {f:St→Option (aG×St)} {live:List Nat} {pi px sz:Nat} {ag:Bool} {env:List (Nat×AV)} {r:List (PV×Nat)} {st:St}:Ej f live pi px sz ag env r (some (.normal,st))=gv f live pi px sz ag env r st:=rfl
@[simp] theorem Hn {f:St→Option (aG×St)} {live:List Nat} {pi px sz:Nat} {ag:Bool} {env e:List (Nat×AV)} {r:List (PV×Nat)} {mem:List (Nat×List AV)} {sh:Sh} {aa:al}:Ej f live pi px sz ag env r (some (.ret,⟨e,mem,sh,aa⟩))=some (.ret,⟨env,mem,sh,aa⟩):=rfl
@[simp] theorem Hy {f:St→Option (aG×St)} {live:List Nat} {pi px sz:Nat} {ag:Bool} {env e:List (Nat×AV)} {mem:List (Nat×List AV)} {sh:Sh} {aa:al}:gv f live pi px sz ag env [] ⟨e,mem,sh,aa⟩=some (.normal,⟨env,mem,sh,aa⟩):=rfl
def I4 (g:St→Option (aG×St)):Option (aG×St)→Option (aG×St)
 | some (.normal,st')=>g st'
 | _=>none
@[simp] theorem Gp {g:St→Option (aG×St)} {st:St}:I4 g (some (.normal,st))=g st:=rfl
end Go.Ab.Lw
namespace Go.Ab.Lw
open Ev
abbrev vC (c:Int):PV:=.int .u8 c
def uQ (c:Int):Bool:=decide (97≤c) && decide (c≤122)
def B3 (c:Int):Bool:=decide (65≤c) && decide (c≤90)
def yP (c:Int):Bool:=decide (48≤c) && decide (c≤57)
def mL (c:Int):Bool:=uQ c || B3 c || yP c || (c == 95)
def iZ (s:List UInt8):Bool:=s.all fun b=>mL b.toNat
def EC:List (List UInt8):=[[100,97,116,97],[108,101,116],[114,101,99],[105,110],[99,97,115,101],[111,102],[101,110,100]]
def ky (s:List UInt8):Bool:=EC.contains s
def fX (s:List UInt8) (lo hi:Int):Bool:=match s with
 | []=>false
 | b::r=>decide (lo≤b.toNat) && decide ((b.toNat:Int)≤hi) && decide ((b::r).length≤12) && iZ (b::r) && !ky (b::r)
theorem c109 {c:Int}:(aC AP).p 109 [vC c]=some [.bool (uQ c)]:=by
 rw [az (af:=g109) rfl rfl (by decide)]
 by_cases h:97≤c<;>simp [g109,uQ,h]
theorem c111 {c:Int}:(aC AP).p 111 [vC c]=some [.bool (B3 c)]:=by
 rw [az (af:=g111) rfl rfl (by decide)]
 by_cases h:65≤c<;>simp [g111,B3,h]
theorem c124 {c:Int}:(aC AP).p 124 [vC c]=some [.bool (yP c)]:=by
 rw [az (af:=g124) rfl rfl (by decide)]
 by_cases h:48≤c<;>simp [g124,yP,h]
theorem c117 {c:Int}:(aC AP).p 117 [vC c]=some [.bool (mL c)]:=by
 have h1:=c109 (c:=c)
 have h2:=c111 (c:=c)
 have h3:=c124 (c:=c)
 rw [az (af:=g117) rfl rfl (by decide)]
 cases e1:uQ c
 · cases e2:B3 c
   · cases e3:yP c
     · simp [e1,e2,e3] at h1 h2 h3
       simp [g117,h1,h2,h3,mL,e1,e2,e3]
     · simp [e1,e2,e3] at h1 h2 h3
       simp [g117,h1,h2,h3,mL,e1,e2,e3]
   · simp [e1,e2] at h1 h2
     simp [g117,h1,h2,mL,e1,e2]
 · simp [e1] at h1
   simp [g117,h1,mL,e1]
theorem uR {b:UInt8} {r:List UInt8}:iZ (b::r)=(mL b.toNat && iZ r):=rfl
theorem kz:iZ []=true:=rfl
theorem Ii {s:List UInt8} (hS:Gl s):∀(n i:Nat),s.length-i=n→i≤s.length →
   cl AP g108L0 ⟨[(0,.pv (.str s)),(3,.pv (vI i))],[],[],[]⟩ =
     if iZ (s.drop i)=true then some (.exit 0,⟨[(0,.pv (.str s)),(3,.pv (vI s.length)),(7,.pv (.bool false))],[],[],[]⟩)
     else some (.ret,⟨[(2,.pv (.bool false))],[],[],[]⟩)
 | 0,i,hn,hi=>by
   have:i=s.length:=by omega
   subst this
   rw [g108L0e]
   simp [g108B0,kz]
 | n+1,i,hn,hi=>by
   have hi:i<s.length:=by omega
   obtain ⟨x,hx⟩:=eg hi
   unfold Gl at hS
   have ih:=Ii hS n (i+1) (by omega) (by omega)
   simp at ih
   have hc:=c117 (c:=x.toNat)
   rw [g108L0e,dv hx,uR]
   cases e:mL x.toNat
   · rw [e] at hc
     simp (disch:=omega) [-getElem?_pos,g108B0,hx,hi,hc,e]
   · rw [e] at hc
     simp (disch:=omega) [-getElem?_pos,g108B0,hx,hi,hc,e,aI,ih]
theorem c108 {s:List UInt8} (hS:Gl s):(aC AP).p 108 [.str s]=some [.bool (iZ s && !(s == []))]:=by
 have h:=Ii hS _ 0 rfl (by omega)
 simp at h
 rw [az (af:=g108) rfl rfl (by decide)]
 cases e:iZ s<;>simp [e] at h<;>simp [g108,h]
theorem c110 {s:List UInt8}:(aC AP).p 110 [.str s]=some [.bool (ky s)]:=by
 rw [az (af:=g110) rfl rfl (by decide)]
 by_cases h1:s=[100,97,116,97]
 · subst h1;simp (disch:=omega) [-getElem?_pos,g110,g110L0e,g110B0,aI,ky,EC]
 · by_cases h2:s=[108,101,116]
   · subst h2;simp (disch:=omega) [-getElem?_pos,g110,g110L0e,g110B0,aI,ky,EC]
   · by_cases h3:s=[114,101,99]
     · subst h3;simp (disch:=omega) [-getElem?_pos,g110,g110L0e,g110B0,aI,ky,EC]
     · by_cases h4:s=[105,110]
       · subst h4;simp (disch:=omega) [-getElem?_pos,g110,g110L0e,g110B0,aI,ky,EC]
       · by_cases h5:s=[99,97,115,101]
         · subst h5;simp (disch:=omega) [-getElem?_pos,g110,g110L0e,g110B0,aI,ky,EC]
         · by_cases h6:s=[111,102]
           · subst h6;simp (disch:=omega) [-getElem?_pos,g110,g110L0e,g110B0,aI,ky,EC]
           · by_cases h7:s=[101,110,100]
             · subst h7;simp (disch:=omega) [-getElem?_pos,g110,g110L0e,g110B0,aI,ky,EC]
             · have f1:=Ne.symm h1
               have f2:=Ne.symm h2
               have f3:=Ne.symm h3
               have f4:=Ne.symm h4
               have f5:=Ne.symm h5
               have f6:=Ne.symm h6
               have f7:=Ne.symm h7
               simp (disch:=omega) [-getElem?_pos,g110,g110L0e,g110B0,aI,ky,EC,h1,h2,h3,h4,h5,h6,h7,f1,f2,f3,f4,f5,f6,f7]
theorem c77 {s:List UInt8} (hS:Gl s):(aC AP).p 77 [.str s]=some [.bool (fX s 97 122)]:=by
 have h1:=c108 hS
 have h3:=c110 (s:=s)
 rw [az (af:=g77) rfl rfl (by decide)]
 cases s with
 | nil=>simp [kz] at h1;simp [g77,h1,fX]
 | cons b r=>
   have h2:=c109 (c:=b.toNat)
   cases e1:iZ (b::r)
   · simp [e1] at h1;simp [g77,h1,fX,e1]
   · simp [e1] at h1
     cases e2:uQ b.toNat
     · rw [e2] at h2
       have:(decide ((97:Int)≤b.toNat) && decide ((b.toNat:Int)≤122))=false:=e2
       simp [g77,h1,h2,fX,this]
     · rw [e2] at h2
       have:(decide ((97:Int)≤b.toNat) && decide ((b.toNat:Int)≤122))=true:=e2
       by_cases e3:(b::r).length≤12
       · have e3':(r.length:Int)+1≤12:=by simp at e3;omega
         have e3'':r.length+1≤12:=by simpa using e3
         cases e4:ky (b::r)<;>simp [e4] at h3<;>simp [g77,h1,h2,h3,e3',e3'',e4,fX,this,e1]
       · have e3':¬((r.length:Int)+1≤12):=by simp at e3;omega
         have e3'':¬(r.length+1≤12):=by simpa using e3
         simp [g77,h1,h2,e3',e3'',fX,this,e1]
theorem Ho {b:UInt8} {r:List UInt8} (h:ky (b::r)=true):B3 b.toNat=false:=by
 simp only [ky,EC,List.contains_iff_mem,List.mem_cons,List.not_mem_nil,or_false,List.cons.injEq] at h
 rcases h with ⟨rfl,_⟩ | ⟨rfl,_⟩ | ⟨rfl,_⟩ | ⟨rfl,_⟩ | ⟨rfl,_⟩ | ⟨rfl,_⟩ | ⟨rfl,_⟩<;>rfl
theorem c78 {s:List UInt8} (hS:Gl s):(aC AP).p 78 [.str s]=some [.bool (fX s 65 90)]:=by
 have h1:=c108 hS
 rw [az (af:=g78) rfl rfl (by decide)]
 cases s with
 | nil=>simp [kz] at h1;simp [g78,h1,fX]
 | cons b r=>
   have h2:=c111 (c:=b.toNat)
   cases e1:iZ (b::r)
   · simp [e1] at h1;simp [g78,h1,fX,e1]
   · simp [e1] at h1
     cases e2:B3 b.toNat
     · rw [e2] at h2
       have:(decide ((65:Int)≤b.toNat) && decide ((b.toNat:Int)≤90))=false:=e2
       simp [g78,h1,h2,fX,this]
     · rw [e2] at h2
       have:(decide ((65:Int)≤b.toNat) && decide ((b.toNat:Int)≤90))=true:=e2
       have e4:ky (b::r)=false:=by
         cases e:ky (b::r)
         · rfl
         · rw [Ho e] at e2;cases e2
       by_cases e3:(b::r).length≤12
       · have e3':(r.length:Int)+1≤12:=by simp at e3;omega
         have e3'':r.length+1≤12:=by simpa using e3
         simp [g78,h1,h2,e3',e3'',e4,fX,this,e1]
       · have e3':¬((r.length:Int)+1≤12):=by simp at e3;omega
         have e3'':¬(r.length+1≤12):=by simpa using e3
         simp [g78,h1,h2,e3',e3'',fX,this,e1]
end Go.Ab.Lw
namespace Go.Ab.Lw
open Ev
def uS (s:List UInt8) (n:Nat):Bool:=if s=[45,62] then decide (n=2) else if s=[73,110,116] then decide (n=0) else fX s 65 90 && decide (n≤4)
mutual
def cp:Ty→Bool
 | ⟨k,n,i,h,as⟩=>
   if k=1∨k=2 then decide (n=[]) && decide (as=[]) && decide (0≤i) && decide (i≤1000000) && (h == 0)
   else if k=3 then decide (n=[]) && decide (as=[]) && decide (0≤i) && decide (i≤1000000) && decide (-1≤h) && decide (h≤1000000)
   else if k=5 then decide (as=[]) && (i == 0) && (h == 0) && fX n 97 122
   else if k=4 then (i == 0) && (h == 0) && uS n as.length && oV as
   else false
def oV:List Ty→Bool
 | []=>true
 | a::r=>cp a && oV r
end
theorem oW:∀l:List Ty,oV l=l.all cp
 | []=>by simp [oV]
 | a::r=>by simp [oV,oW r]
theorem eM (t:Ty):cp t =
   if t.kind=1∨t.kind=2 then decide (t.name=[]) && decide (t.args=[]) && decide (0≤t.id) && decide (t.id≤1000000) && (t.home == 0)
   else if t.kind=3 then decide (t.name=[]) && decide (t.args=[]) && decide (0≤t.id) && decide (t.id≤1000000) && decide (-1≤t.home) && decide (t.home≤1000000)
   else if t.kind=5 then decide (t.args=[]) && (t.id == 0) && (t.home == 0) && fX t.name 97 122
   else if t.kind=4 then (t.id == 0) && (t.home == 0) && uS t.name t.args.length && t.args.all cp
   else false:=by
 cases t;simp only [cp,oW]
def B4 (F:AV) (s:List Ty) (sh:Sh) (i:Nat):Option Nat→Option (aG×St)
 | some k=>some (.ret,⟨[(4,.pv (vI (i+k:Nat)))],[],sh,[]⟩)
 | none=>some (.exit 0,⟨[(0,.pv (.aF (s.map Ty.pv))),(1,F),(7,.pv (vI s.length)),(8,.pv (vI s.length)),(9,.pv (.bool false))],[],sh,[]⟩)
theorem Ij {s:List Ty} (hS:Sm s) {sh:Sh} (hq:ka sh) {g:Nat} {cap:List AV} {p:Ty→Bool} (hcap:bl.ee cap=true) (hpass:bm.gu cap=true) (harg:dc [] 1 cap=cap) (hnrm:∀aB ts,aV aB ts cap=(cap,aB,ts)) (hpo:cap.all a9=true)
   (hf:∀x∈s,(aC AP).i g (.pv x.pv::cap) sh []=some ([.pv (.bool (p x))],sh,[])):∀(n i:Nat),s.length-i=n→i≤s.length →
   cl AP g107L0 ⟨[(0,.pv (.aF (s.map Ty.pv))),(1,.fn g cap),(7,.pv (vI s.length)),(8,.pv (vI i))],[],sh,[]⟩=B4 (.fn g cap) s sh i (e7 p (s.drop i))
 | 0,i,hn,hi=>by
   have:i=s.length:=by omega
   subst this
   rw [g107L0e]
   simp [g107B0,e7,B4,hq.norm,hcap]
 | n+1,i,hn,hi=>by
   have hi:i<s.length:=by omega
   obtain ⟨x,hx⟩:=eg hi
   unfold Sm at hS
   have ih:=Ij hS hq hcap hpass harg hnrm hpo hf n (i+1) (by omega) (by omega)
   simp at ih
   have hc:=hf x (ej hx)
   simp at hc
   rw [g107L0e,dv hx]
   cases e:p x with
   | true=>
     rw [e] at hc
     simp (disch:=omega) [-getElem?_pos,g107B0,hx,hi,e,e7,B4,hq.norm,hq.shift,hc,hcap,hpass,harg,hnrm,hpo]
   | false=>
     rw [e] at hc
     simp (disch:=omega) [-getElem?_pos,g107B0,hx,hi,e,e7,aI,hq.norm,hq.shift,hc,ih,hcap,hpass,harg,hnrm,hpo]
     cases e7 p (s.drop (i+1)) with
     | none=>rfl
     | some k=>simp [B4];omega
theorem c75 {s:List Ty} (hS:Sm s) {sh:Sh} (hq:ka sh) {g:Nat} {cap:List AV} {p:Ty→Bool} (hcap:bl.ee cap=true) (hpass:bm.gu cap=true) (harg:dc [] 1 cap=cap) (hnrm:∀aB ts,aV aB ts cap=(cap,aB,ts)) (hpo:cap.all a9=true)
   (hf:∀x∈s,(aC AP).i g (.pv x.pv::cap) sh []=some ([.pv (.bool (p x))],sh,[])):(aC AP).i 75 [.pv (.aF (s.map Ty.pv)),.fn g cap] sh []=some ([.pv (.bool (s.any p))],sh,[]):=by
 have h:=Ij hS hq hcap hpass harg hnrm hpo hf _ 0 rfl (by omega)
 simp at h
 have c107:(aC AP).i 107 [.pv (.aF (s.map Ty.pv)),.fn g cap] sh []=some ([.pv (vI (match e7 p s with | some k=>k | none=>-1))],sh,[]):=by
   rw [aT (af:=g107) rfl (by simp [g107])]
   cases hi:e7 p s with
   | none=>rw [hi] at h;simp [B4] at h;simp [g107,h,hq.norm,hcap]
   | some k=>rw [hi] at h;simp [B4] at h;simp [g107,h,hq.norm,hcap]
 rw [aT (af:=g75) rfl (by simp [g75])]
 cases hi:e7 p s with
 | none=>
   rw [hi] at c107
   have:s.any p=false:=by rw [List.any_eq_false];intro x hx;rw [iz.1 hi x hx];simp
   simp [g75,c107,hq.norm,hq.shift,hcap,hpass,hnrm,this]
 | some k=>
   rw [hi] at c107
   have:s.any p=true:=by
     cases e:s.any p with
     | true=>rfl
     | false=>rw [List.any_eq_false] at e;have:=iz.2 (fun x hx=>by simpa using e x hx);rw [hi] at this;cases this
   simp [g75,c107,hq.norm,hq.shift,hcap,hpass,hnrm,this]
inductive Ty.Nm:Ty→Prop
 | mk {t:Ty}:Gl t.name→(∀x∈t.args,Ty.Nm x)→Ty.Nm t
theorem Ty.Nm.sm {t:Ty} (h:t.Nm):Gl t.name:=by cases h;assumption
theorem Ty.Nm.uL {t:Ty} (h:t.Nm):∀x∈t.args,x.Nm:=by cases h;assumption
end Go.Ab.Lw
namespace Go.Ab.Lw
open Ev
abbrev Sc:=As
structure En where
 name:List UInt8
 sc:Sc
 deriving Inhabited
def En.pv (a:En):PV:=.agg [.str a.name,.int .i64 a.sc.id,.int .i64 a.sc.ty.kind,.str a.sc.ty.name,.int .i64 a.sc.ty.id,.int .i64 a.sc.ty.home,.aF (a.sc.ty.args.map Ty.pv)]
@[simp] theorem En.oT (a:En):a.pv=.agg [.str a.name,.int .i64 a.sc.id,.int .i64 a.sc.ty.kind,.str a.sc.ty.name,.int .i64 a.sc.ty.id,.int .i64 a.sc.ty.home,.aF (a.sc.ty.args.map Ty.pv)]:=rfl
@[simp] theorem En.eta (t:En):En.mk t.name t.sc=t:=rfl
noncomputable instance:DecidableEq En:=fun _ _=>Classical.propDecidable _
end Go.Ab.Lw
namespace Go.Ab.Lw
open Ev
def Hp {α β:Type} (p:α→β→Bool):List α→List β→Bool
 | [],[]=>true
 | x::r,y::t=>p x y && Hp p r t
 | _,_=>false
end Go.Ab.Lw
namespace Go.Ab.Lw
open Ev
theorem Ji {t:Ty} (hS:Sm t.args) (h:∀x∈t.args,(aC AP).p 30 [x.pv]=some [.bool (cp x)]):∀(n i:Nat),t.args.length-i=n→i≤t.args.length →
   cl AP g30L0 ⟨[(1,.bg 1 0),(3,.pv (vI i))],[(1,t.cl)],[],[]⟩ =
     if (t.args.drop i).all cp=true then some (.exit 1,⟨[(1,.bg 1 0),(3,.pv (vI t.args.length)),(99,.pv (.bool false))],[(1,t.cl)],[],[]⟩)
     else some (.ret,⟨[(2,.pv (.bool false))],[],[],[]⟩)
 | 0,i,hn,hi=>by
   have:i=t.args.length:=by omega
   subst this
   rw [g30L0e]
   simp [g30B0,Ty.cl]
 | n+1,i,hn,hi=>by
   have hi:i<t.args.length:=by omega
   obtain ⟨x,hx⟩:=eg hi
   unfold Sm at hS
   have ih:=Ji hS h n (i+1) (by omega) (by omega)
   have hc:=h x (ej hx)
   simp [Ty.cl] at ih hc
   rw [g30L0e,dv hx]
   cases e:cp x
   · rw [e] at hc
     simp (disch:=omega) [-getElem?_pos,g30B0,Ty.cl,hx,hi,hc,e]
   · rw [e] at hc
     simp (disch:=omega) [-getElem?_pos,g30B0,Ty.cl,hx,hi,hc,e,aI,ih]
theorem c30 {t:Ty} (hO:t.Ok) (hN:t.Nm):(aC AP).p 30 [t.pv]=some [.bool (cp t)]:=by
 revert hO hN
 refine Ty.fH (p:=fun t=>t.Ok→t.Nm→(aC AP).p 30 [t.pv]=some [.bool (cp t)]) ?_ t
 intro t ih hO hN
 have hl:=c77 hN.sm
 have hu:=c78 hN.sm
 rw [az (af:=g30) rfl rfl (by decide),eM]
 have h0:((t.args.length:Int) == 0)=decide (t.args=[]):=by rw [Bool.eq_iff_iff];simp
 have h2:((t.args.length:Int) == 2)=decide (t.args.length=2):=by rw [Bool.eq_iff_iff];simp;omega
 have h4:decide ((t.args.length:Int)≤4)=decide (t.args.length≤4):=by rw [Bool.eq_iff_iff];simp;omega
 by_cases k1:t.kind=1
 · simp [g30,k1,h0]
   (repeat' split)<;>simp_all<;>omega
 · by_cases k2:t.kind=2
   · simp [g30,k2,h0]
     (repeat' split)<;>simp_all<;>omega
   · by_cases k3:t.kind=3
     · simp [g30,k3,h0]
       (repeat' split)<;>simp_all<;>omega
     · by_cases k5:t.kind=5
       · simp [g30,k5,h0,hl]
         (repeat' split)<;>simp_all<;>omega
       · by_cases k4:t.kind=4
         · by_cases ei:t.id=0
           · by_cases eh:t.home=0
             · have hL:=Ji hO.sm (fun x hx=>ih x hx (hO.uL x hx) (hN.uL x hx)) _ 0 rfl (by omega)
               rw [g30L0e] at hL
               simp [Ty.cl] at hL
               cases ea:t.args.all cp
               · have:¬∀x∈t.args,cp x=true:=by rw [←List.all_eq_true,ea];simp
                 simp [this,k4,ei,eh] at hL
                 simp [g30,k4,ei,eh,g30L0e,hL]
               · have:∀x∈t.args,cp x=true:=by rw [←List.all_eq_true,ea]
                 have hL:=hL
                 rw [if_pos this] at hL
                 simp [k4,ei,eh] at hL
                 by_cases n1:t.name=[45,62]
                 · simp [n1] at hL
                   simp [g30,k4,ei,eh,g30L0e,hL,n1,uS,h2]
                 · have b1:(t.name == [45,62])=false:=by simpa using n1
                   by_cases n2:t.name=[73,110,116]
                   · simp [n2] at hL
                     simp [g30,k4,ei,eh,g30L0e,hL,n2,uS,h0]
                   · have b2:(t.name == [73,110,116])=false:=by simpa using n2
                     cases eu:fX t.name 65 90
                     · rw [eu] at hu
                       simp [g30,k4,ei,eh,g30L0e,hL,n1,n2,b1,b2,uS,hu,eu]
                     · rw [eu] at hu
                       simp [g30,k4,ei,eh,g30L0e,hL,n1,n2,b1,b2,uS,hu,eu,h4]
             · simp [g30,k4,ei,eh]
           · simp [g30,k4,ei]
         · simp [g30,k1,k2,k3,k4,k5]
theorem c31 {t:Ty} (hO:t.Ok) (hN:t.Nm):(aC AP).p 31 [t.pv]=some [(if cp t=true then t else hZ).pv]:=by
 have h:=c30 hO hN
 have h2:=c34
 simp at h h2
 rw [az (af:=g31) rfl rfl (by decide)]
 cases e:cp t
 · rw [e] at h;simp [g31,h,h2,e,hZ]
 · rw [e] at h;simp [g31,h,e]
mutual
def j5:Ty→Int→Int
 | ⟨_,_,_,_,as⟩,l=>max (oX as (l-1)) 0
def oX:List Ty→Int→Int
 | [],l=>l
 | a::r,l=>if 0<l then oX r (j5 a l) else l
end
theorem rX (t:Ty) (l:Int):j5 t l=max (oX t.args (l-1)) 0:=by cases t;simp only [j5]
theorem rY (t:Ty):∀l:Int,0<l→0≤j5 t l∧j5 t l≤l-1:=by
 refine Ty.fH (p:=fun t=>∀l:Int,0<l→0≤j5 t l∧j5 t l≤l-1) ?_ t
 intro t ih l hl
 have key:∀(as:List Ty),(∀x∈as,∀l:Int,0<l→0≤j5 x l∧j5 x l≤l-1)→∀l:Int,0≤l→0≤oX as l∧oX as l≤l:=by
   intro as
   induction as with
   | nil=>intro _ l h;simp [oX,h]
   | cons a r ih=>
     intro h l h0
     simp only [oX]
     split
     · rename_i hp
       have:=h a (by simp) l hp
       have:=ih (fun x hx=>h x (by simp [hx])) (j5 a l) this.1
       omega
     · omega
 rw [rX]
 have:=key t.args ih (l-1) (by omega)
 omega
theorem yh:∀(as:List Ty) (l:Int),0≤l→0≤oX as l∧oX as l≤l
 | [],l,h=>by simp [oX,h]
 | a::r,l,h=>by
   simp only [oX]
   split
   · rename_i hp
     have h1:=rY a l hp
     have:=yh r (j5 a l) h1.1
     omega
   · omega
theorem yQ:∀(as:List Ty) (l:Int),0≤l→0<oX as l→(as.length:Int)<l∧∀x∈as,∃l':Int,0<l'∧l'≤l∧0<j5 x l'
 | [],l,h,hp=>by simp [oX] at hp ⊢;exact hp
 | a::r,l,h,hp=>by
   simp only [oX] at hp
   split at hp
   · rename_i h0
     have h1:=rY a l h0
     have h2:=yQ r (j5 a l) h1.1 hp
     have h3:0<j5 a l:=by
       have:=yh r (j5 a l) h1.1
       omega
     refine ⟨by simp;omega,?_⟩
     intro x hx
     simp at hx
     rcases hx with rfl | hx
     · exact ⟨l,h0,by omega,h3⟩
     · obtain ⟨l',a1,a2,a3⟩:=h2.2 x hx
       exact ⟨l',a1,by omega,a3⟩
   · omega
theorem Hq (t:Ty):∀l:Int,0<l→l≤100000→0<j5 t l→t.Ok:=by
 refine Ty.fH (p:=fun t=>∀l:Int,0<l→l≤100000→0<j5 t l→t.Ok) ?_ t
 intro t ih l h0 h1 hp
 rw [rX] at hp
 have hp':0<oX t.args (l-1):=by omega
 obtain ⟨k1,k2⟩:=yQ t.args (l-1) (by omega) hp'
 refine ⟨by unfold Sm;omega,fun x hx=>?_⟩
 obtain ⟨l',a1,a2,a3⟩:=k2 x hx
 exact ih x hx l' a1 (by omega) a3
theorem Jj {t:Ty} (h:∀x∈t.args,∀l:Int,0<l→l≤4611686018427387904→(aC AP).p 88 [x.pv,vI l]=some [vI (j5 x l)]):∀(n i:Nat),t.args.length-i=n→i≤t.args.length→∀l:Int,0≤l→i+l≤4611686018427387904 →
   ∃(k:Nat) (b:Bool),cl AP g88L0 ⟨[(1,.pv (vI l)),(2,.bg 2 0),(5,.pv (vI i))],[(2,t.cl)],[],[]⟩ =
     some (.exit 0,⟨[(1,.pv (vI (oX (t.args.drop i) l))),(2,.bg 2 0),(5,.pv (vI k)),(16,.pv (.bool b))],[(2,t.cl)],[],[]⟩)
 | 0,i,hn,hi,l,hl,hb=>by
   have:i=t.args.length:=by omega
   subst this
   refine ⟨t.args.length,false,?_⟩
   rw [g88L0e]
   simp [g88B0,Ty.cl,oX]
 | n+1,i,hn,hi,l,hl,hb=>by
   have hi:i<t.args.length:=by omega
   obtain ⟨x,hx⟩:=eg hi
   rw [g88L0e,dv hx]
   by_cases hp:0<l
   · have hc:=h x (ej hx) l hp (by omega)
     have hle:=rY x l hp
     obtain ⟨k,b,ih⟩:=Jj h n (i+1) (by omega) (by omega) (j5 x l) hle.1 (by omega)
     refine ⟨k,b,?_⟩
     simp [Ty.cl] at ih hc
     simp (disch:=omega) [-getElem?_pos,g88B0,Ty.cl,hx,hi,hc,hp,oX,aI,ih]
   · refine ⟨i,false,?_⟩
     simp (disch:=omega) [-getElem?_pos,g88B0,Ty.cl,hx,hi,hp,oX]
theorem c88 (t:Ty):∀l:Int,0<l→l≤4611686018427387904→(aC AP).p 88 [t.pv,vI l]=some [vI (j5 t l)]:=by
 refine Ty.fH (p:=fun t=>∀l:Int,0<l→l≤4611686018427387904→(aC AP).p 88 [t.pv,vI l]=some [vI (j5 t l)]) ?_ t
 intro t ih l h0 h1
 obtain ⟨k,b,h⟩:=Jj ih _ 0 rfl (by omega) (l-1) (by omega) (by omega)
 rw [g88L0e] at h
 simp [Ty.cl] at h
 rw [az (af:=g88) rfl rfl (by decide),rX]
 simp (disch:=omega) [g88,aI,g88L0e,h]
 omega
theorem c40 {t:Ty} {n:Int} (h0:0≤n) (h1:n<1000000):(aC AP).p 40 [t.pv,vI n]=some [.bool (decide (0<j5 t (n+1)))]:=by
 have h:=c88 t (n+1) (by omega) (by omega)
 simp at h
 rw [az (af:=g40) rfl rfl (by decide)]
 simp (disch:=omega) [g40,aI,h]
end Go.Ab.Lw
namespace Go.Ab.Lw
section
variable {P:Program} {n:Nat} {t e:TypeId} {p:PV}
theorem jY (hu:P.underlying t=some (.int .i64)) (h:lU P n t p):∃i,p=vI i:=by
 cases n with
 | zero=>simp [lU] at h
 | succ n=>simp only [lU,hu] at h;obtain ⟨i,rfl,_⟩:=h;exact ⟨i,rfl⟩
theorem Ek {α:Type} {f:α→PV} (hu:P.underlying t=some (.slice e)) (he:∀(m:Nat) (q:PV),lU P m e q→∃x,q=f x) (h:lU P n t p):∃l:List α,p=.aF (l.map f):=by
 cases n with
 | zero=>simp [lU] at h
 | succ n=>
   simp only [lU,hu] at h
   obtain ⟨els,rfl,_,h⟩:=h
   have key:∀els:List PV,(∀q∈els,lU P n e q)→∃l:List α,els=l.map f:=by
     intro els
     induction els with
     | nil=>intro _;exact ⟨[],rfl⟩
     | cons q r ih=>
       intro h
       obtain ⟨x,rfl⟩:=he n q (h q (by simp))
       obtain ⟨l,rfl⟩:=ih (fun q hq=>h q (by simp [hq]))
       exact ⟨x::l,rfl⟩
   obtain ⟨l,rfl⟩:=key els h
   exact ⟨l,rfl⟩
theorem Em (hu:P.underlying t=some (.slice e)) (he:P.underlying e=some (.int .i64)) (h:lU P n t p):∃L:List Int,p=.aF (L.map vI):=
 Ek hu (fun _ _ h=>jY he h) h
end
end Go.Ab.Lw
namespace Go.Ab.Lw
open Ev
theorem c23:(aC AP).p 23 []=some [.bool true]:=Fc.H_ (k:=40) (n:=20) (by kernel_rfl)
theorem c24 {t:Ty}:(aC AP).p 24 [t.pv]=some [.bool (decide (0<j5 t 61))]:=by
 have h:=c40 (t:=t) (n:=60) (by omega) (by omega)
 simp at h
 rw [az (af:=g24) rfl rfl (by decide)]
 simp [g24,h]
def lq (s:List UInt8):Ty:=⟨5,s,0,0,[]⟩
theorem c106 {s:List UInt8}:(aC AP).p 106 [.str s]=some [(lq s).pv]:=by
 rw [az (af:=g106) rfl rfl (by decide)]
 simp [g106,lq]
def i9:List Ty:=[lq [97],lq [98],lq [99]]
theorem c67:(aC AP).p 67 []=some [.aF (i9.map Ty.pv)]:=by
 have h1:=c106 (s:=[97]);have h2:=c106 (s:=[98]);have h3:=c106 (s:=[99])
 simp at h1 h2 h3
 rw [az (af:=g67) rfl rfl (by decide)]
 simp [g67,h1,h2,h3,i9]
theorem c28i {sh:Sh} (hc:Calm sh) (hs:∀n,ew n sh=sh):(aC AP).i 28 [] sh []=some ([.own (dK.map Ty.pv) 0],sh,[8]):=by
 have hh:=hc
 unfold Calm at hc
 rw [aT (af:=g28) rfl (by simp [g28])]
 have h:=c70_4 hh
 have c1:=c71 (n:=0) (m:=0);have c2:=c71 (n:=1) (m:=0);have c3:=c71 (n:=-1) (m:=2);have c4:=c72 (n:=0)
 simp [iy] at h c1 c2 c3 c4
 simp [g28,h,hc,hs,c1,c2,c3,c4,dK,iy,lj,rU]
def ft:List Ty:=dK++i9
theorem gl:∀t,t∈ft→t.args=[]:=by
 intro t ht
 simp [ft,dK,i9] at ht
 rcases ht with rfl | rfl | rfl | rfl | rfl | rfl | rfl | rfl | rfl | rfl | rfl<;>rfl
theorem oY:∀t∈ft,cp t=true:=by
 intro t ht
 simp [ft,dK,i9] at ht
 rcases ht with rfl | rfl | rfl | rfl | rfl | rfl | rfl | rfl | rfl | rfl | rfl<;>(rw [eM];decide +kernel)
theorem yi:∀d∈cn,uS d.name d.params.length=true:=by decide +kernel
theorem Made.valid {lv:Ty→Prop} (h:∀t,lv t→cp t=true) {t:Ty} (m:Made lv t):cp t=true:=by
 induction m with
 | leaf hl=>exact h _ hl
 | int=>rw [eM];decide +kernel
 | Gn hd hl _ ih=>
   rw [eM]
   have:=yi _ hd
   simp [hl,this]
   exact ih
 | arrow _ _ ha hb=>rw [eM];simp [uS,ha,hb]
theorem lW:∀t,t∈dK→t∈ft:=fun t h=>List.mem_append_left _ h
theorem yR {P:Program} {ti ts tl tt:TypeId} {f0 f1 f2 f3 f4:Field} (hi:P.underlying ti=some (.int .i64)) (hs:P.underlying ts=some .string) (hl:P.underlying tl=some (.slice tt))
   (ht:P.underlying tt=some (.struct #[f0,f1,f2,f3,f4])) (e0:f0.type=ti) (e1:f1.type=ts) (e2:f2.type=ti) (e3:f3.type=ti) (e4:f4.type=tl) :
   ∀(n:Nat) (p:PV),lU P n tt p→∃x:Ty,p=x.pv∧x.Nm
 | 0,p,h=>by simp [lU] at h
 | n+1,p,h=>by
   simp only [lU,ht] at h
   obtain ⟨ps,rfl,h⟩:=h
   match ps,h with
   | [p0,p1,p2,p3,p4],⟨h0,h1,h2,h3,h4,_⟩=>
     rw [e0] at h0;rw [e1] at h1;rw [e2] at h2;rw [e3] at h3;rw [e4] at h4
     obtain ⟨k,rfl⟩:=jY hi h0
     obtain ⟨i,rfl⟩:=jY hi h2
     obtain ⟨m,rfl⟩:=jY hi h3
     cases n with
     | zero=>simp [lU] at h4
     | succ n=>
       simp only [lU,hs] at h1
       obtain ⟨s,rfl,hsl⟩:=h1
       simp only [lU,hl] at h4
       obtain ⟨els,rfl,_,h4⟩:=h4
       have key:∀els:List PV,(∀q∈els,lU P n tt q)→∃l:List Ty,els=l.map Ty.pv∧∀x∈l,x.Nm:=by
         intro els
         induction els with
         | nil=>intro _;exact ⟨[],rfl,by simp⟩
         | cons q r ih=>
           intro h
           obtain ⟨x,rfl,hx⟩:=yR hi hs hl ht e0 e1 e2 e3 e4 n q (h q (by simp))
           obtain ⟨l,rfl,hl⟩:=ih (fun q hq=>h q (by simp [hq]))
           refine ⟨x::l,rfl,?_⟩
           intro y hy;simp at hy
           rcases hy with rfl | hy
           · exact hx
           · exact hl y hy
       obtain ⟨l,rfl,hl⟩:=key els h4
       refine ⟨⟨k,s,i,m,l⟩,by simp [aH],⟨?_,hl⟩⟩
       unfold maxLen at hsl
       simp only [Gl];omega
 termination_by n=>n
end Go.Ab.Lw
namespace Go.Ab.Lw
open Ev
def Ik:aq:=
 (.seq
  (.kb [⟨some 9,none,[.t 8,.t 7],.v (.bin .lss)⟩] [0,1,7,8,9])
  (.seq
   (.cond (.t 9)
    .skip
    (.exit 0))
   (.seq
    (.block 1
     (.seq
      (.kb [⟨some 10,none,[.t 8],.v (.mv)⟩,
        ⟨some 5,none,[.t 10],.v (.mv)⟩] [0,1,5,7,8])
      (.seq
       (.kb [⟨some 11,none,[.t 1],.v (.mv)⟩,
         ⟨some 12,none,[.t 0],.v (.mv)⟩,
         ⟨some 13,none,[.t 5],.v (.mv)⟩,
         ⟨some 14,none,[.t 12,.t 13],.v (.e8 1)⟩,
         ⟨some 15,none,[.t 14],.v (.e9 1 false)⟩,
         ⟨some 16,none,[.t 11,.t 15],.v (.bin .eql)⟩] [0,1,5,7,8,16])
       (.cond (.t 16)
        (.seq
         (.kb [⟨some 17,none,[.t 5],.v (.mv)⟩,
           ⟨some 4,none,[.t 17],.v (.mv)⟩] [4])
         .ret)
        .skip))))
    (.kb [⟨some 18,none,[.t 8,.c (.pv (.int .i64 1))],.v (.bin .add)⟩,
      ⟨some 8,none,[.t 18],.v (.mv)⟩] [0,1,7,8]))))
def IE:aq:=.loop [0,1,7,8] Ik
theorem Eo {st:St}:cl AP IE st=after (cl AP IE) (cl AP Ik (norm (restrict [0,1,7,8] st))):=br
def Il:aw:=⟨2,19,[.t 4],
 (.seq
  (.kb [⟨some 4,none,[.c (.pv (.int .i64 0))],.v (.mv)⟩] [0,1])
  (.seq
   (.seq
    (.kb [⟨some 6,none,[.t 0],.v (.mv)⟩,
      ⟨some 7,none,[.t 6],.v (.len)⟩,
      ⟨some 8,none,[.c (.pv (.int .i64 0))],.v (.mv)⟩] [0,1,7,8])
    (.block 0
     IE))
   (.seq
    (.kb [⟨some 4,none,[.c (.pv (.int .i64 (-1)))],.v (.mv)⟩] [4])
    .ret))),none,false⟩
def I5 (g:Nat):aw:=⟨2,9,[.t 4],
 (.seq
  (.kb [⟨some 4,none,[.c (.pv (.bool false))],.v (.mv)⟩] [0,1])
  (.seq
   (.kb [⟨some 5,none,[.t 0],.v (.mv)⟩,
     ⟨some 6,none,[.t 1],.v (.mv)⟩,
     ⟨some 7,none,[.t 5,.t 6],.aN g⟩,
     ⟨some 8,none,[.t 7,.c (.pv (.int .i64 0))],.v (.bin .geq)⟩,
     ⟨some 4,none,[.t 8],.v (.mv)⟩] [4])
   .ret)),none,false⟩
structure IF {α:Type} [DecidableEq α] (f:α→PV):Prop where
 el:El f 1 false
 eq:∀x y,a6 (.bin .eql) [.pv (f x),.pv (f y)]=some (.pv (.bool (decide (x=y))))
theorem F4:IF vI:=⟨yg,fun x y=>by simp;rw [Bool.eq_iff_iff];simp⟩
def Hz {α:Type} (f:α→PV) (s:List α) (y:α) (i:Nat):Option Nat→Option (aG×St)
 | some k=>some (.ret,⟨[(4,.pv (vI (i+k:Nat)))],[],[],[]⟩)
 | none=>some (.exit 0,⟨[(0,.pv (.aF (s.map f))),(1,.pv (f y)),(7,.pv (vI s.length)),(8,.pv (vI s.length)),(9,.pv (.bool false))],[],[],[]⟩)
theorem Jk {α:Type} [DecidableEq α] {f:α→PV} (he:IF f) {s:List α} (hS:Sm s) (y:α):∀(n i:Nat),s.length-i=n→i≤s.length →
   cl AP IE ⟨[(0,.pv (.aF (s.map f))),(1,.pv (f y)),(7,.pv (vI s.length)),(8,.pv (vI i))],[],[],[]⟩=Hz f s y i (e7 (fun x=>decide (y=x)) (s.drop i))
 | 0,i,hn,hi=>by
   have:i=s.length:=by omega
   subst this
   rw [Eo]
   simp [Ik,e7,Hz]
 | n+1,i,hn,hi=>by
   have hi:i<s.length:=by omega
   obtain ⟨x,hx⟩:=eg hi
   unfold Sm at hS
   have ih:=Jk he hS y n (i+1) (by omega) (by omega)
   simp at ih
   have h1:=he.el.len x
   have h2:=he.el.of x
   have h3:=he.eq y x
   rw [Eo,dv hx]
   by_cases e:y=x
   · rw [decide_eq_true e] at h3
     simp (disch:=omega) [-getElem?_pos,Ik,hx,hi,e,e7,Hz,h1,h2]
     rw [←e] at h3 ⊢
     simp [h3]
   · rw [decide_eq_false e] at h3
     simp (disch:=omega) [-getElem?_pos,Ik,hx,hi,e,e7,aI,ih,h1,h2,h3]
     cases e7 (fun x=>decide (y=x)) (s.drop (i+1)) with
     | none=>rfl
     | some k=>simp [Hz];omega
theorem JC {α:Type} [DecidableEq α] {f:α→PV} (he:IF f) {k:Nat} (hk:AP k=some Il) {s:List α} (hS:Sm s) {y:α}:(aC AP).p k [.aF (s.map f),f y]=some [vI (uO (e7 (fun x=>decide (y=x)) s))]:=by
 have h:=Jk he hS y _ 0 rfl (by omega)
 simp at h
 rw [az hk rfl (by simp [Il])]
 cases hi:e7 (fun x=>decide (y=x)) s with
 | none=>rw [hi] at h;simp [Hz] at h;simp [Il,h,uO]
 | some k=>rw [hi] at h;simp [Hz] at h;simp [Il,h,uO]
theorem yS {α:Type} [DecidableEq α] {s:List α} {y:α}:(s.any fun x=>decide (y=x))=decide (y∈s):=by
 rw [Bool.eq_iff_iff];simp
theorem JD {α:Type} [DecidableEq α] {f:α→PV} (he:IF f) {m k:Nat} (hm:AP m=some (I5 k)) (hk:AP k=some Il) {s:List α} (hS:Sm s) {y:α}:(aC AP).p m [.aF (s.map f),f y]=some [.bool (decide (y∈s))]:=by
 have h:=JC he hk hS (y:=y)
 rw [az hm rfl (by simp [I5]),←yS,←uP]
 simp [I5,h]
theorem c98 {s:List Int} (hS:Sm s) {y:Int}:(aC AP).p 98 [.aF (s.map vI),vI y]=some [.bool (decide (y∈s))]:=JD F4 (k:=116) rfl rfl hS
theorem Jl {s:List Int} (hS:Sm s) (y:Int):∀(n i:Nat),s.length-i=n→i≤s.length →
   cl AP g95L0 ⟨[(0,.pv (.aF (s.map vI))),(1,.pv (vI y)),(5,.pv (vI i))],[],[],[]⟩ =
     if y∈s.drop i then some (.ret,⟨[(4,.pv (.bool true))],[],[],[]⟩) else some (.exit 0,⟨[(0,.pv (.aF (s.map vI))),(1,.pv (vI y)),(5,.pv (vI s.length)),(9,.pv (.bool false))],[],[],[]⟩)
 | 0,i,hn,hi=>by
   have:i=s.length:=by omega
   subst this
   rw [g95L0e]
   simp [g95B0]
 | n+1,i,hn,hi=>by
   have hi:i<s.length:=by omega
   obtain ⟨x,hx⟩:=eg hi
   unfold Sm at hS
   have ih:=Jl hS y n (i+1) (by omega) (by omega)
   simp at ih
   rw [g95L0e,dv hx]
   by_cases e:x=y
   · simp (disch:=omega) [-getElem?_pos,g95B0,hx,hi,e]
   · have e':¬y=x:=fun h=>e h.symm
     simp (disch:=omega) [-getElem?_pos,g95B0,hx,hi,e,e',aI,ih]
theorem c95 {s:List Int} (hS:Sm s) {y:Int}:(aC AP).p 95 [.aF (s.map vI),vI y]=some [.bool (decide (y∈s))]:=by
 have h:=Jl hS y _ 0 rfl (by omega)
 simp at h
 rw [az (af:=g95) rfl rfl (by decide)]
 by_cases e:y∈s<;>simp [g95,h,e]
mutual
def Ty.nodes:Ty→List Ty
 | ⟨k,n,i,h,as⟩=>⟨k,n,i,h,as⟩::Ty.oZ as
def Ty.oZ:List Ty→List Ty
 | []=>[]
 | a::r=>a.nodes++Ty.oZ r
end
theorem Ty.qH:∀l:List Ty,Ty.oZ l=l.flatMap Ty.nodes
 | []=>by simp [Ty.oZ]
 | a::r=>by simp [Ty.oZ,Ty.qH r]
theorem Ty.bE (t:Ty):t.nodes=t::t.args.flatMap Ty.nodes:=by cases t;simp only [Ty.nodes,Ty.qH]
theorem iA {α:Type} [DecidableEq α]:∀{l S:List α},l.Nodup→(∀x∈l,x∈S)→l.length≤S.length
 | [],_,_,_=>by simp
 | x::r,S,hn,h=>by
   have hx:=h x (by simp)
   have hr:=iA (l:=r) (S:=S.erase x) (List.nodup_cons.1 hn).2 (fun y hy=>by
     rw [List.mem_erase_of_ne]
     · exact h y (by simp [hy])
     · rintro rfl;exact (List.nodup_cons.1 hn).1 hy)
   have:=List.length_erase_of_mem hx
   have:0<S.length:=List.length_pos_of_mem hx
   simp;omega
def dn (out:List Int) (x:Ty):List Int:=if x.kind=1∧x.id∉out then out++[x.id] else out
structure ji (S out:List Int):Prop where
 nodup:out.Nodup
 sub:∀x∈out,x∈S
 HA:S.length<1099511627776
theorem ji.len {S out:List Int} (h:ji S out):Sm out:=by
 have:=iA h.nodup h.sub
 have:=h.HA
 unfold Sm;omega
theorem ji.add {S out:List Int} (h:ji S out) {x:Ty} (hx:x.kind=1→x.id∈S):ji S (dn out x):=by
 unfold dn
 split
 · rename_i e
   refine ⟨?_,?_,h.HA⟩
   · rw [List.nodup_append]
     refine ⟨h.nodup,by simp,?_⟩
     intro a ha b hb
     simp at hb;subst hb
     rintro rfl;exact e.2 ha
   · intro y hy
     simp at hy
     rcases hy with hy | rfl
     · exact h.sub y hy
     · exact hx e.1
 · exact h
theorem ji.fold {S:List Int}:∀{l:List Ty} {out:List Int},ji S out→(∀x∈l,x.kind=1→x.id∈S)→ji S (l.foldl dn out)
 | [],_,h,_=>h
 | x::r,out,h,hx=>by
   simp only [List.foldl_cons]
   exact ji.fold (h.add (hx x (by simp))) (fun y hy=>hx y (by simp [hy]))
def nb (out:List Int):Sh:=[some [.own (out.map vI) 0]]
theorem c97 {S out:List Int} (h:ji S out) (x:Ty):(aC AP).i 97 [.pv x.pv,.aO 0 0] (nb out) [out.length]=some ([],nb (dn out x),[(dn out x).length]):=by
 have hl:=h.len
 have k:=c98 hl (y:=x.id)
 unfold Sm at hl
 have hb:(out.length+1)*8≤140737488355328:=by omega
 have hh:aQ 1 (out.map vI)=true:=yg.head out
 rw [aT (af:=g97) rfl (by simp [g97])]
 by_cases e1:x.kind=1
 · by_cases e2:x.id∈out
   · rw [decide_eq_true e2] at k
     simp [g97,nb,dn,e1,e2,k,hh]
   · rw [decide_eq_false e2] at k
     simp [g97,nb,dn,e1,e2,k,hb,hh]
 · simp [g97,nb,dn,e1]
theorem Jm {S:List Int} {t:Ty} (hS:Sm t.args) (h:∀x∈t.args,∀out,ji S out→(aC AP).i 96 [.pv x.pv,.fn 97 [.aO 0 0]] (nb out) [out.length]=some ([],nb (x.nodes.foldl dn out),[(x.nodes.foldl dn out).length]))
   (hk:∀x∈t.args.flatMap Ty.nodes,x.kind=1→x.id∈S):∀(n i:Nat),t.args.length-i=n→i≤t.args.length→∀out,ji S out →
   cl AP g96L0 ⟨[(1,.fn 97 [.aO 0 0]),(10,.pv (.aF (t.args.map Ty.pv))),(11,.pv (vI t.args.length)),(12,.pv (vI i))],[],nb out,[out.length]⟩ =
     some (.exit 0,⟨[(1,.fn 97 [.aO 0 0]),(10,.pv (.aF (t.args.map Ty.pv))),(11,.pv (vI t.args.length)),(12,.pv (vI t.args.length)),(13,.pv (.bool false))],[],nb (((t.args.drop i).flatMap Ty.nodes).foldl dn out),[(((t.args.drop i).flatMap Ty.nodes).foldl dn out).length]⟩)
 | 0,i,hn,hi,out,hc=>by
   have:i=t.args.length:=by omega
   subst this
   rw [g96L0e]
   simp [g96B0,nb]
 | n+1,i,hn,hi,out,hc=>by
   have hi:i<t.args.length:=by omega
   obtain ⟨x,hx⟩:=eg hi
   unfold Sm at hS
   have hkx:∀y∈x.nodes,y.kind=1→y.id∈S:=fun y hy=>hk y (by simp only [List.mem_flatMap];exact ⟨x,ej hx,hy⟩)
   have k:=h x (ej hx) out hc
   have ih:=Jm hS h hk n (i+1) (by omega) (by omega) _ (hc.fold hkx)
   rw [g96L0e] at ih ⊢
   rw [dv hx]
   simp [nb] at k ih
   simp (disch:=omega) [-getElem?_pos,g96B0,nb,hx,hi,k,aI]
   rw [g96L0e]
   simp [ih]
theorem c96 {S:List Int} {t:Ty} (hO:t.Ok) (hk:∀x∈t.nodes,x.kind=1→x.id∈S):∀out,ji S out →
   (aC AP).i 96 [.pv t.pv,.fn 97 [.aO 0 0]] (nb out) [out.length]=some ([],nb (t.nodes.foldl dn out),[(t.nodes.foldl dn out).length]):=by
 revert hO hk
 refine Ty.fH (p:=fun t=>t.Ok→(∀x∈t.nodes,x.kind=1→x.id∈S)→∀out,ji S out →
   (aC AP).i 96 [.pv t.pv,.fn 97 [.aO 0 0]] (nb out) [out.length]=some ([],nb (t.nodes.foldl dn out),[(t.nodes.foldl dn out).length])) ?_ t
 intro t ih hO hk out hc
 rw [Ty.bE] at hk ⊢
 have k:=c97 hc t
 have h:=Jm (S:=S) hO.sm (fun x hx out hc=>ih x hx (hO.uL x hx) (fun y hy=>hk y (by simp only [List.mem_cons,List.mem_flatMap];exact .inr ⟨x,hx,hy⟩)) out hc) (fun x hx=>hk x (by simp only [List.mem_cons];exact .inr hx)) _ 0 rfl (by omega) _ (hc.add (hk t (by simp)))
 rw [aT (af:=g96) rfl (by simp [g96])]
 rw [g96L0e] at h
 simp [nb] at k h
 simp [g96,g96L0e,nb,k,h]
def vars (l:List Ty):List Int:=(l.flatMap Ty.nodes).foldl dn []
theorem Jn {S:List Int} {l:List Ty} (hS:Sm l) (hO:∀t∈l,t.Ok) (hk:∀x∈l.flatMap Ty.nodes,x.kind=1→x.id∈S):∀(n i:Nat),l.length-i=n→i≤l.length→∀out,ji S out →
   cl AP g55L0 ⟨[(3,.aO 0 0),(6,.pv (.aF (l.map Ty.pv))),(7,.pv (vI l.length)),(8,.pv (vI i))],[],nb out,[out.length]⟩ =
     some (.exit 0,⟨[(3,.aO 0 0),(6,.pv (.aF (l.map Ty.pv))),(7,.pv (vI l.length)),(8,.pv (vI l.length)),(9,.pv (.bool false))],[],nb (((l.drop i).flatMap Ty.nodes).foldl dn out),[(((l.drop i).flatMap Ty.nodes).foldl dn out).length]⟩)
 | 0,i,hn,hi,out,hc=>by
   have:i=l.length:=by omega
   subst this
   rw [g55L0e]
   simp [g55B0,nb]
 | n+1,i,hn,hi,out,hc=>by
   have hi:i<l.length:=by omega
   obtain ⟨x,hx⟩:=eg hi
   unfold Sm at hS
   have hkx:∀y∈x.nodes,y.kind=1→y.id∈S:=fun y hy=>hk y (by simp only [List.mem_flatMap];exact ⟨x,ej hx,hy⟩)
   have k:=c96 (hO x (ej hx)) hkx out hc
   have ih:=Jn hS hO hk n (i+1) (by omega) (by omega) _ (hc.fold hkx)
   rw [g55L0e] at ih ⊢
   rw [dv hx]
   simp [nb] at k ih
   simp (disch:=omega) [-getElem?_pos,g55B0,nb,hx,hi,k,aI]
   rw [g55L0e]
   simp [ih]
theorem o8 {S:List Int} (h:S.length<1099511627776):ji S []:=⟨by simp,by simp,h⟩
theorem c55 {S:List Int} (hf:S.length<1099511627776) {l:List Ty} (hS:Sm l) (hO:∀t∈l,t.Ok) (hk:∀x∈l.flatMap Ty.nodes,x.kind=1→x.id∈S):(aC AP).p 55 [.aF (l.map Ty.pv)]=some [.aF ((vars l).map vI)]:=by
 have h:=Jn hS hO hk _ 0 rfl (by omega) [] (o8 hf)
 rw [az (af:=g55) rfl rfl (by decide)]
 rw [g55L0e] at h
 simp [nb] at h
 simp [g55,g55L0e,h,vars]
end Go.Ab.Lw
namespace Go.Ab.Lw
open Ev
mutual
def Ty.fu (k:Int):Ty→List Ty
 | ⟨kd,n,i,h,as⟩=>if kd=k∧as.length=0 then [⟨kd,n,i,h,as⟩] else Ty.Ep k as
def Ty.Ep (k:Int):List Ty→List Ty
 | []=>[]
 | a::r=>a.fu k++Ty.Ep k r
end
theorem Ty.yT (k:Int):∀l:List Ty,Ty.Ep k l=l.flatMap (Ty.fu k)
 | []=>by simp [Ty.Ep]
 | a::r=>by simp [Ty.Ep,Ty.yT k r]
theorem Ty.o9 (k:Int) (t:Ty):t.fu k=if t.kind=k∧t.args.length=0 then [t] else t.args.flatMap (Ty.fu k):=by cases t;simp only [Ty.fu,Ty.yT]
noncomputable def eC (out:List Ty) (x:Ty):List Ty:=if x∈out then out else out++[x]
structure cD (S out:List Ty):Prop where
 nodup:out.Nodup
 sub:∀x∈out,x∈S
 HA:S.length<1099511627776
 ok:∀x∈S,x.Ok
theorem cD.len {S out:List Ty} (h:cD S out):Sm out:=by
 have:=iA h.nodup h.sub
 have:=h.HA
 unfold Sm;omega
theorem cD.add {S out:List Ty} (h:cD S out) {x:Ty} (hx:x∈S):cD S (eC out x):=by
 unfold eC
 split
 · exact h
 · rename_i e
   refine ⟨?_,?_,h.HA,h.ok⟩
   · rw [List.nodup_append]
     refine ⟨h.nodup,by simp,?_⟩
     intro a ha b hb
     simp at hb;subst hb
     rintro rfl;exact e ha
   · intro y hy
     simp at hy
     rcases hy with hy | rfl
     · exact h.sub y hy
     · exact hx
theorem cD.fold {S:List Ty}:∀{l:List Ty} {out:List Ty},cD S out→(∀x∈l,x∈S)→cD S (l.foldl eC out)
 | [],_,h,_=>h
 | x::r,out,h,hx=>by
   simp only [List.foldl_cons]
   exact cD.fold (h.add (hx x (by simp))) (fun y hy=>hx y (by simp [hy]))
theorem Im {S out:List Ty} (h:cD S out) (t:Ty):∀(n i:Nat),out.length-i=n→i≤out.length →
   cl AP g99L0 ⟨[(0,.own (out.map Ty.pv) 0),(4,.bg 4 0),(7,.pv (vI i))],[(4,[.pv (vI t.kind),.pv (.str t.name),.pv (vI t.id),.pv (vI t.home),.pv (.aF (t.args.map Ty.pv))])],[],[out.length]⟩ =
     if t∈out.drop i then some (.ret,⟨[(6,.own (out.map Ty.pv) 0)],[],[],[out.length]⟩)
     else some (.exit 0,⟨[(0,.own (out.map Ty.pv) 0),(4,.bg 4 0),(7,.pv (vI out.length)),(22,.pv (.bool false))],[(4,[.pv (vI t.kind),.pv (.str t.name),.pv (vI t.id),.pv (vI t.home),.pv (.aF (t.args.map Ty.pv))])],[],[out.length]⟩)
 | 0,i,hn,hi=>by
   have:i=out.length:=by omega
   subst this
   rw [g99L0e]
   simp [g99B0]
 | n+1,i,hn,hi=>by
   have hi:i<out.length:=by omega
   obtain ⟨x,hx⟩:=eg hi
   have hS:=h.len
   unfold Sm at hS
   have k:=c20 (b:=t) (h.ok x (h.sub x (ej hx)))
   have ih:=Im h t n (i+1) (by omega) (by omega)
   rw [g99L0e] at ih ⊢
   rw [dv hx]
   simp at ih k
   by_cases e:x=t
   · subst e
     rw [decide_eq_true rfl] at k
     simp (disch:=omega) [-getElem?_pos,g99B0,hx,hi,k]
   · have e':¬t=x:=fun h=>e h.symm
     rw [decide_eq_false e] at k
     simp (disch:=omega) [-getElem?_pos,g99B0,hx,hi,k,e',aI]
     rw [g99L0e]
     simp [ih]
theorem Io {S:List Ty} {kd:Int} {t:Ty} (hS:Sm t.args) (h:∀x∈t.args,∀out,cD S out→(aC AP).i 99 [.own (out.map Ty.pv) 0,.pv x.pv,.pv (vI kd)] [] [out.length]=some ([.own (((x.fu kd).foldl eC out).map Ty.pv) 0],[],[((x.fu kd).foldl eC out).length]))
   (hk:∀x∈t.args.flatMap (Ty.fu kd),x∈S):∀(n i:Nat),t.args.length-i=n→i≤t.args.length→∀out,cD S out →
   cl AP g99L1 ⟨[(0,.own (out.map Ty.pv) 0),(2,.pv (vI kd)),(4,.bg 4 0),(8,.pv (vI i))],[(4,[.pv (vI t.kind),.pv (.str t.name),.pv (vI t.id),.pv (vI t.home),.pv (.aF (t.args.map Ty.pv))])],[],[out.length]⟩ =
     some (.exit 2,⟨[(0,.own ((((t.args.drop i).flatMap (Ty.fu kd)).foldl eC out).map Ty.pv) 0),(2,.pv (vI kd)),(4,.bg 4 0),(8,.pv (vI t.args.length)),(40,.pv (.bool false))],[(4,[.pv (vI t.kind),.pv (.str t.name),.pv (vI t.id),.pv (vI t.home),.pv (.aF (t.args.map Ty.pv))])],[],[(((t.args.drop i).flatMap (Ty.fu kd)).foldl eC out).length]⟩)
 | 0,i,hn,hi,out,hc=>by
   have:i=t.args.length:=by omega
   subst this
   rw [g99L1e]
   simp [g99B1]
 | n+1,i,hn,hi,out,hc=>by
   have hi:i<t.args.length:=by omega
   obtain ⟨x,hx⟩:=eg hi
   unfold Sm at hS
   have hkx:∀y∈x.fu kd,y∈S:=fun y hy=>hk y (by simp only [List.mem_flatMap];exact ⟨x,ej hx,hy⟩)
   have k:=h x (ej hx) out hc
   have ih:=Io hS h hk n (i+1) (by omega) (by omega) _ (hc.fold hkx)
   rw [g99L1e] at ih ⊢
   rw [dv hx]
   simp at k ih
   simp (disch:=omega) [-getElem?_pos,g99B1,hx,hi,k,aI]
   rw [g99L1e]
   simp [ih]
theorem c99 {S:List Ty} {kd:Int} {t:Ty} (hO:t.Ok) (hk:∀x∈t.fu kd,x∈S):∀out,cD S out →
   (aC AP).i 99 [.own (out.map Ty.pv) 0,.pv t.pv,.pv (vI kd)] [] [out.length]=some ([.own (((t.fu kd).foldl eC out).map Ty.pv) 0],[],[((t.fu kd).foldl eC out).length]):=by
 revert hO hk
 refine Ty.fH (p:=fun t=>t.Ok→(∀x∈t.fu kd,x∈S)→∀out,cD S out →
   (aC AP).i 99 [.own (out.map Ty.pv) 0,.pv t.pv,.pv (vI kd)] [] [out.length]=some ([.own (((t.fu kd).foldl eC out).map Ty.pv) 0],[],[((t.fu kd).foldl eC out).length])) ?_ t
 intro t ih hO hk out hc
 rw [Ty.o9] at hk ⊢
 have hl:=hc.len
 unfold Sm at hl
 have hb:(out.length+1)*64≤140737488355328:=by omega
 rw [aT (af:=g99) rfl (by simp [g99])]
 by_cases e:t.kind=kd∧t.args.length=0
 · rw [if_pos e] at hk ⊢
   obtain ⟨e1,e2⟩:=e
   subst e1
   have e3:t.args=[]:=by simpa using e2
   have h:=Im hc t _ 0 rfl (by omega)
   rw [g99L0e] at h
   simp [e3] at h
   by_cases em:t∈out
   · simp [em] at h
     have ea:eC out t=out:=by simp [eC,em]
     simp [g99,e3,g99L0e,h,ea]
   · simp [em] at h
     have ea:eC out t=out++[t]:=by simp [eC,em]
     simp [g99,e3,g99L0e,h,ea,hb]
 · rw [if_neg e] at hk ⊢
   have h:=Io (S:=S) (kd:=kd) hO.sm (fun x hx out hc=>ih x hx (hO.uL x hx) (fun y hy=>hk y (by simp only [List.mem_flatMap];exact ⟨x,hx,hy⟩)) out hc) hk _ 0 rfl (by omega) out hc
   rw [g99L1e] at h
   simp at h
   by_cases e1:t.kind=kd
   · have e2:¬t.args.length=0:=fun h=>e ⟨e1,h⟩
     have e3:¬t.args=[]:=by simpa using e2
     subst e1
     simp [g99,e2,e3,g99L1e,h]
   · simp [g99,e1,g99L1e,h]
def rZ (out:List Int) (x:Ty):List Int:=if x.id∈out then out else out++[x.id]
noncomputable def nc (l:List Ty):List Int:=((l.flatMap (Ty.fu 1)).foldl eC []).foldl rZ []
theorem Ip {S:List Ty} {l:List Ty} (hS:Sm l) (hO:∀t∈l,t.Ok) (hk:∀x∈l.flatMap (Ty.fu 1),x∈S):∀(n i:Nat),l.length-i=n→i≤l.length→∀out,cD S out →
   cl AP g56L0 ⟨[(0,.pv (.aF (l.map Ty.pv))),(3,.own (out.map Ty.pv) 0),(4,.pv (vI i))],[],[],[out.length]⟩ =
     some (.exit 0,⟨[(0,.pv (.aF (l.map Ty.pv))),(3,.own ((((l.drop i).flatMap (Ty.fu 1)).foldl eC out).map Ty.pv) 0),(4,.pv (vI l.length)),(10,.pv (.bool false))],[],[],[(((l.drop i).flatMap (Ty.fu 1)).foldl eC out).length]⟩)
 | 0,i,hn,hi,out,hc=>by
   have:i=l.length:=by omega
   subst this
   rw [g56L0e]
   simp [g56B0]
 | n+1,i,hn,hi,out,hc=>by
   have hi:i<l.length:=by omega
   obtain ⟨x,hx⟩:=eg hi
   unfold Sm at hS
   have hkx:∀y∈x.fu 1,y∈S:=fun y hy=>hk y (by simp only [List.mem_flatMap];exact ⟨x,ej hx,hy⟩)
   have k:=c99 (kd:=1) (hO x (ej hx)) hkx out hc
   have ih:=Ip hS hO hk n (i+1) (by omega) (by omega) _ (hc.fold hkx)
   rw [g56L0e] at ih ⊢
   rw [dv hx]
   simp at k ih
   simp (disch:=omega) [-getElem?_pos,g56B0,hx,hi,k,aI]
   rw [g56L0e]
   simp [ih]
theorem Hr {S l:List Ty} (hc:cD S l):∀(n i:Nat),l.length-i=n→i≤l.length→∀out:List Int,out.length≤i →
   cl AP g56L1 ⟨[(3,.own (l.map Ty.pv) 0),(5,.own (out.map vI) 1),(6,.pv (vI i))],[],[],[l.length,out.length]⟩ =
     some (.exit 2,⟨[(3,.own (l.map Ty.pv) 0),(5,.own (((l.drop i).foldl rZ out).map vI) 1),(6,.pv (vI l.length)),(22,.pv (.bool false))],[],[],[l.length,((l.drop i).foldl rZ out).length]⟩)
 | 0,i,hn,hi,out,ho=>by
   have:i=l.length:=by omega
   subst this
   rw [g56L1e]
   simp [g56B1]
 | n+1,i,hn,hi,out,ho=>by
   have hi:i<l.length:=by omega
   obtain ⟨x,hx⟩:=eg hi
   have hS:=hc.len
   unfold Sm at hS
   have k:=c95 (s:=out) (by unfold Sm;omega) (y:=x.id)
   have hb:(out.length+1)*8≤140737488355328:=by omega
   have hh:aQ 1 (out.map vI)=true:=yg.head out
   rw [dv hx]
   by_cases e:x.id∈out
   · have ih:=Hr hc n (i+1) (by omega) (by omega) out (by omega)
     have ea:rZ out x=out:=by simp [rZ,e]
     rw [g56L1e] at ih ⊢
     rw [decide_eq_true e] at k
     simp at ih
     simp (disch:=omega) [-getElem?_pos,g56B1,hx,hi,k,aI]
     rw [g56L1e]
     simp [ih,ea]
   · have ih:=Hr hc n (i+1) (by omega) (by omega) (out++[x.id]) (by simp;omega)
     have ea:rZ out x=out++[x.id]:=by simp [rZ,e]
     rw [g56L1e] at ih ⊢
     rw [decide_eq_false e] at k
     simp at ih
     simp (disch:=omega) [-getElem?_pos,g56B1,hx,hi,k,aI,hb,hh]
     rw [g56L1e]
     simp [ih,ea]
theorem c56 {S:List Ty} (hf:S.length<1099511627776) (hSo:∀x∈S,x.Ok) {l:List Ty} (hS:Sm l) (hO:∀t∈l,t.Ok) (hk:∀x∈l.flatMap (Ty.fu 1),x∈S):(aC AP).p 56 [.aF (l.map Ty.pv)]=some [.aF ((nc l).map vI)]:=by
 have c0:cD S []:=⟨by simp,by simp,hf,hSo⟩
 have h1:=Ip hS hO hk _ 0 rfl (by omega) [] c0
 have h2:=Hr (c0.fold (l:=l.flatMap (Ty.fu 1)) hk) _ 0 rfl (by omega) [] (by simp)
 rw [az (af:=g56) rfl rfl (by decide)]
 rw [g56L0e] at h1
 rw [g56L1e] at h2
 simp at h1 h2
 simp [g56,g56L0e,h1,g56L1e,h2,nc]
theorem B5 {t:Ty} (hW:t.Wf):∀out,t.nodes.foldl dn out=(t.fu 1).foldl dn out:=by
 revert hW
 refine Ty.fH (p:=fun t=>t.Wf→∀out,t.nodes.foldl dn out=(t.fu 1).foldl dn out) ?_ t
 intro t ih hW out
 have flat:∀(as:List Ty),(∀x∈as,x∈t.args)→∀out,(as.flatMap Ty.nodes).foldl dn out=(as.flatMap (Ty.fu 1)).foldl dn out:=by
   intro as
   induction as with
   | nil=>intro _ _;rfl
   | cons a r ihr=>
     intro h out
     simp only [List.flatMap_cons,List.foldl_append]
     rw [ih a (h a (by simp)) (hW.uL a (h a (by simp))),ihr (fun x hx=>h x (by simp [hx]))]
 rw [Ty.bE,Ty.o9]
 by_cases e:t.kind=1
 · have ea:=hW.var e
   simp [e,ea]
 · have:dn out t=out:=by simp [dn,e]
   simp only [List.foldl_cons,this]
   rw [if_neg (fun h=>e h.1)]
   exact flat t.args (fun _ h=>h) out
theorem Er {k:Int} {t x:Ty} (h:x∈t.fu k):x.kind=k∧x.args=[]:=by
 revert h
 refine Ty.fH (p:=fun t=>x∈t.fu k→x.kind=k∧x.args=[]) ?_ t
 intro t ih h
 rw [Ty.o9] at h
 split at h
 · rename_i e;simp at h;subst h;exact ⟨e.1,by simpa using e.2⟩
 · simp only [List.mem_flatMap] at h
   obtain ⟨y,hy,hx⟩:=h
   exact ih y hy hx
theorem Es {l:List Ty} {out:List Int} {x:Ty} (hk:x.kind=1) (h:x∈l):x.id∈l.foldl dn out:=by
 have mono:∀(l:List Ty) (out:List Int) (i:Int),i∈out→i∈l.foldl dn out:=by
   intro l
   induction l with
   | nil=>intro out i h;exact h
   | cons y r ih=>
     intro out i h
     simp only [List.foldl_cons]
     refine ih _ _ ?_
     unfold dn;split<;>simp [h]
 induction l generalizing out with
 | nil=>simp at h
 | cons y r ih=>
   simp only [List.foldl_cons]
   simp at h
   rcases h with rfl | h
   · refine mono _ _ _ ?_
     unfold dn
     split
     · simp
     · rename_i e;simp [hk] at e;exact e
   · exact ih h
theorem B6 (l:List Ty) (hk:∀x∈l,x.kind=1):∀acc:List Ty,(l.foldl eC acc).foldl dn []=l.foldl dn (acc.foldl dn []):=by
 induction l with
 | nil=>intro acc;rfl
 | cons x r ih=>
   intro acc
   simp only [List.foldl_cons]
   rw [ih (fun y hy=>hk y (by simp [hy]))]
   congr 1
   unfold eC
   split
   · rename_i e
     have:=Es (out:=[]) (hk x (by simp)) e
     simp [dn,this]
   · simp
theorem B7 (l:List Ty) (hk:∀x∈l,x.kind=1):∀out,l.foldl rZ out=l.foldl dn out:=by
 induction l with
 | nil=>intro out;rfl
 | cons x r ih=>
   intro out
   simp only [List.foldl_cons]
   rw [ih (fun y hy=>hk y (by simp [hy]))]
   congr 1
   unfold rZ dn
   have:=hk x (by simp)
   by_cases e:x.id∈out<;>simp [e,this]
theorem Et {l acc:List Ty} {x:Ty} (h:x∈l.foldl eC acc):x∈acc∨x∈l:=by
 induction l generalizing acc with
 | nil=>exact .inl h
 | cons y r ih=>
   simp only [List.foldl_cons] at h
   rcases ih h with h | h
   · unfold eC at h
     split at h
     · exact .inl h
     · simp at h
       rcases h with h | rfl
       · exact .inl h
       · right;simp
   · right;simp [h]
theorem o_ {l:List Ty} (hW:∀t∈l,t.Wf):nc l=vars l:=by
 have hk:∀x∈l.flatMap (Ty.fu 1),x.kind=1:=fun x hx=>by
   simp only [List.mem_flatMap] at hx;obtain ⟨t,_,h⟩:=hx;exact (Er h).1
 unfold nc vars
 rw [B7 _ (fun x hx=>by rcases Et hx with h | h;simp at h;exact hk x h),B6 _ hk]
 have:∀(l:List Ty),(∀t∈l,t.Wf)→∀out,(l.flatMap (Ty.fu 1)).foldl dn out=(l.flatMap Ty.nodes).foldl dn out:=by
   intro l
   induction l with
   | nil=>intro _ _;rfl
   | cons a r ih=>
     intro h out
     simp only [List.flatMap_cons,List.foldl_append]
     rw [B5 (h a (by simp)),ih (fun t ht=>h t (by simp [ht]))]
 exact this l hW []
theorem lX {k:Int} {t x:Ty} (h:x∈t.fu k):x∈t.nodes:=by
 revert h
 refine Ty.fH (p:=fun t=>x∈t.fu k→x∈t.nodes) ?_ t
 intro t ih h
 rw [Ty.o9] at h
 rw [Ty.bE]
 split at h
 · simp at h;subst h;simp
 · simp only [List.mem_flatMap] at h
   obtain ⟨y,hy,hx⟩:=h
   simp only [List.mem_cons,List.mem_flatMap]
   exact .inr ⟨y,hy,ih y hy hx⟩
end Go.Ab.Lw
namespace Go.Ab.Lw
open Ev
theorem r6 {t:Ty} (h:t.args=[]):t.Ok:=⟨by rw [h];simp [Sm],by rw [h];simp⟩
end Go.Ab.Lw
namespace Go.Ab.Lw
open Ev
inductive fg (D:Dt→Prop) (lv:List Ty):Nat→Ty→Prop
 | leaf {n:Nat} {t:Ty}:t∈lv→fg D lv n t
 | int {n:Nat}:fg D lv n hZ
 | Gn {n:Nat} {d:Dt} {args:List Ty}:D d→args.length=d.params.length→(∀x∈args,fg D lv n x)→fg D lv (n+1) ⟨4,d.name,0,0,args⟩
 | arrow {n:Nat} {a b:Ty}:fg D lv n a→fg D lv n b→fg D lv (n+1) ⟨4,[45,62],0,0,[a,b]⟩
def pa (L:List Int) (ds:List Dt) (lv:List Ty) (dep:Nat):Prop:=∀i:Nat,i≤L.length→∃(t:Ty) (j:Nat),
 (aC AP).i 27 [.aO 0 0,.pv (.aF (ds.map Dt.pv)),.pv (.aF (lv.map Ty.pv)),.pv (vI dep)] (tp L i) []=some ([t.av],tp L j,[])∧fg (·∈ds) lv dep t∧j≤L.length
theorem Iq {L:List Int} {ds:List Dt} {lv:List Ty} {dep:Nat} (hdep:dep<1000) (hg:pa L ds lv dep) {d:Dt} (hS:Sm d.params):∀(n k:Nat),d.params.length-k=n→k≤d.params.length→∀(acc:List Ty) (i:Nat),acc.length=k→(∀x∈acc,fg (·∈ds) lv dep x)→i≤L.length →
   ∃(r:List Ty) (j:Nat),cl AP g27L0 ⟨[(0,.aO 0 0),(1,.pv (.aF (ds.map Dt.pv))),(2,.pv (.aF (lv.map Ty.pv))),(3,.pv (vI (dep+1))),(8,.bg 8 0),(10,.bg 10 0),(11,.own (acc.map Ty.pv) 0),(12,.pv (vI k))],
     [(8,[.pv (vI 0),.pv (.str []),.pv (vI 0),.pv (vI 0),.own [] 1]),(10,[.pv (vI d.pos),.pv (.str d.name),.pv (.aF (d.params.map .str)),.pv (.aF (d.cons.map F3.pv))])],tp L i,[acc.length,0]⟩ =
     some (.exit 1,⟨[(0,.aO 0 0),(1,.pv (.aF (ds.map Dt.pv))),(2,.pv (.aF (lv.map Ty.pv))),(3,.pv (vI (dep+1))),(8,.bg 8 0),(10,.bg 10 0),(11,.own (r.map Ty.pv) 0),(12,.pv (vI d.params.length)),(65,.pv (.bool false))],
     [(8,[.pv (vI 0),.pv (.str []),.pv (vI 0),.pv (vI 0),.own [] 1]),(10,[.pv (vI d.pos),.pv (.str d.name),.pv (.aF (d.params.map .str)),.pv (.aF (d.cons.map F3.pv))])],tp L j,[r.length,0]⟩) ∧
     r.length=d.params.length∧(∀x∈r,fg (·∈ds) lv dep x)∧j≤L.length
 | 0,k,hn,hk,acc,i,ha,hm,hi=>by
   have:k=d.params.length:=by omega
   subst this
   refine ⟨acc,i,?_,ha,hm,hi⟩
   rw [g27L0e]
   simp [g27B0]
 | n+1,k,hn,hk,acc,i,ha,hm,hi=>by
   unfold Sm at hS
   have hk:k<d.params.length:=by omega
   have hb:(acc.length+1)*64≤140737488355328:=by omega
   obtain ⟨t,j,e,mt,hj⟩:=hg i hi
   simp at e
   obtain ⟨r,j',e',hr,hm',hj'⟩:=Iq hdep hg hS n (k+1) (by omega) (by omega) (acc++[t]) j (by simp;omega) (by
     intro x hx;simp at hx;rcases hx with hx | rfl
     · exact hm x hx
     · exact mt) hj
   simp at e'
   refine ⟨r,j',?_,hr,hm',hj'⟩
   rw [g27L0e]
   have h1:(dep:Int)+1-1=dep:=by omega
   simp (disch:=omega) [-getElem?_pos,g27B0,hk,aI,h1,e,hb]
   rw [e']
theorem g27_0 {L:List Int} (hL:Sm L) {ds:List Dt} {lv:List Ty} (hlv:Sm lv):pa L ds lv 0:=by
 intro i hi
 obtain ⟨k,j1,e1,k0,k7,hj1⟩:=c68 hL hi (n:=7) (by omega) (by omega)
 simp at e1
 unfold Sm at hlv
 by_cases h1:k<3
 · by_cases h2:lv=[]
   · subst h2
     refine ⟨hZ,j1,?_,.int,hj1⟩
     have c:=c34
     simp at c
     rw [aT (af:=g27) rfl (by simp [g27])]
     simp [-getElem?_pos,g27,e1,h1,c,hZ]
   · have hp:0<lv.length:=List.length_pos_iff.2 h2
     obtain ⟨r,j2,e2,r0,r1,hj2⟩:=c68 hL hj1 (n:=lv.length) (by omega) (by omega)
     obtain ⟨m,rfl,hm⟩:=Hm r0 r1
     obtain ⟨x,hx⟩:=eg hm
     simp at e2
     refine ⟨x,j2,?_,.leaf (ej hx),hj2⟩
     rw [aT (af:=g27) rfl (by simp [g27])]
     simp [-getElem?_pos,g27,e1,h1,hp,e2,hx]
 · refine ⟨hZ,j1,?_,.int,hj1⟩
   have c:=c34
   simp at c
   rw [aT (af:=g27) rfl (by simp [g27])]
   simp [-getElem?_pos,g27,e1,h1,c,hZ]
theorem g27_s {L:List Int} (hL:Sm L) {ds:List Dt} (hds:ds.length≤20) (hda:∀d∈ds,d.params.length≤8) {lv:List Ty} (hlv:Sm lv) {dep:Nat} (hdep:dep<1000) (hg:pa L ds lv dep):pa L ds lv (dep+1):=by
 intro i hi
 obtain ⟨k,j1,e1,k0,k7,hj1⟩:=c68 hL hi (n:=7) (by omega) (by omega)
 simp at e1
 unfold Sm at hlv
 have hd1:¬((dep:Int)+1<1):=by omega
 have hd2:(dep:Int)+1-1=dep:=by omega
 have leafCase:∀h1:k<3,∀h2:¬lv=[],∃(t:Ty) (j:Nat),(aC AP).i 27 [.aO 0 0,.pv (.aF (ds.map Dt.pv)),.pv (.aF (lv.map Ty.pv)),.pv (vI ((dep+1:Nat):Int))] (tp L i) []=some ([t.av],tp L j,[])∧fg (·∈ds) lv (dep+1) t∧j≤L.length:=by
   intro h1 h2
   have hp:0<lv.length:=List.length_pos_iff.2 h2
   obtain ⟨r,j2,e2,r0,r1,hj2⟩:=c68 hL hj1 (n:=lv.length) (by omega) (by omega)
   obtain ⟨m,rfl,hm⟩:=Hm r0 r1
   obtain ⟨x,hx⟩:=eg hm
   simp at e2
   refine ⟨x,j2,?_,.leaf (ej hx),hj2⟩
   rw [aT (af:=g27) rfl (by simp [g27])]
   simp [-getElem?_pos,g27,e1,h1,hp,e2,hx]
 by_cases h1:k<3∧¬lv=[]
 · exact leafCase h1.1 h1.2
 · have h1':¬k<3∨lv=[]:=by
     by_cases h:k<3
     · right;by_cases h':lv=[]
       · exact h'
       · exact absurd ⟨h,h'⟩ h1
     · exact .inl h
   by_cases h2:k<4
   · refine ⟨hZ,j1,?_,.int,hj1⟩
     have c:=c34
     simp at c
     rw [aT (af:=g27) rfl (by simp [g27])]
     rcases h1' with h | h
     · simp [-getElem?_pos,g27,e1,h,h2,c,hZ]
     · subst h
       simp [-getElem?_pos,g27,e1,h2,c,hZ]
   · have h3:¬k<3:=by omega
     by_cases h4:(k=4∨k=5)∧¬ds=[]
     · obtain ⟨h4,h5⟩:=h4
       have hp:0<ds.length:=List.length_pos_iff.2 h5
       obtain ⟨r,j2,e2,r0,r1,hj2⟩:=c68 hL hj1 (n:=ds.length) (by omega) (by omega)
       obtain ⟨m,rfl,hm⟩:=Hm r0 r1
       obtain ⟨d,hx⟩:=eg hm
       simp at e2
       have hdm:=ej hx
       have hps:Sm d.params:=by
         unfold Sm
         have:=hda d hdm
         omega
       obtain ⟨as,j3,e3,ha,hm3,hj3⟩:=Iq hdep hg hps d.params.length 0 rfl (by omega) [] j2 rfl (by simp) hj2
       rw [g27L0e] at e3
       simp at e3
       have hsa:Sm as:=by unfold Sm at hps ⊢;omega
       have c:=c62 (s:=d.name) (l:=as) hsa
       simp at c
       refine ⟨⟨4,d.name,0,0,as⟩,j3,?_,.Gn hdm ha hm3,hj3⟩
       rw [aT (af:=g27) rfl (by simp [g27])]
       rcases h4 with rfl | rfl
       · simp [-getElem?_pos,g27,e1,hp,hd1,e2,hx,g27L0e,e3,c]
       · simp [-getElem?_pos,g27,e1,hp,hd1,e2,hx,g27L0e,e3,c]
     · obtain ⟨a,j2,ea,ma,hj2⟩:=hg j1 hj1
       obtain ⟨b,j3,eb,mb,hj3⟩:=hg j2 hj2
       simp at ea eb
       have c:=c69 (a:=a) (b:=b)
       simp at c
       refine ⟨⟨4,[45,62],0,0,[a,b]⟩,j3,?_,.arrow ma mb,hj3⟩
       rw [aT (af:=g27) rfl (by simp [g27])]
       by_cases h5:ds=[]
       · subst h5
         simp at ea eb
         simp (disch:=omega) [-getElem?_pos,g27,e1,h2,h3,hd1,hd2,aI,ea,eb,c]
       · have h6:¬k=4∧¬k=5:=by
           constructor
           · intro h;exact h4 ⟨.inl h,h5⟩
           · intro h;exact h4 ⟨.inr h,h5⟩
         simp (disch:=omega) [-getElem?_pos,g27,e1,h2,h3,h6.1,h6.2,hd1,hd2,aI,ea,eb,c]
theorem Hs {L:List Int} (hL:Sm L) {ds:List Dt} (hds:ds.length≤20) (hda:∀d∈ds,d.params.length≤8) {lv:List Ty} (hlv:Sm lv):∀dep:Nat,dep<1000→pa L ds lv dep
 | 0,_=>g27_0 hL hlv
 | dep+1,h=>g27_s hL hds hda hlv (by omega) (Hs hL hds hda hlv dep (by omega))
theorem fg.ok {D:Dt→Prop} (hD:∀d,D d→d.params.length≤8) {lv:List Ty} (h:∀t∈lv,t.args=[]) {n:Nat} {t:Ty} (m:fg D lv n t):t.Ok:=by
 induction m with
 | leaf hl=>exact r6 (h _ hl)
 | int=>exact r6 rfl
 | Gn hd hl _ ih=>exact ⟨by have:=hD _ hd;unfold Sm;simp;omega,ih⟩
 | arrow _ _ ha hb=>exact ⟨by simp [Sm],by intro x hx;simp at hx;rcases hx with rfl | rfl<;>assumption⟩
theorem yj {f:Ty→List Ty} {b:Nat}:∀{l:List Ty},(∀x∈l,(f x).length≤b)→(l.flatMap f).length≤l.length*b
 | [],_=>by simp
 | a::r,h=>by
   have h1:=h a (by simp)
   have h2:=yj (f:=f) (b:=b) (l:=r) (fun x hx=>h x (by simp [hx]))
   simp only [List.flatMap_cons,List.length_append,List.length_cons,Nat.add_mul]
   omega
theorem fg.small {D:Dt→Prop} (hD:∀d,D d→d.params.length≤8) {lv:List Ty} (h:∀t∈lv,t.args=[]) {n:Nat} {t:Ty} (m:fg D lv n t):t.nodes.length≤9 ^ n:=by
 have one:∀n:Nat,1≤9 ^ n:=fun n=>Nat.one_le_pow n 9 (by decide)
 induction m with
 | leaf hl=>rw [Ty.bE,h _ hl];simpa using one _
 | int=>rw [Ty.bE];simpa [hZ] using one _
 | @Gn n d args hd hl _ ih=>
   rw [Ty.bE]
   have h1:=yj (f:=Ty.nodes) (l:=args) ih
   have h2:=hD _ hd
   have h3:=one n
   have h4:args.length*9 ^ n≤8*9 ^ n:=Nat.mul_le_mul_right _ (by omega)
   simp only [List.length_cons,Nat.pow_succ]
   omega
 | @arrow n a b _ _ ha hb=>
   rw [Ty.bE]
   have h3:=one n
   simp only [List.length_cons,List.flatMap_cons,List.flatMap_nil,List.append_nil,List.length_append,Nat.pow_succ]
   omega
theorem fg.made {D:Dt→Prop} (hD:∀d,D d→d∈cn) {lv:List Ty} {n:Nat} {t:Ty} (m:fg D lv n t):Made (·∈lv) t:=by
 induction m with
 | leaf hl=>exact .leaf hl
 | int=>exact .int
 | Gn hd hl _ ih=>exact .Gn (hD _ hd) hl ih
 | arrow _ _ ha hb=>exact .arrow ha hb
end Go.Ab.Lw
namespace Go.Ab.Lw
open Ev
def JE (t:Ty):List AV:=[.pv (vI t.kind),.pv (.str t.name),.pv (vI t.id),.pv (vI t.home),.pv (.aF (t.args.map Ty.pv))]
@[simp] theorem I6 (t:Ty):JE t=[.pv (vI t.kind),.pv (.str t.name),.pv (vI t.id),.pv (vI t.home),.pv (.aF (t.args.map Ty.pv))]:=rfl
end Go.Ab.Lw
namespace Go.Ab.Lw
structure Eu (E:Type) where
 pos:Int
 Gn:List UInt8
 vars:List (List UInt8)
 body:E
structure Ex where
 kind:Int
 pos:Int
 name:List UInt8
 num:Int
 kids:List Ex
 JF:List (Eu Ex)
 ty:Ty
abbrev Ar:=Eu Ex
def JG:Ty:=⟨0,[],0,0,[]⟩
instance:Inhabited Ex:=⟨⟨0,0,[],0,[],[],JG⟩⟩
instance:Inhabited Ar:=⟨⟨0,[],[],default⟩⟩
def Ty.cells (t:Ty):List PV:=[.int .i64 t.kind,.str t.name,.int .i64 t.id,.int .i64 t.home,.aF (t.args.map Ty.pv)]
mutual
def Ex.cells:Ex→List PV
 | ⟨k,p,n,m,ks,as,t⟩=>.int .i64 k::.int .i64 p::.str n::.int .i64 m::.aF (Ex.cM ks)::.aF (Ex.Jo as)::t.cells
def Ex.cM:List Ex→List PV
 | []=>[]
 | e::r=>.agg (Ex.cells e)::Ex.cM r
def Ex.Jo:List (Eu Ex)→List PV
 | []=>[]
 | ⟨p,c,v,b⟩::r=>.agg (.int .i64 p::.str c::.aF (v.map .str)::Ex.cells b)::Ex.Jo r
end
end Go.Ab.Lw
namespace Go.Ab.Lw
open Ev
section
variable {α:Type} {f:α→List PV} {sz:Nat}
def JH (f:α→List PV) (l:List α):List AV:=l.flatMap fun x=>(f x).map .pv
end
abbrev nn (k:Nat):Sh:=List.replicate k none
end Go.Ab.Lw
namespace Go.Ab.Lw
open Ev
def hS (X:Sh) (l:List Ex):Sh:=if l=[] then X else X++[some (JH Ex.cells l)]
end Go.Ab.Lw
namespace Go.Ab.Lw
open Ev
theorem yk {α:Type} {l:List α} {f:α→Nat} {x:α} (h:x∈l):f x≤(l.map f).sum:=by
 induction l with
 | nil=>cases h
 | cons a r ih=>
   simp only [List.map_cons,List.sum_cons]
   rcases List.mem_cons.1 h with rfl | h
   · omega
   · have:=ih h;omega
end Go.Ab.Lw
namespace Go.Ab.Lw
open Ev
def ym:Nat→List Nat→Nat
 | m,[]=>m
 | m,d::r=>ym (max m (1+d)) r
theorem Ew {B:Nat}:∀{l:List Nat} {m:Nat},m≤B→(∀d∈l,1+d≤B)→ym m l≤B
 | [],_,h,_=>h
 | d::r,m,h,hl=>Ew (l:=r) (m:=max m (1+d)) (Nat.max_le.2 ⟨h,hl d (by simp)⟩) fun x hx=>hl x (by simp [hx])
def Ty.dp (t:Ty):Nat:=ym 0 (t.args.attach.map fun x=>x.1.dp)
termination_by SizeOf.sizeOf t
decreasing_by
 have:=_root_.List.sizeOf_lt_of_mem x.2
 cases t
 simp at *
 omega
theorem Ty.Ey (t:Ty):t.dp=ym 0 (t.args.map Ty.dp):=by
 rw [Ty.dp,List.map_attach_eq_pmap,List.pmap_eq_map]
end Go.Ab.Lw
namespace Go.Ab.Lw
open Ev
theorem Jp {ch:List Ty} (hN:ch.length≤1000000000000000000) (hB:∀x∈ch,x.dp≤100000000) (ih:∀x∈ch,(aC AP).p 51 [x.pv]=some [vI x.dp]):∀(n i:Nat),ch.length-i=n→i≤ch.length→∀m:Nat,m≤100000001 →
   cl AP g51L0 ⟨[(3,.pv (vI m)),(7,.pv (.aF (ch.map Ty.pv))),(8,.pv (vI ch.length)),(9,.pv (vI i))],[],[],[]⟩ =
     some (.exit 0,⟨[(3,.pv (vI (ym m ((ch.drop i).map Ty.dp):Nat))),(7,.pv (.aF (ch.map Ty.pv))),(8,.pv (vI ch.length)),(9,.pv (vI ch.length)),(10,.pv (.bool false))],[],[],[]⟩)
 | 0,i,hn,hi,m,hm=>by
   have:i=ch.length:=by omega
   subst this
   rw [g51L0e]
   simp [g51B0,ym]
 | n+1,i,hn,hi,m,hm=>by
   have hi:i<ch.length:=by omega
   obtain ⟨x,hx⟩:=eg hi
   have k:=ih x (ej hx)
   have hb:=hB x (ej hx)
   have e:=Jp hN hB ih n (i+1) (by omega) (by omega) (max m (1+x.dp)) (by omega)
   rw [dv hx,List.map_cons]
   simp only [ym]
   generalize ym (max m (1+x.dp)) ((ch.drop (i+1)).map Ty.dp)=M at *
   generalize hd:x.dp=d at *
   rw [g51L0e] at e ⊢
   simp at k e
   by_cases q:m<1+d
   · have q1:(m:Int)<1+d:=by omega
     rw [Nat.max_eq_right (by omega)] at e
     simp at e
     simp (disch:=omega) [-getElem?_pos,g51B0,hx,hi,k,aI,q1]
     rw [g51L0e]
     simp [e]
   · have q1:¬(m:Int)<1+d:=by omega
     rw [Nat.max_eq_left (by omega)] at e
     simp (disch:=omega) [-getElem?_pos,g51B0,hx,hi,k,aI,q1]
     rw [g51L0e]
     simp [e]
theorem iB {t x:Ty} (h:x∈t.args):x.nodes.length<t.nodes.length:=by
 have:=yk (f:=fun y:Ty=>y.nodes.length) h
 have h2:t.nodes.length=1+(t.args.map fun y=>y.nodes.length).sum:=by
   rw [Ty.bE,List.length_cons,List.length_flatMap]
   omega
 omega
theorem Ty.Gq (t:Ty):t.dp<t.nodes.length:=by
 refine Ty.fH (p:=fun t=>t.dp<t.nodes.length) ?_ t
 intro t ih
 rw [Ty.Ey]
 have hp:1≤t.nodes.length:=by cases t;rw [Ty.nodes];simp
 have:ym 0 (t.args.map Ty.dp)≤t.nodes.length-1:=Ew (by omega) (by
   intro d hd
   rw [List.mem_map] at hd
   obtain ⟨x,hx,rfl⟩:=hd
   have h1:=ih x hx
   have h2:=iB hx
   omega)
 omega
theorem c51 (t:Ty):t.Ok→t.nodes.length≤100000000→(aC AP).p 51 [t.pv]=some [vI t.dp]:=by
 refine Ty.fH (p:=fun t=>t.Ok→t.nodes.length≤100000000→(aC AP).p 51 [t.pv]=some [vI t.dp]) ?_ t
 intro t ih ho hs
 have hN:t.args.length≤1000000000000000000:=by have:=ho.sm;unfold Sm at this;omega
 rw [az (af:=g51) rfl rfl (by decide)]
 rw [Ty.Ey]
 have e1:=Jp hN (fun x hx=>by have:=x.Gq;have:=iB hx;omega) (fun x hx=>ih x hx (ho.uL x hx) (by have:=iB hx;omega)) _ 0 rfl (by omega) 0 (by omega)
 rw [List.drop_zero] at e1
 generalize ym 0 (t.args.map Ty.dp)=M at *
 rw [g51L0e] at e1
 simp at e1
 simp [g51,g51L0e,e1]
def d0 (t:Ty):List AV:=[.pv (vI t.kind),.pv (.str t.name),.pv (vI t.id),.pv (vI t.home),.pv (.aF (t.args.map Ty.pv))]
theorem Jq {t:Ty} {ch:List Ty} (hch:ch=t.args) (hN:ch.length≤1000000000000000000) (hB:∀x∈ch,x.dp≤100000000) (ih:∀x∈ch,(aC AP).p 52 [x.pv]=some [vI x.dp]):∀(n i:Nat),ch.length-i=n→i≤ch.length→∀m:Nat,m≤100000001 →
   cl AP g52L0 ⟨[(1,.bg 1 0),(3,.pv (vI m)),(4,.pv (vI i))],[(1,d0 t)],[],[]⟩ =
     some (.exit 0,⟨[(1,.bg 1 0),(3,.pv (vI (ym m ((ch.drop i).map Ty.dp):Nat))),(4,.pv (vI ch.length)),(9,.pv (.bool false))],[(1,d0 t)],[],[]⟩)
 | 0,i,hn,hi,m,hm=>by
   have:i=ch.length:=by omega
   subst this
   rw [g52L0e]
   simp [g52B0,ym,d0,hch]
 | n+1,i,hn,hi,m,hm=>by
   have hi:i<ch.length:=by omega
   obtain ⟨x,hx⟩:=eg hi
   have k:=ih x (ej hx)
   have hb:=hB x (ej hx)
   have e:=Jq hch hN hB ih n (i+1) (by omega) (by omega) (max m (1+x.dp)) (by omega)
   rw [dv hx,List.map_cons]
   simp only [ym]
   generalize ym (max m (1+x.dp)) ((ch.drop (i+1)).map Ty.dp)=M at *
   generalize hd:x.dp=d at *
   subst hch
   rw [g52L0e] at e ⊢
   simp [d0] at k e
   by_cases q:m<1+d
   · have q1:(m:Int)<1+d:=by omega
     rw [Nat.max_eq_right (by omega)] at e
     simp [d0] at e
     simp (disch:=omega) [-getElem?_pos,g52B0,d0,hx,hi,k,aI,q1]
     rw [g52L0e]
     simp [e]
   · have q1:¬(m:Int)<1+d:=by omega
     rw [Nat.max_eq_left (by omega)] at e
     simp (disch:=omega) [-getElem?_pos,g52B0,d0,hx,hi,k,aI,q1]
     rw [g52L0e]
     simp [e]
theorem c52 (t:Ty):t.Ok→t.nodes.length≤100000000→(aC AP).p 52 [t.pv]=some [vI t.dp]:=by
 refine Ty.fH (p:=fun t=>t.Ok→t.nodes.length≤100000000→(aC AP).p 52 [t.pv]=some [vI t.dp]) ?_ t
 intro t ih ho hs
 have hN:t.args.length≤1000000000000000000:=by have:=ho.sm;unfold Sm at this;omega
 rw [az (af:=g52) rfl rfl (by decide)]
 rw [Ty.Ey]
 have e1:=Jq (t:=t) rfl hN (fun x hx=>by have:=x.Gq;have:=iB hx;omega) (fun x hx=>ih x hx (ho.uL x hx) (by have:=iB hx;omega)) _ 0 rfl (by omega) 0 (by omega)
 rw [List.drop_zero] at e1
 generalize ym 0 (t.args.map Ty.dp)=M at *
 rw [g52L0e] at e1
 simp [d0] at e1
 simp [g52,g52L0e,e1]
end Go.Ab.Lw
namespace Go.Ab.Lw
open Ev
def mS (t:Ty):Prop:=t.nodes.length≤4611686018427387904
theorem Jr {t:Ty} (hS:Sm t.args) (h:∀x∈t.args,mS x→(aC AP).p 49 [x.pv]=some [vI x.nodes.length]):∀(n i:Nat),t.args.length-i=n→i≤t.args.length→∀a:Nat,a+((t.args.drop i).flatMap Ty.nodes).length≤4611686018427387904 →
   cl AP g49L0 ⟨[(3,.pv (vI a)),(7,.pv (.aF (t.args.map Ty.pv))),(8,.pv (vI t.args.length)),(9,.pv (vI i))],[],[],[]⟩ =
     some (.exit 0,⟨[(3,.pv (vI (a+((t.args.drop i).flatMap Ty.nodes).length:Nat))),(7,.pv (.aF (t.args.map Ty.pv))),(8,.pv (vI t.args.length)),(9,.pv (vI t.args.length)),(10,.pv (.bool false))],[],[],[]⟩)
 | 0,i,hn,hi,a,ha=>by
   have:i=t.args.length:=by omega
   subst this
   rw [g49L0e]
   simp [g49B0]
 | n+1,i,hn,hi,a,ha=>by
   have hi:i<t.args.length:=by omega
   obtain ⟨x,hx⟩:=eg hi
   unfold Sm at hS
   rw [dv hx,List.flatMap_cons,List.length_append] at ha
   have k:=h x (ej hx) (by unfold mS;omega)
   have ih:=Jr hS h n (i+1) (by omega) (by omega) (a+x.nodes.length) (by omega)
   rw [g49L0e] at ih ⊢
   rw [dv hx,List.flatMap_cons,List.length_append]
   generalize ((t.args.drop (i+1)).flatMap Ty.nodes).length=q at ih ha ⊢
   generalize x.nodes.length=b at ih ha k ⊢
   have e1:((a:Int)+b+q)=a+(b+q):=by omega
   simp at ih k
   rw [e1] at ih
   simp (disch:=omega) [-getElem?_pos,g49B0,hx,hi,k,aI]
   rw [g49L0e]
   simp [ih]
theorem c49 {t:Ty} (hO:t.Ok) (hf:mS t):(aC AP).p 49 [t.pv]=some [vI t.nodes.length]:=by
 revert hO hf
 refine Ty.fH (p:=fun t=>t.Ok→mS t→(aC AP).p 49 [t.pv]=some [vI t.nodes.length]) ?_ t
 intro t ih hO hf
 unfold mS at hf
 rw [Ty.bE] at hf ⊢
 simp only [List.length_cons] at hf ⊢
 have h:=Jr hO.sm (fun x hx=>ih x hx (hO.uL x hx)) _ 0 rfl (by omega) 1 (by simp only [List.drop_zero];omega)
 rw [g49L0e] at h
 simp only [List.drop_zero] at h
 generalize (t.args.flatMap Ty.nodes).length=q at h ⊢
 rw [az (af:=g49) rfl rfl (by decide)]
 have e:((1:Int)+q)=q+1:=by omega
 simp [e] at h
 simp [g49,g49L0e,h]
end Go.Ab.Lw
namespace Go.Ab.Lw
open Ev
theorem Js {t:Ty} (hS:Sm t.args) (h:∀x∈t.args,mS x→(aC AP).p 50 [x.pv]=some [vI x.nodes.length]):∀(n i:Nat),t.args.length-i=n→i≤t.args.length→∀a:Nat,a+((t.args.drop i).flatMap Ty.nodes).length≤4611686018427387904 →
   cl AP g50L0 ⟨[(1,.bg 1 0),(3,.pv (vI a)),(4,.pv (vI i))],[(1,d0 t)],[],[]⟩ =
     some (.exit 0,⟨[(1,.bg 1 0),(3,.pv (vI (a+((t.args.drop i).flatMap Ty.nodes).length:Nat))),(4,.pv (vI t.args.length)),(9,.pv (.bool false))],[(1,d0 t)],[],[]⟩)
 | 0,i,hn,hi,a,ha=>by
   have:i=t.args.length:=by omega
   subst this
   rw [g50L0e]
   simp [g50B0,d0]
 | n+1,i,hn,hi,a,ha=>by
   have hi:i<t.args.length:=by omega
   obtain ⟨x,hx⟩:=eg hi
   unfold Sm at hS
   rw [dv hx,List.flatMap_cons,List.length_append] at ha
   have k:=h x (ej hx) (by unfold mS;omega)
   have ih:=Js hS h n (i+1) (by omega) (by omega) (a+x.nodes.length) (by omega)
   rw [g50L0e] at ih ⊢
   rw [dv hx,List.flatMap_cons,List.length_append]
   generalize ((t.args.drop (i+1)).flatMap Ty.nodes).length=q at ih ha ⊢
   generalize x.nodes.length=b at ih ha k ⊢
   have e1:((a:Int)+b+q)=a+(b+q):=by omega
   simp [d0] at ih k
   rw [e1] at ih
   simp (disch:=omega) [-getElem?_pos,g50B0,d0,hx,hi,k,aI]
   rw [g50L0e]
   simp [ih]
theorem c50 {t:Ty} (hO:t.Ok) (hf:mS t):(aC AP).p 50 [t.pv]=some [vI t.nodes.length]:=by
 revert hO hf
 refine Ty.fH (p:=fun t=>t.Ok→mS t→(aC AP).p 50 [t.pv]=some [vI t.nodes.length]) ?_ t
 intro t ih hO hf
 unfold mS at hf
 rw [Ty.bE] at hf ⊢
 simp only [List.length_cons] at hf ⊢
 have h:=Js hO.sm (fun x hx=>ih x hx (hO.uL x hx)) _ 0 rfl (by omega) 1 (by simp only [List.drop_zero];omega)
 rw [g50L0e] at h
 simp only [List.drop_zero] at h
 generalize (t.args.flatMap Ty.nodes).length=q at h ⊢
 rw [az (af:=g50) rfl rfl (by decide)]
 have e:((1:Int)+q)=q+1:=by omega
 simp [e,d0] at h
 simp [g50,g50L0e,h]
def lY (id:Int) (t:Ty):Bool:=t.nodes.any fun x=>decide (x.kind=1) && decide (x.id=id)
theorem F5 (id:Int) (t:Ty):lY id t=(decide (t.kind=1) && decide (t.id=id) || t.args.any (lY id)):=by
 have e:t.args.any (lY id)=t.args.any fun t=>t.nodes.any fun x=>decide (x.kind=1) && decide (x.id=id):=rfl
 rw [e]
 unfold lY
 rw [Ty.bE,List.any_cons,List.any_flatMap]
theorem c53 {id:Int} {t:Ty} (hO:t.Ok):(aC AP).p 53 [vI id,t.pv]=some [.bool (lY id t)]:=by
 revert hO
 refine Ty.fH (p:=fun t=>t.Ok→(aC AP).p 53 [vI id,t.pv]=some [.bool (lY id t)]) ?_ t
 intro t ih hO
 have hc:=c75 hO.sm (sh:=[some [.pv (vI id)]]) (by intro cs h;simp at h;subst h;simp) (g:=94) (cap:=[.aO 0 0]) (p:=lY id) rfl rfl rfl (fun _ _=>rfl) rfl (by
   intro x hx
   have hx':=ih x hx (hO.uL x hx)
   simp at hx'
   rw [aT (af:=g94) rfl (by simp [g94])]
   simp [g94,hx'])
 rw [F5]
 generalize t.args.any (lY id)=b at *
 rw [az (af:=g53) rfl rfl (by decide)]
 by_cases h1:t.kind=1
 · by_cases h2:t.id=id
   · cases b<;>simp [g53,h1,h2]
   · cases b<;>simp [g53,h1,h2,hc]
 · cases b<;>simp [g53,h1,hc]
theorem I7 {l:List Ty} {w:Int}:w∈vars l↔∃y∈l.flatMap Ty.nodes,y.kind=1∧y.id=w:=by
 unfold vars
 have key:∀(l:List Ty) (out:List Int),w∈l.foldl dn out↔w∈out∨∃y∈l,y.kind=1∧y.id=w:=by
   intro l
   induction l with
   | nil=>intro out;simp
   | cons a r ih=>
     intro out
     rw [List.foldl_cons,ih]
     unfold dn
     constructor
     · rintro (h | ⟨y,hy,h⟩)
       · split at h
         · rename_i e
           rcases List.mem_append.1 h with h | h
           · exact .inl h
           · simp at h;exact .inr ⟨a,by simp,e.1,h.symm⟩
         · exact .inl h
       · exact .inr ⟨y,by simp [hy],h⟩
     · rintro (h | ⟨y,hy,h1,h2⟩)
       · left;split
         · simp [h]
         · exact h
       · rcases List.mem_cons.1 hy with rfl | hy
         · left;split
           · simp [h2]
           · rename_i e
             by_cases q:y.id∈out
             · rw [←h2];exact q
             · exact absurd ⟨h1,q⟩ e
         · exact .inr ⟨y,hy,h1,h2⟩
 rw [key]
 simp
theorem F6 {id:Int} {t:Ty}:decide (id∈vars [t])=lY id t:=by
 rw [Bool.eq_iff_iff,decide_eq_true_eq,I7]
 unfold lY
 simp
theorem c54 {id:Int} {t:Ty} (hO:t.Ok) (hW:t.Wf) (hn:t.nodes.length≤100000000):(aC AP).p 54 [vI id,t.pv]=some [.bool (lY id t)]:=by
 have hok:∀x∈t.nodes,x.Ok:=by
   revert hO
   refine Ty.fH (p:=fun t=>t.Ok→∀x∈t.nodes,x.Ok) ?_ t
   intro t ih hO x hx
   rw [Ty.bE] at hx
   rcases List.mem_cons.1 hx with rfl | hx
   · exact hO
   · obtain ⟨y,hy,hx⟩:=List.mem_flatMap.1 hx
     exact ih y hy (hO.uL y hy) x hx
 have k:=c56 (S:=t.nodes) (by omega) hok (l:=[t]) (by simp [Sm]) (by simpa using hO) (by intro x hx;simp at hx;exact lX hx)
 rw [o_ (by simpa using hW)] at k
 have hl:(vars [t]).length≤t.nodes.length:=by
   have h1:(vars [t]).Nodup∧∀x∈vars [t],x∈t.nodes.map Ty.id:=by
     have:=ji.fold (S:=t.nodes.map Ty.id) (l:=[t].flatMap Ty.nodes) (out:=[]) (o8 (by rw [List.length_map];omega)) (by
       intro x hx _
       simp at hx
       exact List.mem_map.2 ⟨x,hx,rfl⟩)
     exact ⟨this.nodup,this.sub⟩
   have:=iA h1.1 h1.2
   simpa using this
 have k2:=c95 (s:=vars [t]) (by unfold Sm;omega) (y:=id)
 rw [F6] at k2
 generalize vars [t]=v at *
 simp at k
 rw [az (af:=g54) rfl rfl (by decide)]
 simp [g54,k,k2]
end Go.Ab.Lw
namespace Go.Ab.Lw
open Ev
noncomputable def eZ (out:List Ty) (x:Ty):List Ty:=if x.kind=3∧x∉out then out++[x] else out
theorem cD.eZ {S out:List Ty} (h:cD S out) {x:Ty} (hx:x.kind=3→x∈S):cD S (eZ out x):=by
 unfold Lw.eZ
 split
 · rename_i e
   refine ⟨?_,?_,h.HA,h.ok⟩
   · rw [List.nodup_append]
     refine ⟨h.nodup,by simp,?_⟩
     intro a ha b hb
     simp at hb;subst hb
     rintro rfl;exact e.2 ha
   · intro y hy
     simp at hy
     rcases hy with hy | rfl
     · exact h.sub y hy
     · exact hx e.1
 · exact h
theorem cD.yU {S:List Ty}:∀{l:List Ty} {out:List Ty},cD S out→(∀x∈l,x.kind=3→x∈S)→cD S (l.foldl Lw.eZ out)
 | [],_,h,_=>h
 | x::r,out,h,hx=>by
   simp only [List.foldl_cons]
   exact cD.yU (h.eZ (hx x (by simp))) (fun y hy=>hx y (by simp [hy]))
def nd (out:List Ty):Sh:=[some [.own (out.map Ty.pv) 0]]
def pg (out:List Ty) (x:Ty):Sh:=[some [.own (out.map Ty.pv) 0],some [.pv (vI x.kind),.pv (.str x.name),.pv (vI x.id),.pv (vI x.home),.pv (.aF (x.args.map Ty.pv))]]
theorem c101 {out:List Ty} {x y:Ty} (hx:x.Ok):(aC AP).i 101 [.pv y.pv,.aO 1 0] (pg out x) [out.length]=some ([.pv (.bool (decide (x=y)))],pg out x,[out.length]):=by
 have k:=c33e (a:=x) (b:=y) hx
 generalize decide (x=y)=b at *
 simp at k
 rw [aT (af:=g101) rfl (by simp [g101])]
 simp [g101,pg,k]
def qI (out:List Ty) (x:Ty) (i:Nat):Option Nat→Option (aG×St)
 | some k=>some (.ret,⟨[(4,.pv (vI (i+k:Nat)))],[],[some [.own (out.map Ty.pv) 1],some [.pv (vI x.kind),.pv (.str x.name),.pv (vI x.id),.pv (vI x.home),.pv (.aF (x.args.map Ty.pv))]],[out.length+1,out.length]⟩)
 | none=>some (.exit 0,⟨[(0,.pv (.aF (out.map Ty.pv))),(1,.fn 101 [.aO 1 0]),(7,.pv (vI out.length)),(8,.pv (vI out.length)),(9,.pv (.bool false))],[],pg out x,[out.length]⟩)
theorem Gr {out:List Ty} (hS:Sm out) {x:Ty} (hx:x.Ok):∀(n i:Nat),out.length-i=n→i≤out.length →
   cl AP g107L0 ⟨[(0,.pv (.aF (out.map Ty.pv))),(1,.fn 101 [.aO 1 0]),(7,.pv (vI out.length)),(8,.pv (vI i))],[],pg out x,[out.length]⟩=qI out x i (e7 (fun y=>decide (x=y)) (out.drop i))
 | 0,i,hn,hi=>by
   have:i=out.length:=by omega
   subst this
   rw [g107L0e]
   simp [g107B0,e7,qI,pg]
 | n+1,i,hn,hi=>by
   have hi:i<out.length:=by omega
   obtain ⟨y,hy⟩:=eg hi
   unfold Sm at hS
   have ih:=Gr hS hx n (i+1) (by omega) (by omega)
   have hc:=c101 (out:=out) (y:=y) hx
   rw [dv hy]
   rw [g107L0e] at ih ⊢
   simp [pg] at ih hc
   by_cases e:x=y
   · subst e
     rw [decide_eq_true rfl] at hc
     simp (disch:=omega) [-getElem?_pos,g107B0,hy,hi,e7,qI,pg,hc]
   · rw [decide_eq_false e] at hc
     simp (disch:=omega) [-getElem?_pos,g107B0,hy,hi,e7,aI,pg,hc,e]
     rw [g107L0e]
     simp [ih]
     cases e7 (fun y=>decide (x=y)) (out.drop (i+1)) with
     | none=>rfl
     | some k=>simp [qI,pg];omega
theorem c75r {out:List Ty} (hS:Sm out) {x:Ty} (hx:x.Ok):(aC AP).i 75 [.pv (.aF (out.map Ty.pv)),.fn 101 [.aO 1 0]] (pg out x) [out.length]=some ([.pv (.bool (decide (x∈out)))],pg out x,[out.length]):=by
 have h:=Gr hS hx _ 0 rfl (by omega)
 rw [List.drop_zero] at h
 have c107:(aC AP).i 107 [.pv (.aF (out.map Ty.pv)),.fn 101 [.aO 1 0]] (pg out x) [out.length]=some ([.pv (vI (uO (e7 (fun y=>decide (x=y)) out)))],pg out x,[out.length]):=by
   rw [aT (af:=g107) rfl (by simp [g107])]
   rw [g107L0e] at h
   cases hi:e7 (fun y=>decide (x=y)) out with
   | none=>rw [hi] at h;simp [qI,pg] at h;simp [g107,g107L0e,h,pg,uO]
   | some k=>rw [hi] at h;simp [qI,pg] at h;simp [g107,g107L0e,h,pg,uO]
 rw [←yS,←uP]
 rw [aT (af:=g75) rfl (by simp [g75])]
 simp [pg] at c107
 simp [g75,c107,pg]
theorem c100 {S out:List Ty} (h:cD S out) {x:Ty} (hx:x.Ok):(aC AP).i 100 [.pv x.pv,.aO 0 0] (nd out) [out.length]=some ([],nd (eZ out x),[(eZ out x).length]):=by
 have hl:=h.len
 have k:=c75r hl hx
 unfold Sm at hl
 have hb:(out.length+1)*64≤140737488355328:=by omega
 have hh:aQ 5 (out.map Ty.pv)=true:=Ih.head out
 rw [aT (af:=g100) rfl (by simp [g100])]
 by_cases e1:x.kind=3
 · by_cases e2:x∈out
   · rw [decide_eq_true e2] at k
     simp [pg,e1] at k
     simp [g100,nd,eZ,e1,e2,k,hh]
   · rw [decide_eq_false e2] at k
     simp [pg,e1] at k
     simp [g100,nd,eZ,e1,e2,k,hb,hh]
 · simp [g100,nd,eZ,e1]
end Go.Ab.Lw
namespace Go.Ab.Lw
open Ev
structure Sl where
 bd:Bool
 ty:Ty
 home:Int
 base:Bool
def Sl.pv (x:Sl):PV:=.agg [.bool x.bd,vI x.ty.kind,.str x.ty.name,vI x.ty.id,vI x.ty.home,.aF (x.ty.args.map Ty.pv),vI x.home,.bool x.base]
@[simp] theorem Sl.oT (x:Sl):x.pv=.agg [.bool x.bd,.int .i64 x.ty.kind,.str x.ty.name,.int .i64 x.ty.id,.int .i64 x.ty.home,.aF (x.ty.args.map Ty.pv),.int .i64 x.home,.bool x.base]:=rfl
structure Ch where
 id:Int
 aB:Sl
 nw:Bool
def Ch.pv (x:Ch):PV:=.agg [vI x.id,.bool x.aB.bd,vI x.aB.ty.kind,.str x.aB.ty.name,vI x.aB.ty.id,vI x.aB.ty.home,.aF (x.aB.ty.args.map Ty.pv),vI x.aB.home,.bool x.aB.base,.bool x.nw]
@[simp] theorem Ch.oT (x:Ch):x.pv=.agg [.int .i64 x.id,.bool x.aB.bd,.int .i64 x.aB.ty.kind,.str x.aB.ty.name,.int .i64 x.aB.ty.id,.int .i64 x.aB.ty.home,.aF (x.aB.ty.args.map Ty.pv),.int .i64 x.aB.home,.bool x.aB.base,.bool x.nw]:=rfl
structure IG where
 sl:List Sl
 tr:List Ch
def IG.pv (s:IG):PV:=.agg [.aF (s.sl.map Sl.pv),.aF (s.tr.map Ch.pv)]
@[simp] theorem IG.oT (s:IG):s.pv=.agg [.aF (s.sl.map Sl.pv),.aF (s.tr.map Ch.pv)]:=rfl
end Go.Ab.Lw
namespace Go.Ab.Lw
open Ev
theorem Jt {S:List Ty} {l:List Ty} (hS:Sm l) (hO:∀t∈l,t.Ok) (hk:∀x∈l.flatMap (Ty.fu 3),x∈S):∀(n i:Nat),l.length-i=n→i≤l.length→∀out,cD S out →
   cl AP g59L0 ⟨[(0,.pv (.aF (l.map Ty.pv))),(3,.own (out.map Ty.pv) 0),(4,.pv (vI i))],[],[],[out.length]⟩ =
     some (.exit 0,⟨[(0,.pv (.aF (l.map Ty.pv))),(3,.own ((((l.drop i).flatMap (Ty.fu 3)).foldl eC out).map Ty.pv) 0),(4,.pv (vI l.length)),(8,.pv (.bool false))],[],[],[(((l.drop i).flatMap (Ty.fu 3)).foldl eC out).length]⟩)
 | 0,i,hn,hi,out,hc=>by
   have:i=l.length:=by omega
   subst this
   rw [g59L0e]
   simp [g59B0]
 | n+1,i,hn,hi,out,hc=>by
   have hi:i<l.length:=by omega
   obtain ⟨x,hx⟩:=eg hi
   unfold Sm at hS
   have hkx:∀y∈x.fu 3,y∈S:=fun y hy=>hk y (by simp only [List.mem_flatMap];exact ⟨x,ej hx,hy⟩)
   have k:=c99 (kd:=3) (hO x (ej hx)) hkx out hc
   have ih:=Jt hS hO hk n (i+1) (by omega) (by omega) _ (hc.fold hkx)
   rw [g59L0e] at ih ⊢
   rw [dv hx]
   simp at k ih
   simp (disch:=omega) [-getElem?_pos,g59B0,hx,hi,k,aI]
   rw [g59L0e]
   simp [ih]
end Go.Ab.Lw
namespace Go.Ab.Lw
open Ev
theorem Ir {S:List Ty} {t:Ty} (hS:Sm t.args) (h:∀x∈t.args,∀out,cD S out→(aC AP).i 96 [.pv x.pv,.fn 100 [.aO 0 0]] (nd out) [out.length]=some ([],nd (x.nodes.foldl eZ out),[(x.nodes.foldl eZ out).length]))
   (hk:∀x∈t.args.flatMap Ty.nodes,x∈S):∀(n i:Nat),t.args.length-i=n→i≤t.args.length→∀out,cD S out →
   cl AP g96L0 ⟨[(1,.fn 100 [.aO 0 0]),(10,.pv (.aF (t.args.map Ty.pv))),(11,.pv (vI t.args.length)),(12,.pv (vI i))],[],nd out,[out.length]⟩ =
     some (.exit 0,⟨[(1,.fn 100 [.aO 0 0]),(10,.pv (.aF (t.args.map Ty.pv))),(11,.pv (vI t.args.length)),(12,.pv (vI t.args.length)),(13,.pv (.bool false))],[],nd (((t.args.drop i).flatMap Ty.nodes).foldl eZ out),[(((t.args.drop i).flatMap Ty.nodes).foldl eZ out).length]⟩)
 | 0,i,hn,hi,out,hc=>by
   have:i=t.args.length:=by omega
   subst this
   rw [g96L0e]
   simp [g96B0,nd]
 | n+1,i,hn,hi,out,hc=>by
   have hi:i<t.args.length:=by omega
   obtain ⟨x,hx⟩:=eg hi
   unfold Sm at hS
   have hkx:∀y∈x.nodes,y∈S:=fun y hy=>hk y (by simp only [List.mem_flatMap];exact ⟨x,ej hx,hy⟩)
   have k:=h x (ej hx) out hc
   have ih:=Ir hS h hk n (i+1) (by omega) (by omega) _ (hc.yU (fun y hy _=>hkx y hy))
   rw [g96L0e] at ih ⊢
   rw [dv hx]
   simp [nd] at k ih
   simp (disch:=omega) [-getElem?_pos,g96B0,nd,hx,hi,k,aI]
   rw [g96L0e]
   simp [ih]
theorem c96r {S:List Ty} {t:Ty} (hO:t.Ok) (hk:∀x∈t.nodes,x∈S):∀out,cD S out →
   (aC AP).i 96 [.pv t.pv,.fn 100 [.aO 0 0]] (nd out) [out.length]=some ([],nd (t.nodes.foldl eZ out),[(t.nodes.foldl eZ out).length]):=by
 revert hO hk
 refine Ty.fH (p:=fun t=>t.Ok→(∀x∈t.nodes,x∈S)→∀out,cD S out →
   (aC AP).i 96 [.pv t.pv,.fn 100 [.aO 0 0]] (nd out) [out.length]=some ([],nd (t.nodes.foldl eZ out),[(t.nodes.foldl eZ out).length])) ?_ t
 intro t ih hO hk out hc
 rw [Ty.bE] at hk ⊢
 have k:=c100 hc hO
 have h:=Ir (S:=S) hO.sm (fun x hx out hc=>ih x hx (hO.uL x hx) (fun y hy=>hk y (by simp only [List.mem_cons,List.mem_flatMap];exact .inr ⟨x,hx,hy⟩)) out hc) (fun x hx=>hk x (by simp only [List.mem_cons];exact .inr hx)) _ 0 rfl (by omega) _ (hc.eZ (fun _=>hk t (by simp)))
 rw [aT (af:=g96) rfl (by simp [g96])]
 rw [g96L0e] at h
 simp [nd] at k h
 simp [g96,g96L0e,nd,k,h]
noncomputable def pb (l:List Ty):List Ty:=(l.flatMap Ty.nodes).foldl eZ []
theorem Ju {S:List Ty} {l:List Ty} (hS:Sm l) (hO:∀t∈l,t.Ok) (hk:∀x∈l.flatMap Ty.nodes,x∈S):∀(n i:Nat),l.length-i=n→i≤l.length→∀out,cD S out →
   cl AP g58L0 ⟨[(3,.aO 0 0),(6,.pv (.aF (l.map Ty.pv))),(7,.pv (vI l.length)),(8,.pv (vI i))],[],nd out,[out.length]⟩ =
     some (.exit 0,⟨[(3,.aO 0 0),(6,.pv (.aF (l.map Ty.pv))),(7,.pv (vI l.length)),(8,.pv (vI l.length)),(9,.pv (.bool false))],[],nd (((l.drop i).flatMap Ty.nodes).foldl eZ out),[(((l.drop i).flatMap Ty.nodes).foldl eZ out).length]⟩)
 | 0,i,hn,hi,out,hc=>by
   have:i=l.length:=by omega
   subst this
   rw [g58L0e]
   simp [g58B0,nd]
 | n+1,i,hn,hi,out,hc=>by
   have hi:i<l.length:=by omega
   obtain ⟨x,hx⟩:=eg hi
   unfold Sm at hS
   have hkx:∀y∈x.nodes,y∈S:=fun y hy=>hk y (by simp only [List.mem_flatMap];exact ⟨x,ej hx,hy⟩)
   have k:=c96r (hO x (ej hx)) hkx out hc
   have ih:=Ju hS hO hk n (i+1) (by omega) (by omega) _ (hc.yU (fun y hy _=>hkx y hy))
   rw [g58L0e] at ih ⊢
   rw [dv hx]
   simp [nd] at k ih
   simp (disch:=omega) [-getElem?_pos,g58B0,nd,hx,hi,k,aI]
   rw [g58L0e]
   simp [ih]
theorem c58 {S:List Ty} (hf:S.length<1099511627776) (hSo:∀x∈S,x.Ok) {l:List Ty} (hS:Sm l) (hO:∀t∈l,t.Ok) (hk:∀x∈l.flatMap Ty.nodes,x∈S):(aC AP).p 58 [.aF (l.map Ty.pv)]=some [.aF ((pb l).map Ty.pv)]:=by
 have h:=Ju hS hO hk _ 0 rfl (by omega) [] ⟨by simp,by simp,hf,hSo⟩
 rw [az (af:=g58) rfl rfl (by decide)]
 rw [g58L0e] at h
 simp [nd] at h
 simp [g58,g58L0e,h,pb]
theorem c59e {S:List Ty} (hf:S.length<1099511627776) (hSo:∀x∈S,x.Ok) {l:List Ty} (hS:Sm l) (hO:∀t∈l,t.Ok) (hk:∀x∈l.flatMap (Ty.fu 3),x∈S):(aC AP).p 59 [.aF (l.map Ty.pv)]=some [.aF (((l.flatMap (Ty.fu 3)).foldl eC []).map Ty.pv)]:=by
 have h:=Jt hS hO hk _ 0 rfl (by omega) [] ⟨by simp,by simp,hf,hSo⟩
 rw [az (af:=g59) rfl rfl (by decide)]
 rw [g59L0e] at h
 simp at h
 simp [g59,g59L0e,h]
theorem pc {t:Ty} (h:cp t=true) {k:Int} (hk:k≠4):∀x∈t.nodes,x.kind=k→x.args=[]:=by
 revert h
 refine Ty.fH (p:=fun t=>cp t=true→∀x∈t.nodes,x.kind=k→x.args=[]) ?_ t
 intro t ih h x hx e
 rw [eM] at h
 rw [Ty.bE] at hx
 rcases List.mem_cons.1 hx with rfl | hx
 · split at h
   · simp at h;exact h.1.1.1.2
   · split at h
     · simp at h;exact h.1.1.1.1.2
     · split at h
       · simp at h;exact h.1.1.1
       · split at h
         · rename_i q;exact absurd (e.symm.trans q) hk
         · cases h
 · obtain ⟨y,hy,hx⟩:=List.mem_flatMap.1 hx
   split at h
   · simp at h;rw [h.1.1.1.2] at hy;cases hy
   · split at h
     · simp at h;rw [h.1.1.1.1.2] at hy;cases hy
     · split at h
       · simp at h;rw [h.1.1.1] at hy;cases hy
       · split at h
         · simp at h
           exact ih y hy (h.2 y hy) x hx e
         · cases h
theorem F7 {t:Ty} (h:∀x∈t.nodes,x.kind=3→x.args=[]):∀out,t.nodes.foldl eZ out=(t.fu 3).foldl eC out:=by
 revert h
 refine Ty.fH (p:=fun t=>(∀x∈t.nodes,x.kind=3→x.args=[])→∀out,t.nodes.foldl eZ out=(t.fu 3).foldl eC out) ?_ t
 intro t ih h out
 have flat:∀(as:List Ty),(∀x∈as,x∈t.args)→∀out,(as.flatMap Ty.nodes).foldl eZ out=(as.flatMap (Ty.fu 3)).foldl eC out:=by
   intro as
   induction as with
   | nil=>intro _ _;rfl
   | cons a r ihr=>
     intro hh out
     simp only [List.flatMap_cons,List.foldl_append]
     rw [ih a (hh a (by simp)) (fun x hx=>h x (by rw [Ty.bE];exact List.mem_cons_of_mem _ (List.mem_flatMap.2 ⟨a,hh a (by simp),hx⟩))),ihr (fun x hx=>hh x (by simp [hx]))]
 rw [Ty.bE,Ty.o9]
 by_cases e:t.kind=3
 · have ea:=h t (by rw [Ty.bE];simp) e
   simp [e,ea,eZ,eC]
 · have:eZ out t=out:=by simp [eZ,e]
   simp only [List.foldl_cons,this]
   rw [if_neg (fun h=>e h.1)]
   exact flat t.args (fun _ h=>h) out
theorem F8 {l:List Ty} (h:∀t∈l,cp t=true):pb l=(l.flatMap (Ty.fu 3)).foldl eC []:=by
 unfold pb
 have:∀(l:List Ty),(∀t∈l,cp t=true)→∀out,(l.flatMap Ty.nodes).foldl eZ out=(l.flatMap (Ty.fu 3)).foldl eC out:=by
   intro l
   induction l with
   | nil=>intro _ _;rfl
   | cons a r ih=>
     intro h out
     simp only [List.flatMap_cons,List.foldl_append]
     rw [F7 (pc (h a (by simp)) (by decide)),ih (fun t ht=>h t (by simp [ht]))]
 exact this l h []
theorem uT {t:Ty} (h:cp t=true):t.Wf:=by
 revert h
 refine Ty.fH (p:=fun t=>cp t=true→t.Wf) ?_ t
 intro t ih h
 refine ⟨fun e=>pc h (k:=1) (by decide) t (by rw [Ty.bE];simp) e,fun x hx=>ih x hx ?_⟩
 rw [eM] at h
 split at h
 · simp at h;rw [h.1.1.1.2] at hx;cases hx
 · split at h
   · simp at h;rw [h.1.1.1.1.2] at hx;cases hx
   · split at h
     · simp at h;rw [h.1.1.1] at hx;cases hx
     · split at h
       · simp at h
         exact h.2 x hx
       · cases h
theorem B8 (t:Ty):∀l:Int,0<l→0<j5 t l→j5 t l+t.nodes.length≤l:=by
 refine Ty.fH (p:=fun t=>∀l:Int,0<l→0<j5 t l→j5 t l+t.nodes.length≤l) ?_ t
 intro t ih l hl hp
 rw [rX] at hp ⊢
 have key:∀(as:List Ty),(∀x∈as,∀l:Int,0<l→0<j5 x l→j5 x l+x.nodes.length≤l)→∀l:Int,0<oX as l→oX as l+(as.flatMap Ty.nodes).length≤l:=by
   intro as
   induction as with
   | nil=>intro _ l h;simp [oX]
   | cons a r ihr=>
     intro h l hp
     simp only [oX] at hp ⊢
     split at hp
     · rename_i h0
       rw [if_pos h0]
       have h1:=rY a l h0
       have h3:0<j5 a l:=by
         have:=yh r (j5 a l) h1.1
         omega
       have h4:=h a (by simp) l h0 h3
       have h5:=ihr (fun x hx=>h x (by simp [hx])) (j5 a l) hp
       rw [List.flatMap_cons,List.length_append]
       omega
     · omega
 have:=key t.args ih (l-1) (by omega)
 rw [Ty.bE,List.length_cons]
 omega
end Go.Ab.Lw
namespace Go.Ab.Lw
open Ev
theorem c25m {L:List Int} (hL:Sm L) (bits:Int):∃(ds:List Dt) (t:Ty) (j:Nat),(aC AP).i 25 [.pv (vI bits),.pv (.aF (L.map vI))] [] []=some ([t.av,.aO 0 0],tp L j,[])∧(∀d∈ds,d∈cn)∧fg (·∈ds) ft 4 t∧j≤L.length:=by
 obtain ⟨ds,ed,hda,hds⟩:=c32 bits
 obtain ⟨t,j,e,mt,hj⟩:=Hs hL (ds:=ds) (by omega) (fun d hd=>by have:=iY _ (hda d hd);omega) (lv:=ft) (by simp [Sm,ft,dK,i9]) 4 (by omega) 0 (by omega)
 have k1:=c28i (sh:=tp L 0) rT (fun _=>rfl)
 have k2:=c67
 refine ⟨ds,t,j,?_,hda,mt,hj⟩
 have e0:ft.map Ty.pv=dK.map Ty.pv++i9.map Ty.pv:=by simp [ft]
 have hz:aQ 5 (dK.map Ty.pv)=true:=qD
 have hz':aQ 5 (i9.map Ty.pv)=true:=qD
 have l1:dK.length=8:=rfl
 have l2:i9.length=3:=rfl
 rw [e0] at e
 simp at e k1 ed
 rw [aT (af:=g25) rfl (by simp [g25])]
 simp [-getElem?_pos,g25,ed,k1,k2,e,hz,hz',l1,l2]
structure B9 (t:Ty):Prop where
 ok:t.Ok
 v:cp t=true
 n:t.nodes.length≤10000
theorem Is {id:Int} {c4 c9 c11:Ty} {l:List Ty} (hl:l.length≤10) (hM:∀t∈l,B9 t) {sh:Sh} (hq:Calm sh) (hs:∀n,ew n sh=sh):∀(n i:Nat),l.length-i=n→i≤l.length →
   cl AP g12L0 ⟨[(3,.pv (vI id)),(4,.bg 4 0),(9,.bg 9 0),(11,.bg 11 0),(43,.own (l.map Ty.pv) 0),(44,.pv (vI l.length)),(45,.pv (vI i))],[(4,d0 c4),(9,d0 c9),(11,d0 c11)],sh,[l.length]⟩ =
     some (.exit 0,⟨[(3,.pv (vI id)),(4,.bg 4 0),(9,.bg 9 0),(11,.bg 11 0),(43,.own (l.map Ty.pv) 0),(44,.pv (vI l.length)),(45,.pv (vI l.length)),(46,.pv (.bool false))],[(4,d0 c4),(9,d0 c9),(11,d0 c11)],sh,[l.length]⟩)
 | 0,i,hn,hi=>by
   have:i=l.length:=by omega
   subst this
   unfold Calm at hq
   rw [g12L0e]
   simp [g12B0,hq,d0]
 | n+1,i,hn,hi=>by
   have hi:i<l.length:=by omega
   obtain ⟨x,hx⟩:=eg hi
   have hx':=hM x (ej hx)
   have hn':=hx'.n
   have hw:=uT hx'.v
   have ih:=Is (id:=id) (c4:=c4) (c9:=c9) (c11:=c11) hl hM hq hs n (i+1) (by omega) (by omega)
   obtain ⟨r,er,r0,r5⟩:=c26 (n:=id) (m:=5) (by omega) (by omega)
   have k1:=c49 hx'.ok (by unfold mS;omega)
   have k2:=c50 hx'.ok (by unfold mS;omega)
   have k3:=c51 x hx'.ok (by omega)
   have k4:=c52 x hx'.ok (by omega)
   have k5:=c53 (id:=id) hx'.ok
   have k6:=c54 (id:=id) hx'.ok hw (by omega)
   have k7:=c53 (id:=r) hx'.ok
   have k8:=c54 (id:=r) hx'.ok hw (by omega)
   unfold Calm at hq
   rw [g12L0e] at ih ⊢
   generalize x.nodes.length=nn at *
   generalize x.dp=dd at *
   generalize lY id x=b1 at *
   generalize lY r x=b2 at *
   simp [hq,d0] at ih k1 k2 k3 k4 k5 k6 k7 k8 er
   simp (disch:=omega) [-getElem?_pos,g12B0,hx,hi,hq,d0,aI,k1,k2,k3,k4,k5,k6,k7,k8,er]
   rw [g12L0e]
   simp [ih,hq,d0]
theorem Iu {c9 c11:Ty} {v:List Int} (hl:v.length≤1000000) {sh:Sh} (hq:Calm sh) (hs:∀n,ew n sh=sh):∀(n i:Nat),v.length-i=n→i≤v.length →
   cl AP g12L1 ⟨[(9,.bg 9 0),(11,.bg 11 0),(14,.pv (.aF (v.map vI))),(15,.pv (.aF (v.map vI))),(16,.pv (vI i))],[(9,d0 c9),(11,d0 c11)],sh,[]⟩ =
     some (.exit 2,⟨[(9,.bg 9 0),(11,.bg 11 0),(14,.pv (.aF (v.map vI))),(15,.pv (.aF (v.map vI))),(16,.pv (vI v.length)),(100,.pv (.bool false))],[(9,d0 c9),(11,d0 c11)],sh,[]⟩)
 | 0,i,hn,hi=>by
   have:i=v.length:=by omega
   subst this
   unfold Calm at hq
   rw [g12L1e]
   simp [g12B1,hq,d0]
 | n+1,i,hn,hi=>by
   have hi:i<v.length:=by omega
   obtain ⟨x,hx⟩:=eg hi
   have ih:=Iu (c9:=c9) (c11:=c11) hl hq hs n (i+1) (by omega) (by omega)
   unfold Calm at hq
   rw [g12L1e] at ih ⊢
   simp [hq,d0] at ih
   simp (disch:=omega) [-getElem?_pos,g12B1,hx,hi,hq,d0,aI]
   rw [g12L1e]
   simp [ih,hq,d0]
theorem B_ {t:Ty} (hO:t.Ok):∀x∈t.nodes,x.Ok:=by
 revert hO
 refine Ty.fH (p:=fun t=>t.Ok→∀x∈t.nodes,x.Ok) ?_ t
 intro t ih hO x hx
 rw [Ty.bE] at hx
 rcases List.mem_cons.1 hx with rfl | hx
 · exact hO
 · obtain ⟨y,hy,hx⟩:=List.mem_flatMap.1 hx
   exact ih y hy (hO.uL y hy) x hx
theorem B9.all {l:List Ty} (hl:l.length≤10) (h:∀t∈l,B9 t):(l.flatMap Ty.nodes).length≤100000∧(∀t∈l,t.Ok)∧∀x∈l.flatMap Ty.nodes,x.Ok:=by
 refine ⟨?_,fun t ht=>(h t ht).ok,fun x hx=>?_⟩
 · have:=yj (f:=Ty.nodes) (b:=10000) (l:=l) fun x hx=>(h x hx).n
   have:=Nat.mul_le_mul_right 10000 hl
   omega
 · obtain ⟨t,ht,hx⟩:=List.mem_flatMap.1 hx
   exact B_ (h t ht).ok x hx
theorem B' {l:List Ty} (hl:l.length≤10) (h:∀t∈l,B9 t):(aC AP).p 55 [.aF (l.map Ty.pv)]=some [.aF ((vars l).map vI)]∧(aC AP).p 56 [.aF (l.map Ty.pv)]=some [.aF ((vars l).map vI)]∧(vars l).length≤1000000:=by
 obtain ⟨h1,h2,h3⟩:=B9.all hl h
 have k1:=c55 (S:=(l.flatMap Ty.nodes).map Ty.id) (by rw [List.length_map];omega) (l:=l) (by unfold Sm;omega) h2 (fun x hx _=>List.mem_map.2 ⟨x,hx,rfl⟩)
 have k2:=c56 (S:=l.flatMap Ty.nodes) (by omega) h3 (l:=l) (by unfold Sm;omega) h2 (by
   intro x hx
   obtain ⟨t,ht,hx⟩:=List.mem_flatMap.1 hx
   exact List.mem_flatMap.2 ⟨t,ht,lX hx⟩)
 rw [o_ fun t ht=>uT (h t ht).v] at k2
 refine ⟨k1,k2,?_⟩
 have:=ji.fold (S:=(l.flatMap Ty.nodes).map Ty.id) (l:=l.flatMap Ty.nodes) (out:=[]) (o8 (by rw [List.length_map];omega)) (fun x hx _=>List.mem_map.2 ⟨x,hx,rfl⟩)
 have:=iA this.nodup this.sub
 rw [List.length_map] at this
 unfold vars
 omega
theorem Ca {l:List Ty} (hl:l.length≤10) (h:∀t∈l,B9 t):(aC AP).p 58 [.aF (l.map Ty.pv)]=some [.aF ((pb l).map Ty.pv)]∧(aC AP).p 59 [.aF (l.map Ty.pv)]=some [.aF ((pb l).map Ty.pv)]∧(aC AP).p 57 [.aF ((pb l).map Ty.pv),.aF ((pb l).map Ty.pv)]=some [.bool true]:=by
 obtain ⟨h1,h2,h3⟩:=B9.all hl h
 have k1:=c58 (S:=l.flatMap Ty.nodes) (by omega) h3 (l:=l) (by unfold Sm;omega) h2 (fun x hx=>hx)
 have k2:=c59e (S:=l.flatMap Ty.nodes) (by omega) h3 (l:=l) (by unfold Sm;omega) h2 (by
   intro x hx
   obtain ⟨t,ht,hx⟩:=List.mem_flatMap.1 hx
   exact List.mem_flatMap.2 ⟨t,ht,lX hx⟩)
 rw [←F8 fun t ht=>(h t ht).v] at k2
 have hc:=cD.yU (S:=l.flatMap Ty.nodes) (l:=l.flatMap Ty.nodes) (out:=[]) ⟨by simp,by simp,by omega,h3⟩ (fun x hx _=>hx)
 have k3:=c57 (as:=pb l) (bs:=pb l) hc.len (fun x hx y=>c20 (h3 x (hc.sub x hx)))
 exact ⟨k1,k2,by simpa using k3⟩
end Go.Ab.Lw
namespace Go.Ab.Lw
open Ev
theorem Iv (raw:Ty) (rn:raw.Nm) (bits:Int) (L:List Int) (id:Int):(aC AP).p 12 [raw.pv,vI bits,.aF (L.map vI),vI id]=some [.bool true]:=by
 have c0:=c23
 have s1:=c24 (t:=raw)
 have c1:=c15 (l:=L)
 simp at s1
 rw [az (af:=g12) rfl rfl (by decide)]
 by_cases h1:0<j5 raw 61
 · by_cases hL:L.length≤60
   · have hLs:Sm L:=by unfold Sm;omega
     have ro:=Hq raw 61 (by omega) (by omega) h1
     have rnn:=B8 raw 61 (by omega) h1
     have v1:=c31 ro rn
     obtain ⟨r,er⟩:∃r,r=if cp raw=true then raw else hZ:=⟨_,rfl⟩
     have hr:B9 r:=by
       rw [er]
       split
       · rename_i q;exact ⟨ro,q,by omega⟩
       · exact ⟨r6 rfl,by rw [eM];decide +kernel,by simp [hZ,Ty.bE]⟩
     rw [←er] at v1
     obtain ⟨ds0,t,j,e,hd0,mt,hj⟩:=c25m hLs bits
     obtain ⟨ds,ed,hda,hds⟩:=c32 bits
     obtain ⟨u,j2,e2,mu,hj2⟩:=Hs hLs (ds:=ds) (by omega) (fun d hd=>by have:=iY _ (hda d hd);omega) (lv:=dK) (by simp [Sm,dK]) 3 (by omega) j hj
     have k2:=c28
     have p0:∀d,d∈ds0→d.params.length≤8:=fun d hd=>by have:=iY _ (hd0 d hd);omega
     have p1:∀d,d∈ds→d.params.length≤8:=fun d hd=>by have:=iY _ (hda d hd);omega
     have ht:B9 t:=⟨mt.ok p0 gl,(mt.made hd0).valid oY,by have:=mt.small p0 gl;omega⟩
     have hu:B9 u:=⟨mu.ok p1 (fun x hx=>gl x (lW x hx)),(mu.made hda).valid (fun x hx=>oY x (lW x hx)),by have:=mu.small p1 (fun x hx=>gl x (lW x hx));omega⟩
     have all3:∀x∈[r,t,u],B9 x:=by
       intro x hx;simp at hx
       rcases hx with rfl | rfl | rfl<;>assumption
     have all3b:∀x∈[t,u,r],B9 x:=by
       intro x hx;simp at hx
       rcases hx with rfl | rfl | rfl<;>assumption
     have Hp:∀x∈[t,u],B9 x:=by
       intro x hx;simp at hx
       rcases hx with rfl | rfl<;>assumption
     have w1:=Is (id:=id) (c4:=r) (c9:=t) (c11:=u) (l:=[r,t,u]) (by simp) all3 (sh:=tp L j2) rT (fun _=>rfl) 3 0 rfl (by simp)
     obtain ⟨w2,w3,w4⟩:=B' (l:=[t,u,r]) (by simp) all3b
     have w5:=Iu (c9:=t) (c11:=u) (v:=vars [t,u,r]) w4 (sh:=tp L j2) rT (fun _=>rfl) _ 0 rfl (by omega)
     obtain ⟨w6,w7,w8⟩:=Ca (l:=[t,u]) (by simp) Hp
     generalize vars [t,u,r]=v at *
     generalize pb [t,u]=rg at *
     rw [g12L0e] at w1
     rw [g12L1e] at w5
     simp [d0] at v1 e ed e2 w1 w2 w3 w5 w6 w7
     simp [h1] at s1
     simp [hL] at c1
     simp [g12,c0,s1,c1,v1,e,ed,k2,e2,g12L0e,w1,w2,w3,g12L1e,w5,w6,w7,w8]
   · simp [h1] at s1
     simp [hL] at c1
     simp [g12,c0,s1,c1]
 · simp [h1] at s1
   simp [g12,c0,s1]
end Go.Ab.Lw
