import Derived.Test.YthcoecdbgdhihaaGreatDoorCodeA
import Derived.KernelRfl
/-
  The program's data.
  The makers: what their functions Jf.
  The makers: what their functions Jf.
  The data declarations that programs are made of: what the reader makes of their text.
  The makers: data declarations, chosen by bits.
  The makers: types and substitutions off the tape.
  Types and substitutions: what replaces variables.
  Types: rebuilding with new leaves.
  Types and substitutions: the program's replacing, finding, composing.
  Substitutions: composing; equality of types and of substitutions.
  The order of types.
  Chapter 13: the plain laws, and the law that composition composes.
  Chapter 13: equality of substitutions; the laws SubstAssociates and SubstEqual.
  Functions of package slices over any elements.
  Names, and which types are valid.
  Names of the program, and which types are valid.
  Which types are valid.
  Contexts: their entries; looking names up.
  slices.EqualFunc and slices.Clip over any elements.
  What the pure data of a parameter looks Qs.
  Chapter 3: what its laws make; the laws TypesValid and TypesEqual.
  The variables of types, by the program and by the reference.
  The reference's variables of types; they are the program's.
  Contexts: schemes, adding, hidden entries; what law 19 makes.
  Law 19 makes contexts; the law EnvironLooks.
  The maker of types over any list of data types.
  Correct types in declarations.
  Expressions.
  slices.DeleteFunc over an array of texts that may be written.
  Arrays of structs in shared memory: their cells one behind the other.
  Expressions: children, the part at a path, and the names that are bound.
  Chapter 3: opening.
  Contexts: their free variables; the law EnvironSeen.
  Types by the kinds of their nodes.
  How many nodes an expression has; expressions whose texts are known.
  slices.DeleteFunc over an array of texts that may be written: all of it.
  scope.Visible: one step inward.
  The names that are visible at a path.
  The holes of an expression.
  The holes of an expression, by the reference; the same of programs.
  Raw expressions: what the maker gives.
  The maker of raw expressions.
  Texts of types, by the program (over any table of functions that knows the package show) and by the reference.
  The maker of raw expressions: cases; all depths.
  Texts of expressions: the parts.
  Texts of expressions: all of them.
  The reference's store of type variables: what it looks Qs, bound variables, walks.
  The reference's store: sizes and resolved types.
  The reference's store: resolving, new variables, changes.
  Chapter 13: valid and idempotent substitutions.
  The reference's store: a slot is set.
  The reference's unifier: arrows, rigid constants, variables of a store, joining.
  The reference's store: acyclic stores.
  The reference's store: a finder La.
  The reference's store: a finder finds every variable that is reached and not bound.
  Expressions: other children.
  Chapter 9: where a constructor is.
  Scopes: to which declaration aE belong.
  Scopes: the errors of a case itself, by the reference.
  Scopes: the errors of a case itself, by the program.
  Scopes: the first error of an expression.
  Positions are numbered.
  The reference's store: the variables of a type.
  The reference's unifier: joining two variables.
  The reference's unifier: joining two variables, the walk.
-/
set_option linter.unusedVariables false
set_option linter.unusedSimpArgs false
set_option linter.unnecessarySimpa false
set_option maxRecDepth 100000
set_option maxHeartbeats 8000000
namespace Go.Ab.Lw
structure Ty where
 kind:Int
 name:List UInt8
 id:Int
 home:Int
 args:List Ty
 deriving Inhabited
noncomputable instance:DecidableEq Ty:=fun _ _=>Classical.propDecidable _
mutual
def Ty.pv:Ty→PV
 |⟨k,n,i,h,as⟩=>.agg [.int .i64 k,.str n,.int .i64 i,.int .i64 h,.au (Ty.cV as)]
def Ty.cV:List Ty→List PV
 |[]=>[]
 |a::r=>a.pv::Ty.cV r
end
theorem Ty.o5:∀l:List Ty,Ty.cV l=l.map Ty.pv
 |[]=>by simp[Ty.cV]
 |a::r=>by simp[Ty.cV,Ty.o5 r]
@[simp] theorem Ty.lZ(t:Ty):t.pv=.agg [.int .i64 t.kind,.str t.name,.int .i64 t.id,.int .i64 t.home,.au (t.args.map Ty.pv)]:=by
 cases t;simp only[Ty.pv,Ty.o5]
theorem Ty.dH{p:Ty→Prop}(h:∀t:Ty,(∀x∈t.args,p x)→p t):∀t,p t
 |⟨k,n,i,hm,as⟩=>h _ (fun x _hx=>Ty.dH h x)
termination_by t=>SizeOf.sizeOf t
decreasing_by have:=_root_.List.sizeOf_lt_of_mem _hx;simp at *;omega
structure df where
 pos:Int
 name:List UInt8
 fields:List Ty
 deriving Inhabited
structure Dt where
 pos:Int
 name:List UInt8
 params:List (List UInt8)
 cons:List df
 deriving Inhabited
def df.pv(c:df):PV:=.agg [.int .i64 c.pos,.str c.name,.au (c.fields.map Ty.pv)]
def Dt.pv(d:Dt):PV:=.agg [.int .i64 d.pos,.str d.name,.au (d.params.map .str),.au (d.cons.map df.pv)]
@[simp] theorem df.lZ(c:df):c.pv=.agg [.int .i64 c.pos,.str c.name,.au (c.fields.map Ty.pv)]:=rfl
@[simp] theorem Dt.lZ(d:Dt):d.pv=.agg [.int .i64 d.pos,.str d.name,.au (d.params.map .str),.au (d.cons.map df.pv)]:=rfl
structure As where
 id:Int
 ty:Ty
 deriving Inhabited
def As.pv(a:As):PV:=.agg [.int .i64 a.id,.int .i64 a.ty.kind,.str a.ty.name,.int .i64 a.ty.id,.int .i64 a.ty.home,.au (a.ty.args.map Ty.pv)]
@[simp] theorem As.lZ(a:As):a.pv=.agg [.int .i64 a.id,.int .i64 a.ty.kind,.str a.ty.name,.int .i64 a.ty.id,.int .i64 a.ty.home,.au (a.ty.args.map Ty.pv)]:=rfl
@[simp] theorem As.eta(t:As):As.mk t.id t.ty=t:=rfl
abbrev vI(n:Int):PV:=.int .i64 n
def tp(L:List Int)(i:Int):Sh:=[some [.pv (.au (L.map vI)),.pv (vI i)]]
@[simp] theorem Wi(L:List Int)(i:Int):tp L i=[some [.pv (.au (L.map vI)),.pv (vI i)]]:=rfl
def Sm{α:Type}(l:List α):Prop:=l.length<1099511627776
def yu{α:Type}(l:List α):Prop:=l.length≤9223372036854775807
@[simp] theorem VJ(n:Nat):((n:Int)<0)↔False:=by simp
@[simp] theorem Vh(n:Nat):((n:Int)+1<0)↔False:=by simp;omega
theorem bh{α:Type}{l:List α}{i:Nat}{x:α}(h:l[i]?=some x):l.drop i=x::l.drop (i+1):=by
 obtain⟨hi,rfl⟩:=List.getElem?_eq_some_iff.1 h;exact List.drop_eq_getElem_cons hi
theorem aV{α:Type}{l:List α}{i:Nat}(h:i<l.length):∃x,l[i]?=some x:=⟨_,List.getElem?_eq_getElem h⟩
theorem aR{α:Type}{l:List α}{i:Nat}{x:α}(h:l[i]?=some x):x∈l:=List.mem_of_getElem? h
theorem l0{α:Type}{l:List α}{i:Nat}(h:l.length≤i):l.drop i=[]:=List.drop_eq_nil_of_le h
open Ev
theorem c26{n m:Int}(h1:1≤m)(h2:m<4611686018427387904):∃r,(aC AP).p 26 [vI n,vI m]=some [vI r]∧0≤r∧r<m:=by
 rw[ae (af:=g26) rfl rfl (by decide)];have a1:=Int.tmod_lt_of_pos n (show 0<m by omega);have a2:=Int.lt_tmod_of_pos n (show 0<m by omega);have e1:¬m<1:=by omega
 have e2:¬m=0:=by omega
 by_cases h:n.tmod m<0
 ·refine⟨n.tmod m+m,?_,by omega,by omega⟩;simp (disch:=omega) [g26,e1,e2,h,ah]
 ·refine⟨n.tmod m,?_,by omega,by omega⟩;simp[g26,e1,e2,h]
theorem c63{n:Int}:(aC AP).p 63 [vI n]=some [(Ty.mk 1 [] n 0 []).pv]:=by
 rw[ae (af:=g63) rfl rfl (by decide)];simp[g63]
theorem c71{n m:Int}:(aC AP).p 71 [vI n,vI m]=some [(Ty.mk 3 [] m n []).pv]:=by
 rw[ae (af:=g71) rfl rfl (by decide)];simp[g71]
theorem c72{n:Int}:(aC AP).p 72 [vI n]=some [(Ty.mk 2 [] n 0 []).pv]:=by
 rw[ae (af:=g72) rfl rfl (by decide)];simp[g72]
theorem c62{s:List UInt8}{l:List Ty}(h:Sm l):(aC AP).p 62 [.str s,.au (l.map Ty.pv)]=some [(Ty.mk 4 s 0 0 l).pv]:=by
 unfold Sm at h;rw[ae (af:=g62) rfl rfl (by decide)];cases l with
 |nil=>simp[g62]
 |cons a r=>
   have:(r.length+1)*64≤140737488355328:=by simp at h;omega
   simp[g62,this]
theorem c34:(aC AP).p 34 []=some [(Ty.mk 4 [73,110,116] 0 0 []).pv]:=by
 rw[ae (af:=g34) rfl rfl (by decide)];have h:=c62 (s:=[73,110,116]) (l:=[]) (by simp[Sm]);simp at h;simp[g34,h]
theorem c69{a b:Ty}:(aC AP).p 69 [a.pv,b.pv]=some [(Ty.mk 4 [45,62] 0 0 [a,b]).pv]:=by
 rw[ae (af:=g69) rfl rfl (by decide)];have h:=c62 (s:=[45,62]) (l:=[a,b]) (by simp[Sm]);simp at h;simp[g69,h]
theorem c15{l:List Int}:(aC AP).p 15 [.au (l.map vI)]=some [.bool (decide (l.length≤60))]:=by
 rw[ae (af:=g15) rfl rfl (by decide)];simp[g15];omega
def bM(n:Int):Ty:=⟨1,[],n,0,[]⟩
def kP(h n:Int):Ty:=⟨3,[],n,h,[]⟩
def cv(n:Int):Ty:=⟨2,[],n,0,[]⟩
def a0:Ty:=⟨4,[73,110,116],0,0,[]⟩
def Ta:List UInt8:=[100,97,116,97,32,66,111,111,108,32,61,32,84,114,117,101,32,124,32,70,97,108,115,101,59,32,100,97,116,97,32,79,112,116,105,111,110,32,97,32,61,32,78,111,110,101,32,124,32,83,111,109,101,32,97,59,32,100,97,116,97,32,76,105,115,116,32,97,32,61,32,78,105,108,32,124,32,67,111,110,115,32,97,32,40,76,105,115,116,32,97,41,59,100,97,116,97,32,80,97,105,114,32,97,32,98,32,61,32,80,97,105,114,32,97,32,98,59,32,100,97,116,97,32,78,97,116,32,61,32,90,101,114,111,32,124,32,83,117,99,99,32,78,97,116,59,32,100,97,116,97,32,70,117,110,32,97,32,98,32,61,32,70,117,110,32,40,97,32,45,62,32,98,41,59,32,100,97,116,97,32,84,119,111,32,97,32,61,32,66,111,116,104,32,97,32,97,32,124,32,79,110,101,32,40,79,112,116,105,111,110,32,97,41,59]
def Pr:List PV:=[.au [.agg [.int .i64 4,.str [100,97,116,97],.int .i64 0],.agg [.int .i64 2,.str [66,111,111,108],.int .i64 5],.agg [.int .i64 5,.str [61],.int .i64 10],.agg [.int .i64 2,.str [84,114,117,101],.int .i64 12],.agg [.int .i64 5,.str [124],.int .i64 17],.agg [.int .i64 2,.str [70,97,108,115,101],.int .i64 19],.agg [.int .i64 5,.str [59],.int .i64 24],.agg [.int .i64 4,.str [100,97,116,97],.int .i64 26],.agg [.int .i64 2,.str [79,112,116,105,111,110],.int .i64 31],.agg [.int .i64 1,.str [97],.int .i64 38],.agg [.int .i64 5,.str [61],.int .i64 40],.agg [.int .i64 2,.str [78,111,110,101],.int .i64 42],.agg [.int .i64 5,.str [124],.int .i64 47],.agg [.int .i64 2,.str [83,111,109,101],.int .i64 49],.agg [.int .i64 1,.str [97],.int .i64 54],.agg [.int .i64 5,.str [59],.int .i64 55],.agg [.int .i64 4,.str [100,97,116,97],.int .i64 57],.agg [.int .i64 2,.str [76,105,115,116],.int .i64 62],.agg [.int .i64 1,.str [97],.int .i64 67],.agg [.int .i64 5,.str [61],.int .i64 69],.agg [.int .i64 2,.str [78,105,108],.int .i64 71],.agg [.int .i64 5,.str [124],.int .i64 75],.agg [.int .i64 2,.str [67,111,110,115],.int .i64 77],.agg [.int .i64 1,.str [97],.int .i64 82],.agg [.int .i64 5,.str [40],.int .i64 84],.agg [.int .i64 2,.str [76,105,115,116],.int .i64 85],.agg [.int .i64 1,.str [97],.int .i64 90],.agg [.int .i64 5,.str [41],.int .i64 91],.agg [.int .i64 5,.str [59],.int .i64 92],.agg [.int .i64 4,.str [100,97,116,97],.int .i64 93],.agg [.int .i64 2,.str [80,97,105,114],.int .i64 98],.agg [.int .i64 1,.str [97],.int .i64 103],.agg [.int .i64 1,.str [98],.int .i64 105],.agg [.int .i64 5,.str [61],.int .i64 107],.agg [.int .i64 2,.str [80,97,105,114],.int .i64 109],.agg [.int .i64 1,.str [97],.int .i64 114],.agg [.int .i64 1,.str [98],.int .i64 116],.agg [.int .i64 5,.str [59],.int .i64 117],.agg [.int .i64 4,.str [100,97,116,97],.int .i64 119],.agg [.int .i64 2,.str [78,97,116],.int .i64 124],.agg [.int .i64 5,.str [61],.int .i64 128],.agg [.int .i64 2,.str [90,101,114,111],.int .i64 130],.agg [.int .i64 5,.str [124],.int .i64 135],.agg [.int .i64 2,.str [83,117,99,99],.int .i64 137],.agg [.int .i64 2,.str [78,97,116],.int .i64 142],.agg [.int .i64 5,.str [59],.int .i64 145],.agg [.int .i64 4,.str [100,97,116,97],.int .i64 147],.agg [.int .i64 2,.str [70,117,110],.int .i64 152],.agg [.int .i64 1,.str [97],.int .i64 156],.agg [.int .i64 1,.str [98],.int .i64 158],.agg [.int .i64 5,.str [61],.int .i64 160],.agg [.int .i64 2,.str [70,117,110],.int .i64 162],.agg [.int .i64 5,.str [40],.int .i64 166],.agg [.int .i64 1,.str [97],.int .i64 167],.agg [.int .i64 5,.str [45,62],.int .i64 169],.agg [.int .i64 1,.str [98],.int .i64 172],.agg [.int .i64 5,.str [41],.int .i64 173],.agg [.int .i64 5,.str [59],.int .i64 174],.agg [.int .i64 4,.str [100,97,116,97],.int .i64 176],.agg [.int .i64 2,.str [84,119,111],.int .i64 181],.agg [.int .i64 1,.str [97],.int .i64 185],.agg [.int .i64 5,.str [61],.int .i64 187],.agg [.int .i64 2,.str [66,111,116,104],.int .i64 189],.agg [.int .i64 1,.str [97],.int .i64 194],.agg [.int .i64 1,.str [97],.int .i64 196],.agg [.int .i64 5,.str [124],.int .i64 198],.agg [.int .i64 2,.str [79,110,101],.int .i64 200],.agg [.int .i64 5,.str [40],.int .i64 204],.agg [.int .i64 2,.str [79,112,116,105,111,110],.int .i64 205],.agg [.int .i64 1,.str [97],.int .i64 212],.agg [.int .i64 5,.str [41],.int .i64 213],.agg [.int .i64 5,.str [59],.int .i64 214]],.agg [.int .i64 0,.int .i64 0]]
def bw:List Dt:=[⟨0,[66,111,111,108],[],[⟨12,[84,114,117,101],[]⟩,⟨19,[70,97,108,115,101],[]⟩]⟩,
 ⟨26,[79,112,116,105,111,110],[[97]],[⟨42,[78,111,110,101],[]⟩,⟨49,[83,111,109,101],[⟨5,[97],0,0,[]⟩]⟩]⟩,
 ⟨57,[76,105,115,116],[[97]],[⟨71,[78,105,108],[]⟩,⟨77,[67,111,110,115],[⟨5,[97],0,0,[]⟩,⟨4,[76,105,115,116],0,0,[⟨5,[97],0,0,[]⟩]⟩]⟩]⟩,
 ⟨93,[80,97,105,114],[[97],[98]],[⟨109,[80,97,105,114],[⟨5,[97],0,0,[]⟩,⟨5,[98],0,0,[]⟩]⟩]⟩,
 ⟨119,[78,97,116],[],[⟨130,[90,101,114,111],[]⟩,⟨137,[83,117,99,99],[⟨4,[78,97,116],0,0,[]⟩]⟩]⟩,
 ⟨147,[70,117,110],[[97],[98]],[⟨162,[70,117,110],[⟨4,[45,62],0,0,[⟨5,[97],0,0,[]⟩,⟨5,[98],0,0,[]⟩]⟩]⟩]⟩,
 ⟨176,[84,119,111],[[97]],[⟨189,[66,111,116,104],[⟨5,[97],0,0,[]⟩,⟨5,[97],0,0,[]⟩]⟩,⟨200,[79,110,101],[⟨4,[79,112,116,105,111,110],0,0,[⟨5,[97],0,0,[]⟩]⟩]⟩]⟩]
theorem Tb:(aC AP).p 118 [.str Ta]=some Pr:=Fc.N6 (k:=400) (n:=20) (by kernel_rfl)
def Wj(g:Nat)(x:List PV):Option (List PV):=match g,x with
 |118,[.str s]=>if s=Ta then some Pr else none
 |_,_=>none
theorem Q1:∀g x r,Wj g x=some r→(aC AP).p g x=some r:=by
 intro g x r h;unfold Wj at h;split at h
 · split at h
   ·rename_i e;subst e;cases h;exact Tb
   ·cases h
 ·cases h
theorem c79:(aC AP).p 79 []=some [.au (bw.map Dt.pv)]:=Fc.Po (k:=400) (n:=40) Q1 (by kernel_rfl)
@[simp] theorem RZ{l:List Dt}:bf 4 (l.map Dt.pv)=true:=by cases l<;>simp
@[simp] theorem R0{l:List Ty}:bf 5 (l.map Ty.pv)=true:=by cases l<;>simp
@[simp] theorem R1{l:List As}:bf 6 (l.map As.pv)=true:=by cases l<;>simp
theorem Lb{n:Int}(h1:0≤n)(h2:n<18446744073709551616):IntKind.u64.wrap n=n:=by
 simp[IntKind.wrap,IntKind.bits,IntKind.signed];omega
def Tc(bits:Int)(ds:List Dt):Option (bg×St):=
 some (.exit 0,⟨[(0,.pv (vI bits)),(3,.pv (.au (bw.map Dt.pv))),(4,.own (ds.map Dt.pv) 0),(5,.pv (vI 7)),(24,.pv (.bool false))],[],[],[ds.length]⟩)
theorem Vi(bits:Int):∀(n i:Nat),7-i=n→i≤7→∀acc:List Dt,(∀d∈acc,d∈bw)→acc.length≤1+i →
   ∃ds:List Dt,cl AP g32L0 ⟨[(0,.pv (vI bits)),(3,.pv (.au (bw.map Dt.pv))),(4,.own (acc.map Dt.pv) 0),(5,.pv (vI i))],[],[],[acc.length]⟩=Tc bits ds ∧
     (∀d∈ds,d∈bw)∧ds.length≤8
 |0,i,hn,hi,acc,ha,hl=>by
   have:i=7:=by omega
   subst this;refine⟨acc,?_,ha,by omega⟩;rw[g32L0e];have h7:bw.length=7:=rfl;simp[g32B0,h7,Tc]
 |n+1,i,hn,hi,acc,ha,hl=>by
   have h7:bw.length=7:=rfl;have hi:i<7:=(by omega);obtain⟨x,hx⟩:=aV (l:=bw) (i:=i) (by omega);have hb:(acc.length+1)*72≤140737488355328:=by omega
   obtain⟨d1,e1,m1,l1⟩:=Vi bits n (i+1) (by omega) (by omega) (acc++[x]) (by
     intro d hd;simp at hd;rcases hd with hd|rfl
     ·exact ha d hd
     ·exact aR hx) (by simp;omega)
   obtain⟨d2,e2,m2,l2⟩:=Vi bits n (i+1) (by omega) (by omega) acc ha (by omega);simp at e1 e2;have hi':(i:Int)<7:=by omega
   have key:∀S,S=cl AP g32L0 ⟨[(0,.pv (vI bits)),(3,.pv (.au (bw.map Dt.pv))),(4,.own (acc.map Dt.pv) 0),(5,.pv (vI i))],[],[],[acc.length]⟩→S=Tc bits d1∨S=Tc bits d2:=by
     intro S hS;rw[g32L0e]at hS;simp (disch:=omega) [-getElem?_pos,g32B0,h7,hi',hx,ah,Lb,hb,e1,e2]at hS;subst hS
     (repeat' split)<;>simp
   rcases key _ rfl with h|h
   ·exact⟨d1,h,m1,l1⟩
   ·exact⟨d2,h,m2,l2⟩
theorem c32(bits:Int):∃ds:List Dt,(aC AP).p 32 [vI bits]=some [.au (ds.map Dt.pv)]∧(∀d∈ds,d∈bw)∧ds.length≤8:=by
 have hp:=c79;have h7:bw.length=7:=rfl;obtain⟨x,hx⟩:=aV (l:=bw) (i:=1) (by decide);obtain⟨d1,e1,m1,l1⟩:=Vi bits 7 0 rfl (by omega) [x] (by intro d hd;simp at hd;subst hd;exact aR hx) (by simp);obtain⟨d2,e2,m2,l2⟩:=Vi bits 7 0 rfl (by omega) [] (by simp) (by simp);rw[g32L0e]at e1 e2;simp at e1 e2
 have key:∀S,S=(aC AP).p 32 [vI bits]→S=some [.au (d1.map Dt.pv)]∨S=some [.au (d2.map Dt.pv)]:=by
   intro S hS;rw[ae (af:=g32) rfl rfl (by decide)]at hS;simp[-getElem?_pos,g32,hp,g32L0e,hx,e1,e2,Tc]at hS;subst hS
   (repeat' split)<;>simp
 rcases key _ rfl with h|h
 ·exact⟨d1,h,m1,l1⟩
 ·exact⟨d2,h,m2,l2⟩
inductive Made (lv:Ty→Prop):Ty→Prop
 |leaf {t:Ty}:lv t→Made lv t
 |int:Made lv a0
 |dk {d:Dt} {args:List Ty}:d∈bw→args.length=d.params.length→(∀x∈args,Made lv x)→Made lv ⟨4,d.name,0,0,args⟩
 |arrow {a b:Ty}:Made lv a→Made lv b→Made lv ⟨4,[45,62],0,0,[a,b]⟩
def Ty.av(t:Ty):AV:=.agg [.pv (vI t.kind),.pv (.str t.name),.pv (vI t.id),.pv (vI t.home),.pv (.au (t.args.map Ty.pv))]
@[simp] theorem Ty.Wk(t:Ty):t.av=.agg [.pv (vI t.kind),.pv (.str t.name),.pv (vI t.id),.pv (vI t.home),.pv (.au (t.args.map Ty.pv))]:=rfl
def yR(L:List Int)(ds:List Dt)(lv:List Ty)(dep:Nat):Prop:=∀i:Nat,i≤L.length→∃(t:Ty) (j:Nat),
 (aC AP).i 27 [.aW 0 0,.pv (.au (ds.map Dt.pv)),.pv (.au (lv.map Ty.pv)),.pv (vI dep)] (tp L i) []=some ([t.av],tp L j,[])∧Made (·∈lv) t∧j≤L.length
theorem o7{r:Int}{n:Nat}(h0:0≤r)(h1:r<n):∃m:Nat,r=m∧m<n:=⟨r.toNat,by omega,by omega⟩
inductive Ty.Ok:Ty→Prop
 |mk {t:Ty}:Sm t.args→(∀x∈t.args,Ty.Ok x)→Ty.Ok t
theorem Ty.Ok.sm{t:Ty}(h:t.Ok):Sm t.args:=by cases h;assumption
theorem Ty.Ok.ga{t:Ty}(h:t.Ok):∀x∈t.args,x.Ok:=by cases h;assumption
inductive Ty.Wf:Ty→Prop
 |mk {t:Ty}:(t.kind=1→t.args=[])→(∀x∈t.args,Ty.Wf x)→Ty.Wf t
theorem Ty.Wf.var{t:Ty}(h:t.Wf):t.kind=1→t.args=[]:=by cases h;assumption
theorem Ty.Wf.ga{t:Ty}(h:t.Wf):∀x∈t.args,x.Wf:=by cases h;assumption
def kQ:List As→Int→Option Ty
 |[],_=>none
 |a::r,id=>if a.id=id then some a.ty else kQ r id
mutual
def Ty.sub(s:List As):Ty→Ty
 |⟨k,n,i,h,as⟩=>if k=1 then (kQ s i).getD ⟨k,n,i,h,as⟩ else ⟨k,n,i,h,Ty.Lc s as⟩
def Ty.Lc(s:List As):List Ty→List Ty
 |[]=>[]
 |a::r=>a.sub s::Ty.Lc s r
end
theorem Ty.AM(s:List As):∀l:List Ty,Ty.Lc s l=l.map (Ty.sub s)
 |[]=>by simp[Ty.Lc]
 |a::r=>by simp[Ty.Lc,Ty.AM s r]
theorem Ty.sub_eq(s:List As)(t:Ty):t.sub s=if t.kind=1 then (kQ s t.id).getD t else ⟨t.kind,t.name,t.id,t.home,t.args.map (Ty.sub s)⟩:=by
 cases t;simp only[Ty.sub,Ty.AM]
def Ld(s:List As)(t:Ty):Option Ty→Option (bg×St)
 |some a=>some (.ret,⟨[(4,.az 4 0)],[(4,[.pv (vI a.kind),.pv (.str a.name),.pv (vI a.id),.pv (vI a.home),.pv (.au (a.args.map Ty.pv))])],[],[0]⟩)
 |none=>some (.exit 0,⟨[(1,.pv (.au (s.map As.pv))),(2,.az 2 0),(4,.az 4 0),(5,.pv (vI s.length)),(14,.pv (.bool false))],
     [(2,[.pv (vI t.kind),.pv (.str t.name),.pv (vI t.id),.pv (vI t.home),.pv (.au (t.args.map Ty.pv))]),(4,[.pv (vI 0),.pv (.str []),.pv (vI 0),.pv (vI 0),.own [] 0])],[],[0]⟩)
theorem Td{s:List As}(hS:Sm s)(t:Ty):∀(n i:Nat),s.length-i=n→i≤s.length →
   cl AP g46L0 ⟨[(1,.pv (.au (s.map As.pv))),(2,.az 2 0),(4,.az 4 0),(5,.pv (vI i))],
     [(2,[.pv (vI t.kind),.pv (.str t.name),.pv (vI t.id),.pv (vI t.home),.pv (.au (t.args.map Ty.pv))]),(4,[.pv (vI 0),.pv (.str []),.pv (vI 0),.pv (vI 0),.own [] 0])],[],[0]⟩=Ld s t (kQ (s.drop i) t.id)
 |0,i,hn,hi=>by
   have:i=s.length:=by omega
   subst this;rw[g46L0e];simp[g46B0,kQ,Ld]
 |n+1,i,hn,hi=>by
   have hi:i<s.length:=(by omega);obtain⟨x,hx⟩:=aV hi;unfold Sm at hS;have ih:=Td hS t n (i+1) (by omega) (by omega);simp at ih;rw[g46L0e,bh hx];by_cases e:x.id=t.id
   ·simp (disch:=omega) [-getElem?_pos,g46B0,hx,hi,e,kQ,Ld]
   ·simp (disch:=omega) [-getElem?_pos,g46B0,hx,hi,e,kQ,ah,ih]
theorem Te{s:List As}{t:Ty}(hS:Sm t.args)(h:∀x∈t.args,(aC AP).p 46 [x.pv,.au (s.map As.pv)]=some [(x.sub s).pv]):∀(n i:Nat),t.args.length-i=n→i≤t.args.length→∀acc:List Ty,acc=(t.args.take i).map (Ty.sub s) →
   cl AP g46L1 ⟨[(1,.pv (.au (s.map As.pv))),(2,.az 2 0),(4,.az 4 0),(6,.az 6 0),(7,.pv (vI i))],
     [(2,[.pv (vI t.kind),.pv (.str t.name),.pv (vI t.id),.pv (vI t.home),.pv (.au (t.args.map Ty.pv))]),(4,[.pv (vI 0),.pv (.str []),.pv (vI 0),.pv (vI 0),.own [] 0]),
       (6,[.pv (vI t.kind),.pv (.str t.name),.pv (vI t.id),.pv (vI t.home),.own (acc.map Ty.pv) 1])],[],[0,acc.length]⟩ =
     some (.exit 2,⟨[(1,.pv (.au (s.map As.pv))),(2,.az 2 0),(4,.az 4 0),(6,.az 6 0),(7,.pv (vI t.args.length)),(37,.pv (.bool false))],
     [(2,[.pv (vI t.kind),.pv (.str t.name),.pv (vI t.id),.pv (vI t.home),.pv (.au (t.args.map Ty.pv))]),(4,[.pv (vI 0),.pv (.str []),.pv (vI 0),.pv (vI 0),.own [] 0]),
       (6,[.pv (vI t.kind),.pv (.str t.name),.pv (vI t.id),.pv (vI t.home),.own ((t.args.map (Ty.sub s)).map Ty.pv) 1])],[],[0,t.args.length]⟩)
 |0,i,hn,hi,acc,ha=>by
   have:i=t.args.length:=by omega
   subst this;subst ha;rw[g46L1e];simp[g46B1]
 |n+1,i,hn,hi,acc,ha=>by
   have hi:i<t.args.length:=(by omega);obtain⟨x,hx⟩:=aV hi;unfold Sm at hS;have hb:(acc.length+1)*64≤140737488355328:=by subst ha;simp;omega
   have hc:=h x (aR hx);have ih:=Te hS h n (i+1) (by omega) (by omega) (acc++[x.sub s]) (by rw[List.take_add_one,hx,ha];simp);rw[g46L1e]at ih⊢;simp at ih hc;simp (disch:=omega) [-getElem?_pos,g46B1,hx,hi,hc,hb,ah];rw[g46L1e];simp[ih]
theorem c46{s:List As}(hS:Sm s){t:Ty}(hO:t.Ok):(aC AP).p 46 [t.pv,.au (s.map As.pv)]=some [(t.sub s).pv]:=by
 revert hO
 refine Ty.dH (p:=fun t=>t.Ok→(aC AP).p 46 [t.pv,.au (s.map As.pv)]=some [(t.sub s).pv]) ?_ t;intro t ih hO;rw[ae (af:=g46) rfl rfl (by decide)];by_cases hk:t.kind=1
 · have h:=Td hS t _ 0 rfl (by omega);rw[g46L0e]at h;simp at h;cases hf:kQ s t.id with
   |none=>
     rw[hf]at h;simp[Ld,hk]at h;simp[g46,hk,g46L0e,h,Ty.sub_eq,hf]
   |some a=>
     rw[hf]at h;simp[Ld,hk]at h;simp[g46,hk,g46L0e,h,Ty.sub_eq,hf]
 ·have h:=Te (s:=s) hO.sm (fun x hx=>ih x hx (hO.ga x hx)) _ 0 rfl (by omega) [] (by simp);rw[g46L1e]at h;simp at h;simp[g46,hk,g46L1e,h,Ty.sub_eq]
def aL(sh:Sh):Prop:=∀cs,some cs∈sh→∀v∈cs,∃p,v=AV.pv p
theorem l3{aI ts:aG}:∀{cs:List AV},(∀v∈cs,∃p,v=AV.pv p)→bj aI ts cs=(cs,aI,ts)
 |[],_=>rfl
 |v::r,h=>by
   obtain⟨p,rfl⟩:=h v (by simp);simp only[tz,zZ,l3 (cs:=r) (fun v hv=>h v (by simp[hv]))]
theorem aL.norm:∀{sh:Sh},aL sh→∀aI ts,a9 aI ts sh=(sh,aI,ts)
 |[],_,_,_=>rfl
 |none::sh,h,aI,ts=>by
   simp only[tD,aL.norm (sh:=sh) (fun cs hc=>h cs (by simp[hc]))]
 |some cs::sh,h,aI,ts=>by
   simp only[tE,l3 (h cs (by simp)),aL.norm (sh:=sh) (fun cs hc=>h cs (by simp[hc]))]
theorem qe{n:Nat}:∀{cs:List AV},(∀v∈cs,∃p,v=AV.pv p)→cs.map (cZ n)=cs
 |[],_=>rfl
 |v::r,h=>by
   obtain⟨p,rfl⟩:=h v (by simp);simp only[List.map_cons,vF,qe (cs:=r) (fun v hv=>h v (by simp[hv]))]
theorem aL.shift:∀{sh:Sh},aL sh→∀n,d6 n sh=sh
 |[],_,_=>rfl
 |none::sh,h,n=>by
   simp only[qW,aL.shift (sh:=sh) (fun cs hc=>h cs (by simp[hc]))]
 |some cs::sh,h,n=>by
   simp only[qY,qe (h cs (by simp)),aL.shift (sh:=sh) (fun cs hc=>h cs (by simp[hc]))]
theorem aL.app{a b:Sh}(ha:aL a)(hb:aL b):aL (a++b):=by
 intro cs hc;simp only[List.mem_append]at hc;rcases hc with hc|hc
 ·exact ha cs hc
 ·exact hb cs hc
theorem aL.one{cs:List AV}(h:∀v∈cs,∃p,v=AV.pv p):aL [some cs]:=by
 intro cs' hc;simp at hc;subst hc;exact h
@[simp] theorem VK{α:Type}{l:List α}{x:α}:(l++[x])[l.length]?=some x:=by simp
def Ty.cl(t:Ty):List AV:=[.pv (vI t.kind),.pv (.str t.name),.pv (vI t.id),.pv (vI t.home),.pv (.au (t.args.map Ty.pv))]
def Vj:List AV:=[.pv (vI 0),.pv (.str []),.pv (vI 0),.pv (vI 0),.pv (.au [])]
def jM(d:List Ty)(m:Nat):List AV:=d.flatMap Ty.cl++(List.replicate m Vj).flatten
theorem Le{d:List Ty}:(d.flatMap Ty.cl).length=d.length*5:=by
 induction d with
 |nil=>rfl
 |cons a r ih=>simp[ih,Ty.cl,Nat.add_mul]
theorem Oa{m:Nat}:((List.replicate m Vj).flatten).length=m*5:=by
 simp[Vj]
theorem AN{d:List Ty}{m:Nat}:(jM d m).length=(d.length+m)*5:=by
 simp only[jM,List.length_append,Le,Oa,Nat.add_mul]
theorem xW{d:List Ty}{m:Nat}:∀v∈jM d m,∃p,v=AV.pv p:=by
 intro v hv;simp only[jM,List.mem_append,List.mem_flatMap,List.mem_flatten,List.mem_replicate]at hv;rcases hv with⟨t,_,hv⟩|⟨l,⟨_,rfl⟩,hv⟩
 ·simp[Ty.cl]at hv;rcases hv with rfl|rfl|rfl|rfl|rfl<;>exact⟨_,rfl⟩
 ·simp[Vj]at hv;rcases hv with rfl|rfl|rfl|rfl|rfl<;>exact⟨_,rfl⟩
theorem bH{l:List AV}(h:∀v∈l,∃p,v=.pv p):bU l=false:=by
 cases l with
 |nil=>rfl
 |cons c r=>obtain⟨p,rfl⟩:=h c (by simp);rfl
@[simp] theorem R2{d:List Ty}{m:Nat}:bU (jM d m)=false:=bH xW
theorem Lf{a b:List AV}{x y:List PV}(ha:eh a=some x)(hb:eh b=some y):eh (a++b)=some (x++y):=by
 induction a generalizing x with
 |nil=>simp at ha;subst ha;exact hb
 |cons v r ih=>
   simp only[pZ]at ha;simp only[List.cons_append,pZ];cases h1:kx v with
   |none=>rw[h1]at ha;cases ha
   |some p=>
     cases h2:eh r with
     |none=>rw[h1,h2]at ha;cases ha
     |some q=>
       rw[h1,h2]at ha;simp at ha;subst ha;rw[ih h2];rfl
theorem Lg:∀{d:List Ty},((eh (jM d 0)).bind (dK 5 true d.length)).map PV.au=some (.au (d.map Ty.pv)):=by
 have key:∀d:List Ty,∃ps,eh (d.flatMap Ty.cl)=some ps∧(chunk 5 d.length ps).map PV.agg=d.map Ty.pv:=by
   intro d;induction d with
   |nil=>exact⟨[],rfl,rfl⟩
   |cons t r ih=>
     obtain⟨ps,h1,h2⟩:=ih;refine⟨[vI t.kind,.str t.name,vI t.id,vI t.home,.au (t.args.map Ty.pv)]++ps,?_,?_⟩
     ·rw[List.flatMap_cons];exact Lf (by simp[Ty.cl]) h1
     ·simp only[List.length_cons,chunk];simp[h2]
 intro d;obtain⟨ps,h1,h2⟩:=key d;have:jM d 0=d.flatMap Ty.cl:=by simp[jM]
 rw[this,h1];simp only[Option.bind_some,dK,if_true,Option.map_some,h2]
theorem c22{s:List As}(hS:Sm s){t:Ty}(hO:t.Ok):(aC AP).p 22 [.au (s.map As.pv),t.pv]=some [(t.sub s).pv]:=by
 have h:=c46 hS hO;simp at h;rw[ae (af:=g22) rfl rfl (by decide)];simp[g22,h]
noncomputable instance:DecidableEq As:=fun _ _=>Classical.propDecidable _
theorem Wl{as bs:List Ty}(hS:Sm as)(hl:as.length=bs.length)(h:∀x∈as,∀y,(aC AP).p 20 [x.pv,y.pv]=some [.bool (decide (x=y))]):∀(n i:Nat),as.length-i=n→i≤as.length →
   cl AP g57L0 ⟨[(0,.pv (.au (as.map Ty.pv))),(1,.pv (.au (bs.map Ty.pv))),(5,.pv (.int .i64 i))],[],[],[]⟩ =
     if as.drop i=bs.drop i then some (.exit 0,⟨[(0,.pv (.au (as.map Ty.pv))),(1,.pv (.au (bs.map Ty.pv))),(5,.pv (.int .i64 as.length)),(14,.pv (.bool false))],[],[],[]⟩)
     else some (.ret,⟨[(4,.pv (.bool false))],[],[],[]⟩)
 |0,i,hn,hi=>by
   have:i=as.length:=by omega
   subst this;rw[g57L0e];simp[g57B0,hl]
 |n+1,i,hn,hi=>by
   have hi:i<as.length:=(by omega);obtain⟨x,hx⟩:=aV hi;obtain⟨y,hy⟩:=aV (hl ▸ hi);have hc:=h x (aR hx) y;simp at hc;rw[g57L0e,bh hx,bh hy];unfold Sm at hS;have ih:=Wl hS hl h n (i+1) (by omega) (by omega);simp at ih;simp (disch:=omega) [-getElem?_pos,g57B0,hx,hy,hi,hc,ah,ih];by_cases e:x=y<;>simp[e]
theorem c57{as bs:List Ty}(hS:Sm as)(h:∀x∈as,∀y,(aC AP).p 20 [x.pv,y.pv]=some [.bool (decide (x=y))]) :
   (aC AP).p 57 [.au (as.map Ty.pv),.au (bs.map Ty.pv)]=some [.bool (decide (as=bs))]:=by
 rw[ae (af:=g57) rfl rfl (by decide)];by_cases hl:as.length=bs.length
 ·have hL:=Wl hS hl h _ 0 rfl (by omega);simp at hL;simp[g57,hl,hL];by_cases e:as=bs<;>simp[e]
 ·have:¬as=bs:=fun e=>hl (by rw[e]);simp[g57,hl,this];omega
theorem c20{a b:Ty}(hO:a.Ok):(aC AP).p 20 [a.pv,b.pv]=some [.bool (decide (a=b))]:=by
 revert b hO
 refine Ty.dH (p:=fun a=>∀{b:Ty},a.Ok→(aC AP).p 20 [a.pv,b.pv]=some [.bool (decide (a=b))]) ?_ a;intro a ih b hO;have h:=c57 (bs:=b.args) hO.sm (fun x hx y=>ih x hx (hO.ga x hx));rw[ae (af:=g20) rfl rfl (by decide)];simp[g20,h];cases a;cases b;simp
 (repeat' split)<;>simp_all
def ix(a b:Int):Int:=if a<b then -1 else if b<a then 1 else 0
def tZ(a b:List UInt8):Int:=if cA.dZ a b=true then -1 else if a=b then 0 else 1
def BD:List Int→Int
 |[]=>0
 |x::r=>if x=0 then BD r else x
mutual
def nd:Ty→Ty→Int
 |⟨k,n,i,h,as⟩,b=>if BD [ix k b.kind,tZ n b.name,ix i b.id,ix h b.home,ix as.length b.args.length]=0 then o_ as b.args
     else BD [ix k b.kind,tZ n b.name,ix i b.id,ix h b.home,ix as.length b.args.length]
def o_:List Ty→List Ty→Int
 |[],[]=>0
 |[],_::_=>-1
 |_::_,[]=>1
 |a::r,b::s=>if nd a b=0 then o_ r s else nd a b
end
def xX(a b:Ty):Int:=BD [ix a.kind b.kind,tZ a.name b.name,ix a.id b.id,ix a.home b.home,ix a.args.length b.args.length]
theorem xY(a b:Ty):nd a b=if xX a b=0 then o_ a.args b.args else xX a b:=by
 cases a;simp only[nd,xX];rfl
theorem c113{n:Int}:(aC AP).p 113 [vI n]=some [.bool false]:=by
 rw[ae (af:=g113) rfl rfl (by decide)];simp[g113]
theorem c114{n:List UInt8}:(aC AP).p 114 [.str n]=some [.bool false]:=by
 rw[ae (af:=g114) rfl rfl (by decide)];simp[g114]
theorem c81{a b:Int}:(aC AP).p 81 [vI a,vI b]=some [vI (ix a b)]:=by
 have h1:=c113 (n:=a);have h2:=c113 (n:=b);rw[ae (af:=g81) rfl rfl (by decide)];simp[g81,h1,h2,ix]
 (repeat' split)<;>rfl
theorem c82{a b:List UInt8}:(aC AP).p 82 [.str a,.str b]=some [vI (tZ a b)]:=by
 have h1:=c114 (n:=a);have h2:=c114 (n:=b);rw[ae (af:=g82) rfl rfl (by decide)];by_cases e1:cA.dZ a b=true
 ·simp[g82,h1,h2,tZ,e1]
 · have e1:cA.dZ a b=false:=(by simpa using e1);by_cases e2:a=b
   ·subst e2;simp[g82,h1,h2,tZ,e1]
   ·simp[g82,h1,h2,tZ,e1,e2]
theorem c80{a b c d e:Int}:(aC AP).p 80 [.au [vI a,vI b,vI c,vI d,vI e]]=some [vI (BD [a,b,c,d,e])]:=by
 rw[ae (af:=g80) rfl rfl (by decide)];by_cases h1:a=0
 · by_cases h2:b=0
   · by_cases h3:c=0
     · by_cases h4:d=0
       · by_cases h5:e=0
         ·simp (disch:=omega) [-getElem?_pos,g80,g80L0e,g80B0,ah,BD,h1,h2,h3,h4,h5]
         ·simp (disch:=omega) [-getElem?_pos,g80,g80L0e,g80B0,ah,BD,h1,h2,h3,h4,h5]
       ·simp (disch:=omega) [-getElem?_pos,g80,g80L0e,g80B0,ah,BD,h1,h2,h3,h4]
     ·simp (disch:=omega) [-getElem?_pos,g80,g80L0e,g80B0,ah,BD,h1,h2,h3]
   ·simp (disch:=omega) [-getElem?_pos,g80,g80L0e,g80B0,ah,BD,h1,h2]
 ·simp (disch:=omega) [-getElem?_pos,g80,g80L0e,g80B0,ah,BD,h1]
def Tf(as bs:List Ty)(sh:Sh)(l:Int)(c:Int)(eq:Bool):Option (bg×St):=
 if eq=true then some (.exit 0,⟨[(0,.pv (.au (as.map Ty.pv))),(1,.pv (.au (bs.map Ty.pv))),(2,.fn 35 []),(11,.pv (.au (as.map Ty.pv))),(12,.pv (vI l)),(13,.pv (vI l)),(14,.pv (.bool false))],[],sh,[]⟩)
 else some (.ret,⟨[(6,.pv (vI c))],[],sh,[]⟩)
theorem Wm{as bs:List Ty}(hS:Sm as)(hl:as.length=bs.length)(h:∀x∈as,∀y,(aC AP).i 35 [.pv x.pv,.pv y.pv] [] []=some ([.pv (vI (nd x y))],[],[])):∀(n i:Nat),as.length-i=n→i≤as.length →
   cl AP g83L0 ⟨[(0,.pv (.au (as.map Ty.pv))),(1,.pv (.au (bs.map Ty.pv))),(2,.fn 35 []),(11,.pv (.au (as.map Ty.pv))),(12,.pv (vI as.length)),(13,.pv (vI i))],[],[],[]⟩ =
     Tf as bs [] as.length (o_ (as.drop i) (bs.drop i)) (decide (o_ (as.drop i) (bs.drop i)=0))
 |0,i,hn,hi=>by
   have:i=as.length:=by omega
   subst this;rw[g83L0e,l0 (l:=bs) (by omega)];simp[g83B0,Tf,o_]
 |n+1,i,hn,hi=>by
   have hi:i<as.length:=(by omega);obtain⟨x,hx⟩:=aV hi;obtain⟨y,hy⟩:=aV (hl ▸ hi);have hc:=h x (aR hx) y;have ih:=Wm hS hl h n (i+1) (by omega) (by omega);unfold Sm at hS;have hb:¬bs.length≤i:=(by omega);rw[g83L0e]at ih⊢;rw[bh hx,bh hy];simp at ih hc;by_cases e:nd x y=0
   ·rw[e]at hc;simp (disch:=omega) [-getElem?_pos,g83B0,hx,hy,hi,hb,hc,ah];rw[g83L0e];simp[ih,o_,e]
   ·simp (disch:=omega) [-getElem?_pos,g83B0,hx,hy,hi,hb,hc,ah,e,Tf,o_]
theorem Lh{a b:Ty}(h:xX a b=0):a.args.length=b.args.length:=by
 simp only[xX,BD]at h
 have:ix a.args.length b.args.length=0:=by
   split at h
   · split at h
     · split at h
       · split at h
         · split at h
           ·assumption
           ·contradiction
         ·contradiction
       ·contradiction
     ·contradiction
   ·contradiction
 unfold ix at this;split at this
 ·cases this
 · split at this
   ·cases this
   ·omega
theorem c35_both{a:Ty}(hO:a.Ok):∀b:Ty,(aC AP).p 35 [a.pv,b.pv]=some [vI (nd a b)]∧(aC AP).i 35 [.pv a.pv,.pv b.pv] [] []=some ([.pv (vI (nd a b))],[],[]):=by
 revert hO
 refine Ty.dH (p:=fun a=>a.Ok→∀b:Ty,(aC AP).p 35 [a.pv,b.pv]=some [vI (nd a b)]∧(aC AP).i 35 [.pv a.pv,.pv b.pv] [] []=some ([.pv (vI (nd a b))],[],[])) ?_ a;intro a ih hO b;have k1:=c81 (a:=a.kind) (b:=b.kind);have k2:=c82 (a:=a.name) (b:=b.name);have k3:=c81 (a:=a.id) (b:=b.id);have k4:=c81 (a:=a.home) (b:=b.home);have k5:=c81 (a:=a.args.length) (b:=b.args.length);have k6:=c80 (a:=ix a.kind b.kind) (b:=tZ a.name b.name) (c:=ix a.id b.id) (d:=ix a.home b.home) (e:=ix a.args.length b.args.length);have eH:BD [ix a.kind b.kind,tZ a.name b.name,ix a.id b.id,ix a.home b.home,ix a.args.length b.args.length]=xX a b:=rfl;rw[eH]at k6;have hS:=hO.sm;by_cases e:xX a b=0
 · have hl:=Lh e;have h:=Wm hS hl (fun x hx y=>(ih x hx (hO.ga x hx) y).2) _ 0 rfl (by omega);rw[g83L0e]at h;simp at h
   have c83:(aC AP).i 83 [.pv (.au (a.args.map Ty.pv)),.pv (.au (b.args.map Ty.pv)),.fn 35 []] [] []=some ([.pv (vI (o_ a.args b.args))],[],[]):=by
     rw[aD (af:=g83) rfl (by simp[g83])];by_cases e2:o_ a.args b.args=0
     · simp[Tf,e2]at h;have hlt:¬a.args.length<b.args.length:=by omega
       simp[g83,g83L0e,h,hlt,e2]
     ·simp[Tf,e2]at h;simp[g83,g83L0e,h]
   rw[e]at k6;rw[xY,if_pos e];constructor
   ·rw[ae (af:=g35) rfl rfl (by decide)];simp[g35,k1,k2,k3,k4,k5,k6,c83]
   ·rw[aD (af:=g35) rfl (by simp[g35])];simp[g35,k1,k2,k3,k4,k5,k6,c83]
 · rw[xY,if_neg e];constructor
   ·rw[ae (af:=g35) rfl rfl (by decide)];simp[g35,k1,k2,k3,k4,k5,k6,e]
   ·rw[aD (af:=g35) rfl (by simp[g35])];simp[g35,k1,k2,k3,k4,k5,k6,e]
theorem c35{a b:Ty}(hO:a.Ok):(aC AP).p 35 [a.pv,b.pv]=some [vI (nd a b)]:=(c35_both hO b).1
theorem c33{a b:Ty}(hO:a.Ok):(aC AP).p 33 [a.pv,b.pv]=some [.bool (nd a b == 0)]:=by
 have h:=c35 (b:=b) hO;simp at h;rw[ae (af:=g33) rfl rfl (by decide)];simp[g33,h]
theorem mP:∀{s:List As} {id:Int} {t:Ty},kQ s id=some t→∃a∈s,a.ty=t
 |a::r,id,t,h=>by
   simp only[kQ]at h;split at h
   ·cases h;exact⟨a,by simp,rfl⟩
   ·obtain⟨b,hb,e⟩:=mP h;exact⟨b,by simp[hb],e⟩
theorem D2{s:List As}(hs:∀a∈s,a.ty.Ok){t:Ty}(h:t.Ok):(t.sub s).Ok:=by
 revert h
 refine Ty.dH (p:=fun t=>t.Ok→(t.sub s).Ok) ?_ t;intro t ih h;rw[Ty.sub_eq];split
 · cases hf:kQ s t.id with
   |none=>simpa using h
   |some a=>obtain⟨b,hb,rfl⟩:=mP hf;simpa using hs b hb
 ·refine⟨by have:=h.sm;unfold Sm at *;simpa using this,?_⟩;intro x hx;simp at hx;obtain⟨y,hy,rfl⟩:=hx;exact ih y hy (h.ga y hy)
theorem xZ:∀{a b:List As} {id:Int},kQ (a++b) id=(kQ a id).or (kQ b id)
 |[],b,id=>by simp[kQ]
 |x::a,b,id=>by
   simp only[List.cons_append,kQ];split
   ·rfl
   ·exact xZ
theorem ri:∀s:List UInt8,cA.dZ s s=false
 |[]=>rfl
 |a::r=>by simp[cA.dZ,ri r]
theorem Iq{a b:Int}:ix a b=0↔a=b:=by
 unfold ix;split
 · constructor
   ·intro h;cases h
   ·intro h;omega
 · split
   · constructor
     ·intro h;cases h
     ·intro h;omega
   · constructor
     ·intro _;omega
     ·intro _;rfl
theorem Ir{a b:List UInt8}:tZ a b=0↔a=b:=by
 unfold tZ;split
 · rename_i h;constructor
   ·intro e;cases e
   ·intro e;subst e;rw[ri]at h;cases h
 · split
   ·rename_i h;simp[h]
   ·rename_i h;simp[h]
theorem AO:∀{l:List Int},BD l=0↔∀x∈l,x=0
 |[]=>by simp[BD]
 |x::r=>by
   simp only[BD];split
   ·rename_i h;rw[AO];simp[h]
   · rename_i h;constructor
     ·intro e;exact absurd e h
     ·intro e;exact e x (by simp)
theorem vV{a b:Ty}:xX a b=0↔a.kind=b.kind∧a.name=b.name∧a.id=b.id∧a.home=b.home∧a.args.length=b.args.length:=by
 unfold xX;rw[AO];simp[Iq,Ir]
 intros;omega
theorem vW(a:Ty):∀b,nd a b=0↔a=b:=by
 refine Ty.dH (p:=fun a=>∀b,nd a b=0↔a=b) ?_ a;intro a ih b
 have key:∀(as bs:List Ty),(∀x∈as,∀b,nd x b=0↔x=b)→(o_ as bs=0↔as=bs):=by
   intro as;induction as with
   |nil=>intro bs _;cases bs<;>simp[o_]
   |cons x r ih=>
     intro bs h;cases bs with
     |nil=>simp[o_]
     |cons y s=>
       simp only[o_];have hx:=h x (by simp) y;have hr:=ih s (fun z hz=>h z (by simp[hz]));split
       ·rename_i e;rw[hr];simp[hx.1 e]
       · rename_i e;constructor
         ·intro e';exact absurd e' e
         ·intro e';simp at e';exact absurd (hx.2 e'.1) e
 rw[xY];split
 ·rename_i h;rw[key _ _ ih];rw[vV]at h;cases a;cases b;simp at h⊢;simp[h]
 · rename_i h;constructor
   ·intro e;exact absurd e h
   ·intro e;subst e;exact absurd (vV.2 ⟨rfl,rfl,rfl,rfl,rfl⟩) h
theorem Li(a b:Ty):(nd a b == 0)=decide (a=b):=by
 by_cases h:a=b
 ·rw[decide_eq_true h,(vW a b).2 h];rfl
 ·rw[decide_eq_false h];simpa using fun e=>h ((vW a b).1 e)
theorem c33e{a b:Ty}(hO:a.Ok):(aC AP).p 33 [a.pv,b.pv]=some [.bool (decide (a=b))]:=by rw[c33 hO,Li]
def bP{α:Type}(p:α→Bool):List α→Option Nat
 |[]=>none
 |a::r=>if p a=true then some 0 else (bP p r).map (·+1)
theorem iU{α:Type}{p:α→Bool}:∀{l:List α},bP p l=none↔∀x∈l,p x=false
 |[]=>by simp[bP]
 |a::r=>by
   simp only[bP];by_cases h:p a=true
   ·simp[h]
   ·have h:p a=false:=(by simpa using h);simp[h,iU]
theorem rY{α:Type}{p:α→Bool}{l:List α}:(!(l.any fun x=>!p x))=l.all p:=by
 induction l with
 |nil=>rfl
 |cons a r ih=>simp[←ih]
structure El{α:Type}(f:α→PV)(sz:Nat)(ag:Bool):Prop where
 len:∀x,(aX (f x)).length=sz
 of:∀x,cM ag sz (aX (f x))=some (.pv (f x))
theorem El.head{α:Type}{f:α→PV}{sz:Nat}{ag:Bool}(h:El f sz ag)(l:List α):bf sz (l.map f)=true:=by
 cases l with
 |nil=>rfl
 |cons x r=>simp[bf,h.len x]
theorem nV:El vI 1 false:=⟨fun _=>rfl,fun _=>rfl⟩
theorem qf:El PV.str 1 false:=⟨fun _=>rfl,fun _=>rfl⟩
theorem AR:El Ty.pv 5 true:=⟨fun x=>by simp,fun x=>by simp⟩
theorem Tg:El Dt.pv 4 true:=⟨fun x=>by simp,fun x=>by simp⟩
def x4(sz:Nat)(ag:Bool):aq:=
 (.seq
  (.iA [⟨some 9,none,[.t 8,.t 7],.v (.bin .lss)⟩] [0,1,7,8,9])
  (.seq
   (.cond (.t 9)
    .skip
    (.exit 0))
   (.seq
    (.block 1
     (.seq
      (.iA [⟨some 10,none,[.t 8],.v (.mv)⟩,
        ⟨some 5,none,[.t 10],.v (.mv)⟩] [0,1,5,7,8])
      (.seq
       (.iA [⟨some 11,none,[.t 1],.v (.mv)⟩,
         ⟨some 12,none,[.t 0],.v (.mv)⟩,
         ⟨some 13,none,[.t 5],.v (.mv)⟩,
         ⟨some 14,none,[.t 12,.t 13],.v (.d3 sz)⟩,
         ⟨some 15,none,[.t 14],.dU sz ag⟩,
         ⟨some 16,none,[.t 11,.t 15],.fm⟩] [0,1,5,7,8,16])
       (.cond (.t 16)
        (.seq
         (.iA [⟨some 17,none,[.t 5],.v (.mv)⟩,
           ⟨some 4,none,[.t 17],.v (.mv)⟩] [4])
         .ret)
        .skip))))
    (.iA [⟨some 18,none,[.t 8,.c (.pv (.int .i64 1))],.v (.bin .add)⟩,
      ⟨some 8,none,[.t 18],.v (.mv)⟩] [0,1,7,8]))))
def Lj(sz:Nat)(ag:Bool):aq:=.loop [0,1,7,8] (x4 sz ag)
theorem pc{sz:Nat}{ag:Bool}{st:St}:cl AP (Lj sz ag) st=after (cl AP (Lj sz ag)) (cl AP (x4 sz ag) (norm (restrict [0,1,7,8] st))):=aH
def rH(sz:Nat)(ag:Bool):aA:=⟨2,19,[.t 4],
 (.seq
  (.iA [⟨some 4,none,[.c (.pv (.int .i64 0))],.v (.mv)⟩] [0,1])
  (.seq
   (.seq
    (.iA [⟨some 6,none,[.t 0],.v (.mv)⟩,
      ⟨some 7,none,[.t 6],.v (.len)⟩,
      ⟨some 8,none,[.c (.pv (.int .i64 0))],.v (.mv)⟩] [0,1,7,8])
    (.block 0
     (Lj sz ag)))
   (.seq
    (.iA [⟨some 4,none,[.c (.pv (.int .i64 (-1)))],.v (.mv)⟩] [4])
    .ret))),none,false⟩
def Q2(g:Nat):aA:=⟨2,9,[.t 4],
 (.seq
  (.iA [⟨some 4,none,[.c (.pv (.bool false))],.v (.mv)⟩] [0,1])
  (.seq
   (.iA [⟨some 5,none,[.t 0],.v (.mv)⟩,
     ⟨some 6,none,[.t 1],.v (.mv)⟩,
     ⟨some 7,none,[.t 5,.t 6],.bz g []⟩,
     ⟨some 8,none,[.t 7,.c (.pv (.int .i64 0))],.v (.bin .geq)⟩,
     ⟨some 4,none,[.t 8],.v (.mv)⟩] [4])
   .ret)),none,false⟩
def x5{α:Type}(F:AV)(sh:Sh)(f:α→PV)(p:α→Bool)(s:List α):Prop:=∀x∈s,exec (aC AP) .fm [F,.pv (f x)] none sh []=some ⟨.pv (.bool (p x)),none,sh,[]⟩
def Is{α:Type}(f:α→PV)(F:AV)(s:List α)(sh:Sh)(i:Nat):Option Nat→Option (bg×St)
 |some k=>some (.ret,⟨[(4,.pv (vI (i+k:Nat)))],[],sh,[]⟩)
 |none=>some (.exit 0,⟨[(0,.pv (.au (s.map f))),(1,F),(7,.pv (vI s.length)),(8,.pv (vI s.length)),(9,.pv (.bool false))],[],sh,[]⟩)
theorem Th{α:Type}{f:α→PV}{sz:Nat}{ag:Bool}(he:El f sz ag){s:List α}(hS:Sm s){sh:Sh}(hq:aL sh){g:Nat}{cap:List AV}{p:α→Bool}(hcap:bD.d5 cap=true)
   (hf:x5 (.fn g cap) sh f p s):∀(n i:Nat),s.length-i=n→i≤s.length →
   cl AP (Lj sz ag) ⟨[(0,.pv (.au (s.map f))),(1,.fn g cap),(7,.pv (vI s.length)),(8,.pv (vI i))],[],sh,[]⟩=Is f (.fn g cap) s sh i (bP p (s.drop i))
 |0,i,hn,hi=>by
   have:i=s.length:=by omega
   subst this;rw[pc];simp[x4,bP,Is,hq.norm,hcap]
 |n+1,i,hn,hi=>by
   have hi:i<s.length:=(by omega);obtain⟨x,hx⟩:=aV hi;unfold Sm at hS;have ih:=Th he hS hq hcap hf n (i+1) (by omega) (by omega);simp at ih;have hc:=hf x (aR hx);rw[pc,bh hx];cases e:p x with
   |true=>
     rw[e]at hc;simp (disch:=omega) [-getElem?_pos,-ep,x4,hx,hi,e,bP,Is,hq.norm,hc,hcap,he.len,he.of]
   |false=>
     rw[e]at hc;simp (disch:=omega) [-getElem?_pos,-ep,x4,hx,hi,e,bP,ah,hq.norm,hc,ih,hcap,he.len,he.of];cases bP p (s.drop (i+1)) with
     |none=>rfl
     |some k=>simp[Is];omega
def jN(o:Option Nat):Int:=match o with|some k=>k|none=>-1
theorem Ti{α:Type}{f:α→PV}{sz:Nat}{ag:Bool}(he:El f sz ag){k:Nat}(hk:AP k=some (rH sz ag)){s:List α}(hS:Sm s){sh:Sh}(hq:aL sh){g:Nat}{cap:List AV}{p:α→Bool}(hcap:bD.d5 cap=true)
   (hf:x5 (.fn g cap) sh f p s):(aC AP).i k [.pv (.au (s.map f)),.fn g cap] sh []=some ([.pv (vI (jN (bP p s)))],sh,[]):=by
 have h:=Th he hS hq hcap hf _ 0 rfl (by omega);simp at h;rw[aD hk (by simp[rH])];cases hi:bP p s with
 |none=>rw[hi]at h;simp[Is]at h;simp[rH,h,hq.norm,hcap,jN]
 |some k=>rw[hi]at h;simp[Is]at h;simp[rH,h,hq.norm,hcap,jN]
theorem t4{α:Type}{p:α→Bool}{s:List α}:decide (0≤jN (bP p s))=s.any p:=by
 cases hi:bP p s with
 |none=>
   have:s.any p=false:=by rw[List.any_eq_false];intro x hx;rw[iU.1 hi x hx];simp
   rw[this];rfl
 |some k=>
   have:s.any p=true:=by
     cases e:s.any p with
     |true=>rfl
     |false=>rw[List.any_eq_false]at e;have:=iU.2 (fun x hx=>by simpa using e x hx);rw[hi]at this;cases this
   rw[this];simp[jN]
theorem Ll{α:Type}{f:α→PV}{sz:Nat}{ag:Bool}(he:El f sz ag){m k:Nat}(hm:AP m=some (Q2 k))(hk:AP k=some (rH sz ag)){s:List α}(hS:Sm s){sh:Sh}(hq:aL sh){g:Nat}{cap:List AV}{p:α→Bool}(hcap:bD.d5 cap=true)(hpass:bL.iI cap=true)(hnrm:∀aI ts,bj aI ts cap=(cap,aI,ts))
   (hf:x5 (.fn g cap) sh f p s):(aC AP).i m [.pv (.au (s.map f)),.fn g cap] sh []=some ([.pv (.bool (s.any p))],sh,[]):=by
 have h:=Ti he hk hS hq hcap hf;rw[aD hm (by simp[Q2])];rw[←t4];simp[Q2,h,hq.norm,hq.shift,hcap,hpass,hnrm]
abbrev vC(c:Int):PV:=.int .u8 c
def Tj(c:Int):Bool:=decide (97≤c) && decide (c≤122)
def VL(c:Int):Bool:=decide (65≤c) && decide (c≤90)
def Tl(c:Int):Bool:=decide (48≤c) && decide (c≤57)
def Lm(c:Int):Bool:=Tj c || VL c || Tl c || (c == 95)
def nW(s:List UInt8):Bool:=s.all fun b=>Lm b.toNat
def Ln:List (List UInt8):=[[100,97,116,97],[108,101,116],[114,101,99],[105,110],[99,97,115,101],[111,102],[101,110,100]]
def Lo(s:List UInt8):Bool:=Ln.contains s
def lr(s:List UInt8)(lo hi:Int):Bool:=match s with
 |[]=>false
 |b::r=>decide (lo≤b.toNat) && decide ((b.toNat:Int)≤hi) && decide ((b::r).length≤12) && nW (b::r) && !Lo (b::r)
theorem AS{b:UInt8}{r:List UInt8}:nW (b::r)=(Lm b.toNat && nW r):=rfl
theorem D3:nW []=true:=rfl
theorem Wn{s:List UInt8}(hS:yu s):∀(n i:Nat),s.length-i=n→i≤s.length →
   cl AP g73L0 ⟨[(0,.pv (.str s)),(31,.pv (vI s.length)),(32,.pv (vI i))],[],[],[]⟩ =
     if nW (s.drop i)=true then some (.exit 0,⟨[(0,.pv (.str s)),(31,.pv (vI s.length)),(32,.pv (vI s.length)),(33,.pv (.bool false))],[],[],[]⟩)
     else some (.ret,⟨[(6,.pv (.bool false))],[],[],[]⟩)
 |0,i,hn,hi=>by
   have:i=s.length:=by omega
   subst this;rw[g73L0e];simp[g73B0,D3]
 |n+1,i,hn,hi=>by
   have hi:i<s.length:=(by omega);obtain⟨x,hx⟩:=aV hi;unfold yu at hS;have ih:=Wn hS n (i+1) (by omega) (by omega);simp at ih;rw[g73L0e,bh hx,AS];have key:Lm x.toNat=((decide (97≤(x.toNat:Int)) && decide ((x.toNat:Int)≤122)) || (decide (65≤(x.toNat:Int)) && decide ((x.toNat:Int)≤90)) || (decide (48≤(x.toNat:Int)) && decide ((x.toNat:Int)≤57)) || ((x.toNat:Int) == 95)):=rfl;rw[key];have hc:∃c:Int,c=x.toNat:=⟨_,rfl⟩;obtain⟨c,hc⟩:=hc;have e97:(97≤(x.toNat:Int))=(97≤c):=(by rw[hc]);rw[←hc]
   have goOn:∀b1 b2 b3 b4 b5 b6 b7:Bool,decide (97≤c)=b1→decide (c≤122)=b2→decide (65≤c)=b3→decide (c≤90)=b4→decide (48≤c)=b5→decide (c≤57)=b6→(c == 95)=b7 →
       after (cl AP g73L0) (cl AP g73B0 (norm (restrict [0,31,32] ⟨[(0,.pv (.str s)),(31,.pv (vI s.length)),(32,.pv (vI i))],[],[],[]⟩))) =
       if (((b1 && b2) || (b3 && b4) || (b5 && b6) || b7) && nW (s.drop (i+1)))=true then some (.exit 0,⟨[(0,.pv (.str s)),(31,.pv (vI s.length)),(32,.pv (vI s.length)),(33,.pv (.bool false))],[],[],[]⟩)
       else some (.ret,⟨[(6,.pv (.bool false))],[],[],[]⟩):=by
     intro b1 b2 b3 b4 b5 b6 b7 h1 h2 h3 h4 h5 h6 h7;have g8:decide (c<48)=!b5:=by rw[←h5,←decide_not];simp[Int.not_le]
     have g9:decide (57<c)=!b6:=by rw[←h6,←decide_not];simp[Int.not_le]
     cases b1<;>cases b3<;>cases b5<;>cases b2<;>cases b4<;>cases b6<;>cases b7 <;>
       (have k1:=h1;have k2:=h2;have k3:=h3;have k4:=h4;have k5:=h5;have k6:=h6;have k7:=h7
        simp only[decide_eq_true_eq,decide_eq_false_iff_not,beq_iff_eq,beq_eq_false_iff_ne,ne_eq]at k1 k2 k3 k4 k5 k6 k7
        first
        |(exfalso;omega)
        |(simp (disch:=omega) [-getElem?_pos,g73B0,hx,hi,←hc,k1,k2,k3,k4,k5,k6,k7,g8,g9,ah,ih];done))
   exact goOn _ _ _ _ _ _ _ rfl rfl rfl rfl rfl rfl rfl
theorem c73{s:List UInt8}(hS:yu s){lo hi:Int}:(aC AP).p 73 [.str s,vC lo,vC hi]=some [.bool (lr s lo hi)]:=by
 have h:=Wn hS _ 0 rfl (by omega);simp at h;rw[ae (af:=g73) rfl rfl (by decide)];cases s with
 |nil=>simp[g73,lr]
 |cons b r=>
   by_cases e3:r.length+1≤12
   · have e3':¬((12:Int)<r.length+1):=(by omega);have e0:¬((r.length:Int)+1<1):=(by omega);by_cases e1:(b.toNat:Int)<lo
     ·have e1':¬(lo≤(b.toNat:Int)):=(by omega);simp[g73,lr,e0,e3',e1,e1']
     · have e1':lo≤(b.toNat:Int):=(by omega);by_cases e2:hi<(b.toNat:Int)
       ·have e2':¬((b.toNat:Int)≤hi):=(by omega);simp[g73,lr,e0,e3',e1,e2,e2']
       · have e2':(b.toNat:Int)≤hi:=(by omega);cases e4:nW (b::r)
         ·simp[e4]at h;simp[g73,lr,e0,e3',e1,e2,e1',e2',h,e4]
         · simp[e4]at h;cases e5:Lo (b::r)
           · have k:∀k∈Ln,¬(b::r)=k:=by
               intro k hk e;rw[e]at e5;simp only[Lo]at e5;rw[List.contains_eq_mem]at e5;simp at e5;exact e5 hk
             have k1:=k [100,97,116,97] (by simp[Ln]);have k2:=k [108,101,116] (by simp[Ln]);have k3:=k [114,101,99] (by simp[Ln]);have k4:=k [105,110] (by simp[Ln]);have k5:=k [99,97,115,101] (by simp[Ln]);have k6:=k [111,102] (by simp[Ln]);have k7:=k [101,110,100] (by simp[Ln]);have b1:((b::r) == [100,97,116,97])=false:=(by simpa using k1);have b2:((b::r) == [108,101,116])=false:=(by simpa using k2);have b3:((b::r) == [114,101,99])=false:=(by simpa using k3);have b4:((b::r) == [105,110])=false:=(by simpa using k4);have b5:((b::r) == [99,97,115,101])=false:=(by simpa using k5);have b6:((b::r) == [111,102])=false:=(by simpa using k6);have b7:((b::r) == [101,110,100])=false:=(by simpa using k7);simp[g73,lr,e0,e3',e1,e2,e1',e2',h,e4,e5,e3,-List.cons_beq_cons,b1,b2,b3,b4,b5,b6,b7]
           · simp only[Lo,Ln,List.contains_iff_mem,List.mem_cons,List.not_mem_nil,or_false]at e5
             rcases e5 with e|e|e|e|e|e|e<;>(simp only[List.cons.injEq]at e;obtain⟨rfl,rfl⟩:=e) <;>
               simp[lr,Lo,Ln]<;>(simp at e1 e2 h e1' e2';simp[g73,h,e1,e2])
   ·have e3':(12:Int)<r.length+1:=(by omega);simp[g73,lr,e3',e3]
def Iu(s:List UInt8)(n:Nat):Bool:=if s=[45,62] then decide (n=2) else if s=[73,110,116] then decide (n=0) else lr s 65 90 && decide (n≤4)
theorem c74{s:List UInt8}(hS:yu s){n:Nat}:(aC AP).p 74 [.str s,vI n]=some [.bool (Iu s n)]:=by
 have h:=c73 hS (lo:=65) (hi:=90);rw[ae (af:=g74) rfl rfl (by decide)];by_cases e1:s=[45,62]
 · have:((n:Int) == 2)=decide (n=2):=by rw[Bool.eq_iff_iff];simp;omega
   subst e1;simp[g74,Iu,this]
 · have b1:(s == [45,62])=false:=(by simpa using e1);by_cases e2:s=[73,110,116]
   · have:((n:Int) == 0)=decide (n=0):=by rw[Bool.eq_iff_iff];simp
     subst e2;simp[g74,Iu,this]
   ·have b2:(s == [73,110,116])=false:=(by simpa using e2);have:decide ((n:Int)≤4)=decide (n≤4):=(by rw[Bool.eq_iff_iff];simp;omega);cases e3:lr s 65 90<;>simp[e3]at h<;>simp[g74,Iu,e1,e2,b1,b2,h,e3,this]
mutual
def h_:Ty→Bool
 |⟨k,n,i,h,as⟩=>
   if k=1∨k=2 then decide (n=[]) && decide (as=[]) && decide (0≤i) && decide (i≤1000000) && (h == 0)
   else if k=3 then decide (n=[]) && decide (as=[]) && decide (0≤i) && decide (i≤1000000) && decide (-1≤h) && decide (h≤1000000)
   else if k=5 then decide (as=[]) && (i == 0) && (h == 0) && lr n 97 122
   else if k=4 then (i == 0) && (h == 0) && Iu n as.length && t5 as
   else false
def t5:List Ty→Bool
 |[]=>true
 |a::r=>h_ a && t5 r
end
theorem t6:∀l:List Ty,t5 l=l.all h_
 |[]=>by simp[t5]
 |a::r=>by simp[t5,t6 r]
theorem Iv(t:Ty):h_ t =
   if t.kind=1∨t.kind=2 then decide (t.name=[]) && decide (t.args=[]) && decide (0≤t.id) && decide (t.id≤1000000) && (t.home == 0)
   else if t.kind=3 then decide (t.name=[]) && decide (t.args=[]) && decide (0≤t.id) && decide (t.id≤1000000) && decide (-1≤t.home) && decide (t.home≤1000000)
   else if t.kind=5 then decide (t.args=[]) && (t.id == 0) && (t.home == 0) && lr t.name 97 122
   else if t.kind=4 then (t.id == 0) && (t.home == 0) && Iu t.name t.args.length && t.args.all h_
   else false:=by
 cases t;simp only[h_,t6]
def Iw(F:AV)(s:List Ty)(sh:Sh)(i:Nat):Option Nat→Option (bg×St)
 |some k=>some (.ret,⟨[(4,.pv (vI (i+k:Nat)))],[],sh,[]⟩)
 |none=>some (.exit 0,⟨[(0,.pv (.au (s.map Ty.pv))),(1,F),(7,.pv (vI s.length)),(8,.pv (vI s.length)),(9,.pv (.bool false))],[],sh,[]⟩)
theorem Tm{s:List Ty}(hS:Sm s){sh:Sh}(hq:aL sh){g:Nat}{cap:List AV}{p:Ty→Bool}(hcap:bD.d5 cap=true)(hpass:bL.iI cap=true)(harg:dP [] 1 cap=cap)(hnrm:∀aI ts,bj aI ts cap=(cap,aI,ts))(hpo:cap.all bI=true)
   (hf:∀x∈s,(aC AP).i g (.pv x.pv::cap) sh []=some ([.pv (.bool (p x))],sh,[])):∀(n i:Nat),s.length-i=n→i≤s.length →
   cl AP g107L0 ⟨[(0,.pv (.au (s.map Ty.pv))),(1,.fn g cap),(7,.pv (vI s.length)),(8,.pv (vI i))],[],sh,[]⟩=Iw (.fn g cap) s sh i (bP p (s.drop i))
 |0,i,hn,hi=>by
   have:i=s.length:=by omega
   subst this;rw[g107L0e];simp[g107B0,bP,Iw,hq.norm,hcap]
 |n+1,i,hn,hi=>by
   have hi:i<s.length:=(by omega);obtain⟨x,hx⟩:=aV hi;unfold Sm at hS;have ih:=Tm hS hq hcap hpass harg hnrm hpo hf n (i+1) (by omega) (by omega);simp at ih;have hc:=hf x (aR hx);simp at hc;rw[g107L0e,bh hx];cases e:p x with
   |true=>
     rw[e]at hc;simp (disch:=omega) [-getElem?_pos,g107B0,hx,hi,e,bP,Iw,hq.norm,hq.shift,hc,hcap,hpass,harg,hnrm,hpo]
   |false=>
     rw[e]at hc;simp (disch:=omega) [-getElem?_pos,g107B0,hx,hi,e,bP,ah,hq.norm,hq.shift,hc,ih,hcap,hpass,harg,hnrm,hpo];cases bP p (s.drop (i+1)) with
     |none=>rfl
     |some k=>simp[Iw];omega
theorem c75{s:List Ty}(hS:Sm s){sh:Sh}(hq:aL sh){g:Nat}{cap:List AV}{p:Ty→Bool}(hcap:bD.d5 cap=true)(hpass:bL.iI cap=true)(harg:dP [] 1 cap=cap)(hnrm:∀aI ts,bj aI ts cap=(cap,aI,ts))(hpo:cap.all bI=true)
   (hf:∀x∈s,(aC AP).i g (.pv x.pv::cap) sh []=some ([.pv (.bool (p x))],sh,[])):(aC AP).i 75 [.pv (.au (s.map Ty.pv)),.fn g cap] sh []=some ([.pv (.bool (s.any p))],sh,[]):=by
 have h:=Tm hS hq hcap hpass harg hnrm hpo hf _ 0 rfl (by omega);simp at h
 have c107:(aC AP).i 107 [.pv (.au (s.map Ty.pv)),.fn g cap] sh []=some ([.pv (vI (match bP p s with|some k=>k|none=>-1))],sh,[]):=by
   rw[aD (af:=g107) rfl (by simp[g107])];cases hi:bP p s with
   |none=>rw[hi]at h;simp[Iw]at h;simp[g107,h,hq.norm,hcap]
   |some k=>rw[hi]at h;simp[Iw]at h;simp[g107,h,hq.norm,hcap]
 rw[aD (af:=g75) rfl (by simp[g75])];cases hi:bP p s with
 |none=>
   rw[hi]at c107;have:s.any p=false:=by rw[List.any_eq_false];intro x hx;rw[iU.1 hi x hx];simp
   simp[g75,c107,hq.norm,hq.shift,hcap,hpass,hnrm,this]
 |some k=>
   rw[hi]at c107
   have:s.any p=true:=by
     cases e:s.any p with
     |true=>rfl
     |false=>rw[List.any_eq_false]at e;have:=iU.2 (fun x hx=>by simpa using e x hx);rw[hi]at this;cases this
   simp[g75,c107,hq.norm,hq.shift,hcap,hpass,hnrm,this]
inductive Ty.Nm:Ty→Prop
 |mk {t:Ty}:yu t.name→(∀x∈t.args,Ty.Nm x)→Ty.Nm t
theorem Ty.Nm.sm{t:Ty}(h:t.Nm):yu t.name:=by cases h;assumption
theorem Ty.Nm.ga{t:Ty}(h:t.Nm):∀x∈t.args,x.Nm:=by cases h;assumption
theorem c29{t:Ty}(hO:t.Ok)(hN:t.Nm):(aC AP).p 29 [t.pv]=some [.bool (h_ t)]:=by
 revert hO hN
 refine Ty.dH (p:=fun t=>t.Ok→t.Nm→(aC AP).p 29 [t.pv]=some [.bool (h_ t)]) ?_ t;intro t ih hO hN;have ht:=c74 hN.sm (n:=t.args.length);have hl:=c73 hN.sm (lo:=97) (hi:=122)
 have hc:=c75 hO.sm (sh:=[]) (by intro cs h;simp at h) (g:=76) (cap:=[]) (p:=fun x=>!h_ x) rfl rfl rfl (fun _ _=>rfl) rfl (by
   intro x hx;have hx':=ih x hx (hO.ga x hx) (hN.ga x hx);simp at hx';rw[aD (af:=g76) rfl (by simp[g76])];simp[g76,hx'])
 have hany:=rY (p:=h_) (l:=t.args);rw[ae (af:=g29) rfl rfl (by decide),Iv];have h0:((t.args.length:Int) == 0)=decide (t.args=[]):=by rw[Bool.eq_iff_iff];simp
 by_cases k1:t.kind=1
 · simp[g29,k1,h0]
   (repeat' split)<;>simp_all<;>omega
 · by_cases k2:t.kind=2
   · simp[g29,k2,h0]
     (repeat' split)<;>simp_all<;>omega
   · by_cases k3:t.kind=3
     · simp[g29,k3,h0]
       (repeat' split)<;>simp_all<;>omega
     · by_cases k5:t.kind=5
       · simp[g29,k5,h0,hl]
         (repeat' split)<;>simp_all<;>omega
       · by_cases k4:t.kind=4
         · simp[g29,k4,h0,ht,hc]
           (repeat' split)<;>simp_all<;>omega
         ·simp[g29,k1,k2,k3,k4,k5,h0]
abbrev Sc:=As
structure En where
 name:List UInt8
 sc:Sc
 deriving Inhabited
def En.pv(a:En):PV:=.agg [.str a.name,.int .i64 a.sc.id,.int .i64 a.sc.ty.kind,.str a.sc.ty.name,.int .i64 a.sc.ty.id,.int .i64 a.sc.ty.home,.au (a.sc.ty.args.map Ty.pv)]
@[simp] theorem En.lZ(a:En):a.pv=.agg [.str a.name,.int .i64 a.sc.id,.int .i64 a.sc.ty.kind,.str a.sc.ty.name,.int .i64 a.sc.ty.id,.int .i64 a.sc.ty.home,.au (a.sc.ty.args.map Ty.pv)]:=rfl
@[simp] theorem En.eta(t:En):En.mk t.name t.sc=t:=rfl
theorem To:El En.pv 7 true:=⟨fun x=>by simp,fun x=>by simp⟩
noncomputable instance:DecidableEq En:=fun _ _=>Classical.propDecidable _
@[simp] theorem R3{l:List En}:bf 7 (l.map En.pv)=true:=To.head l
def l4:Sc:=⟨0,⟨0,[],0,0,[]⟩⟩
def E_:List En→List UInt8→Option Sc
 |[],_=>none
 |a::r,s=>match E_ r s with
   |some c=>some c
   |none=>if a.name=s then some a.sc else none
theorem Lp(l:List En)(a:En)(s:List UInt8):E_ (l++[a]) s=if a.name=s then some a.sc else E_ l s:=by
 induction l with
 |nil=>simp[E_]
 |cons b r ih=>
   simp only[List.cons_append,E_,ih];by_cases h:a.name=s
   ·simp[h]
   ·simp[h]
def Ob(o:Option Sc):List PV:=[(o.getD l4).pv,.bool o.isSome]
theorem Tq{l:List En}(hS:Sm l){s:List UInt8}:∀(k:Nat),k≤l.length →
   cl AP g181L0 ⟨[(0,.pv (.au (l.map En.pv))),(1,.pv (.str s)),(4,.az 4 0),(6,.pv (vI ((k:Int)-1)))],[(4,[.pv (vI 0),.pv (vI 0),.pv (.str []),.pv (vI 0),.pv (vI 0),.own [] 0])],[],[0]⟩ =
     match E_ (l.take k) s with
     |some c=>some (.ret,⟨[(4,.az 4 0),(5,.pv (.bool true))],[(4,[.pv (vI c.id),.pv (vI c.ty.kind),.pv (.str c.ty.name),.pv (vI c.ty.id),.pv (vI c.ty.home),.pv (.au (c.ty.args.map Ty.pv))])],[],[0]⟩)
     |none=>some (.exit 0,⟨[(0,.pv (.au (l.map En.pv))),(1,.pv (.str s)),(4,.az 4 0),(6,.pv (vI (-1))),(11,.pv (.bool false))],[(4,[.pv (vI 0),.pv (vI 0),.pv (.str []),.pv (vI 0),.pv (vI 0),.own [] 0])],[],[0]⟩)
 |0,_=>by
   rw[g181L0e];simp[g181B0,E_]
 |k+1,hk=>by
   obtain⟨x,hx⟩:=aV (l:=l) (i:=k) (by omega);have ih:=Tq hS (s:=s) k (by omega);unfold Sm at hS;have e1:((k+1:Nat):Int)-1=k:=by omega
   rw[g181L0e,e1,List.take_add_one,hx];simp only[Option.toList_some,Lp];by_cases e:x.name=s
   ·simp (disch:=omega) [-getElem?_pos,g181B0,hx,e]
   ·simp (disch:=omega) [-getElem?_pos,g181B0,hx,e,ah];simpa using ih
theorem c181{l:List En}(hS:Sm l){s:List UInt8}:(aC AP).p 181 [.au (l.map En.pv),.str s]=some (Ob (E_ l s)):=by
 have h:=Tq hS (s:=s) l.length (Nat.le_refl _);unfold Sm at hS;rw[ae (af:=g181) rfl rfl (by decide)];rw[List.take_length]at h;rw[g181L0e]at h;cases e:E_ l s with
 |none=>
   rw[e]at h;simp at h;simp (disch:=omega) [g181,ah,g181L0e,h,Ob,l4]
 |some c=>
   rw[e]at h;simp at h;simp (disch:=omega) [g181,ah,g181L0e,h,Ob]
structure R4{α:Type}(f:α→PV)(cs:α→List PV)(sz:Nat):Prop where
 eq:∀x,f x=.agg (cs x)
 len:∀x,(cs x).length=sz
 leaf:∀x,((cs x).map AV.pv).all aT=true
def Ts(z1 z2:List PV)(s1 s2:Nat):aq:=
 (.seq
  (.iA [⟨some 18,none,[.t 17,.t 16],.v (.bin .lss)⟩] [1,2,15,16,17,18])
  (.seq
   (.cond (.t 18)
    .skip
    (.exit 0))
   (.seq
    (.block 1
     (.seq
      (.iA [⟨some 19,none,[.t 17],.v (.mv)⟩,
        ⟨some 20,none,[.t 15,.t 17],.v (.d3 s1)⟩,
        ⟨some 21,none,[.t 20],.dU s1 true⟩,
        ⟨some 8,none,[],.alloc 8 z1⟩,
        ⟨some 7,none,[.t 19],.v (.mv)⟩,
        ⟨none,none,[.t 8,.t 21],.bB 8 0 s1⟩] [1,2,7,8,15,16,17])
      (.seq
       (.iA [⟨some 22,none,[.t 1],.v (.mv)⟩,
         ⟨some 23,none,[.t 7],.v (.mv)⟩,
         ⟨some 24,none,[.t 22,.t 23],.v (.d3 s2)⟩,
         ⟨some 25,none,[.t 24],.dU s2 true⟩,
         ⟨some 9,none,[],.alloc 9 z2⟩,
         ⟨none,none,[.t 9,.t 25],.bB 9 0 s2⟩] [1,2,8,9,15,16,17])
       (.seq
        (.iA [⟨some 26,none,[.t 2],.v (.mv)⟩,
          ⟨some 27,none,[.t 8],.bX 8 0 s1 true⟩,
          ⟨some 28,none,[.t 9],.bX 9 0 s2 true⟩,
          ⟨some 29,none,[.t 26,.t 27,.t 28],.fm⟩,
          ⟨some 30,none,[.t 29],.v (.un .not)⟩] [1,2,15,16,17,30])
        (.cond (.t 30)
         (.seq
          (.iA [⟨some 6,none,[.c (.pv (.bool false))],.v (.mv)⟩] [6])
          .ret)
         .skip)))))
    (.iA [⟨some 31,none,[.t 17,.c (.pv (.int .i64 1))],.v (.bin .add)⟩,
      ⟨some 17,none,[.t 31],.v (.mv)⟩] [1,2,15,16,17]))))
def Vk(z1 z2:List PV)(s1 s2:Nat):aq:=.loop [1,2,15,16,17] (Ts z1 z2 s1 s2)
theorem Lq{z1 z2:List PV}{s1 s2:Nat}{st:St}:cl AP (Vk z1 z2 s1 s2) st=after (cl AP (Vk z1 z2 s1 s2)) (cl AP (Ts z1 z2 s1 s2) (norm (restrict [1,2,15,16,17] st))):=aH
def Tt(z1 z2:List PV)(s1 s2:Nat):aA:=⟨3,32,[.t 6],
 (.seq
  (.iA [⟨some 6,none,[.c (.pv (.bool false))],.v (.mv)⟩] [0,1,2])
  (.seq
   (.seq
    (.iA [⟨some 10,none,[.t 0],.v (.mv)⟩,
      ⟨some 11,none,[.t 10],.v (.len)⟩,
      ⟨some 12,none,[.t 1],.v (.mv)⟩,
      ⟨some 13,none,[.t 12],.v (.len)⟩,
      ⟨some 14,none,[.t 11,.t 13],.v (.bin .neq)⟩] [0,1,2,14])
    (.cond (.t 14)
     (.seq
      (.iA [⟨some 6,none,[.c (.pv (.bool false))],.v (.mv)⟩] [6])
      .ret)
     .skip))
   (.seq
    (.seq
     (.iA [⟨some 15,none,[.t 0],.v (.mv)⟩,
       ⟨some 16,none,[.t 15],.v (.len)⟩,
       ⟨some 17,none,[.c (.pv (.int .i64 0))],.v (.mv)⟩] [1,2,15,16,17])
     (.block 0
      (Vk z1 z2 s1 s2)))
    (.seq
     (.iA [⟨some 6,none,[.c (.pv (.bool true))],.v (.mv)⟩] [6])
     .ret)))),none,false⟩
def Lr{α β:Type}(F:AV)(sh:Sh)(c:α→List PV)(d:β→List PV)(p:α→β→Bool)(s:List α):Prop:=
 ∀x∈s,∀y,exec (aC AP) .fm [F,.agg ((c x).map .pv),.agg ((d y).map .pv)] none sh []=some ⟨.pv (.bool (p x y)),none,sh,[]⟩
def lC{α β:Type}(p:α→β→Bool):List α→List β→Bool
 |[],[]=>true
 |x::r,y::t=>p x y && lC p r t
 |_,_=>false
theorem AT{α β:Type}{p:α→β→Bool}:∀{a:List α} {b:List β},lC p a b=true→a.length=b.length
 |[],[],_=>rfl
 |x::r,y::t,h=>by simp only[lC,Bool.and_eq_true]at h;simp[AT h.2]
 |[],_::_,h=>by simp[lC]at h
 |_::_,[],h=>by simp[lC]at h
def Tu{α β:Type}(f:α→PV)(g:β→PV)(F:AV)(a:List α)(b:List β)(sh:Sh)(t:Bool):Option (bg×St):=
 if t=true then some (.exit 0,⟨[(1,.pv (.au (b.map g))),(2,F),(15,.pv (.au (a.map f))),(16,.pv (vI a.length)),(17,.pv (vI a.length)),(18,.pv (.bool false))],[],sh,[]⟩)
 else some (.ret,⟨[(6,.pv (.bool false))],[],sh,[]⟩)
theorem Wo{α β:Type}{f:α→PV}{g:β→PV}{c:α→List PV}{d:β→List PV}{s1 s2:Nat}(hf:R4 f c s1)(hg:R4 g d s2){z1 z2:List PV}(h1:z1.length=s1)(h2:z2.length=s2){a:List α}{b:List β}(hS:Sm a)(hl:a.length=b.length)
   {sh:Sh} (hq:aL sh) {k:Nat} {cap:List AV} {p:α→β→Bool} (hcap:bD.d5 cap=true) (hp:Lr (.fn k cap) sh c d p a):∀(n i:Nat),a.length-i=n→i≤a.length →
   cl AP (Vk z1 z2 s1 s2) ⟨[(1,.pv (.au (b.map g))),(2,.fn k cap),(15,.pv (.au (a.map f))),(16,.pv (vI a.length)),(17,.pv (vI i))],[],sh,[]⟩=Tu f g (.fn k cap) a b sh (lC p (a.drop i) (b.drop i))
 |0,i,hn,hi=>by
   have:i=a.length:=by omega
   subst this;rw[Lq,l0 (l:=b) (by omega),l0 (l:=a) (by omega)];simp[Ts,Tu,lC,hq.norm,hcap]
 |n+1,i,hn,hi=>by
   have hi:i<a.length:=(by omega);obtain⟨x,hx⟩:=aV hi;obtain⟨y,hy⟩:=aV (hl ▸ hi);unfold Sm at hS;have ih:=Wo hf hg h1 h2 hS hl hq hcap hp n (i+1) (by omega) (by omega);simp at ih;have hc:=hp x (aR hx) y;rw[Lq,bh hx,bh hy];have u1:=hf.len x;have u2:=hg.len y;have e1:(z1.map bA.zeroCell).drop s1=[]:=(by rw[List.drop_eq_nil_of_le];simp[h1]);have e2:(z2.map bA.zeroCell).drop s2=[]:=(by rw[List.drop_eq_nil_of_le];simp[h2]);have t1:((c x).map AV.pv).take s1=(c x).map AV.pv:=(by rw[List.take_of_length_le];simp[u1]);have t2:((d y).map AV.pv).take s2=(d y).map AV.pv:=(by rw[List.take_of_length_le];simp[u2]);have q1:(c x).take s1=c x:=(by rw[List.take_of_length_le];omega);have q2:(d y).take s2=d y:=(by rw[List.take_of_length_le];omega);have w1:=hf.leaf x;have w2:=hg.leaf y;cases e:p x y with
   |true=>
     rw[e]at hc;simp (disch:=omega) [-getElem?_pos,-ep,-List.all_map,-List.map_take,-List.map_drop,-List.map_eq_nil_iff,Ts,hx,hy,hi,e,lC,ah,hq.norm,hc,ih,hcap,hf.eq,hg.eq,u1,u2,h1,h2,e1,e2,t1,t2,q1,q2,w1,w2]
   |false=>
     rw[e]at hc;simp (disch:=omega) [-getElem?_pos,-ep,-List.all_map,-List.map_take,-List.map_drop,-List.map_eq_nil_iff,Ts,hx,hy,hi,e,lC,Tu,hq.norm,hc,hcap,hf.eq,hg.eq,u1,u2,h1,h2,e1,e2,t1,t2,q1,q2,w1,w2]
theorem WG{α β:Type}{f:α→PV}{g:β→PV}{c:α→List PV}{d:β→List PV}{s1 s2:Nat}(hf:R4 f c s1)(hg:R4 g d s2){z1 z2:List PV}(h1:z1.length=s1)(h2:z2.length=s2){m:Nat}(hm:AP m=some (Tt z1 z2 s1 s2)){a:List α}{b:List β}(hS:Sm a)
   {sh:Sh} (hq:aL sh) {k:Nat} {cap:List AV} {p:α→β→Bool} (hcap:bD.d5 cap=true) (hp:Lr (.fn k cap) sh c d p a) :
   (aC AP).i m [.pv (.au (a.map f)),.pv (.au (b.map g)),.fn k cap] sh []=some ([.pv (.bool (lC p a b))],sh,[]):=by
 rw[aD hm (by simp[Tt])];by_cases hl:a.length=b.length
 · have h:=Wo hf hg h1 h2 hS hl hq hcap hp _ 0 rfl (by omega);simp at h;cases e:lC p a b with
   |true=>rw[e]at h;simp[Tu]at h;simp[Tt,h,hq.norm,hcap,hl.symm]
   |false=>rw[e]at h;simp[Tu]at h;simp[Tt,h,hq.norm,hcap,hl.symm]
 · have e:lC p a b=false:=by
     cases e:lC p a b with
     |true=>exact absurd (AT e) hl
     |false=>rfl
   simp[Tt,hq.norm,hcap,hl,e];omega
section
variable {P:Program} {n:Nat} {t e:TypeId} {p:PV}
theorem Fa(hu:P.underlying t=some (.int .i64))(h:tP P n t p):∃i,p=vI i:=by
 cases n with
 |zero=>simp[tP]at h
 |succ n=>simp only[tP,hu]at h;obtain⟨i,rfl,_⟩:=h;exact⟨i,rfl⟩
theorem Ls(hu:P.underlying t=some (.int .i64))(h:tP P n t p):∃i,i≤9223372036854775807∧p=vI i:=by
 cases n with
 |zero=>simp[tP]at h
 |succ n=>
   simp only[tP,hu]at h;obtain⟨i,rfl,hw⟩:=h;refine⟨i,?_,rfl⟩;simp[Lit.wf,IntKind.min,IntKind.max,IntKind.signed,IntKind.bits]at hw;omega
theorem Lt{α:Type}{f:α→PV}(hu:P.underlying t=some (.slice e))(he:∀(m:Nat) (q:PV),tP P m e q→∃x,q=f x)(h:tP P n t p):∃l:List α,p=.au (l.map f):=by
 cases n with
 |zero=>simp[tP]at h
 |succ n=>
   simp only[tP,hu]at h;obtain⟨els,rfl,_,h⟩:=h
   have key:∀els:List PV,(∀q∈els,tP P n e q)→∃l:List α,els=l.map f:=by
     intro els;induction els with
     |nil=>intro _;exact⟨[],rfl⟩
     |cons q r ih=>
       intro h;obtain⟨x,rfl⟩:=he n q (h q (by simp));obtain⟨l,rfl⟩:=ih (fun q hq=>h q (by simp[hq]));exact⟨x::l,rfl⟩
   obtain⟨l,rfl⟩:=key els h;exact⟨l,rfl⟩
theorem AU(hu:P.underlying t=some (.slice e))(he:P.underlying e=some (.int .i64))(h:tP P n t p):∃L:List Int,p=.au (L.map vI):=
 Lt hu (fun _ _ h=>Fa he h) h
end
end Go.Ab.Lw
namespace Go.Ab.Lw
open Ev
def pd(s:List UInt8):Ty:=⟨5,s,0,0,[]⟩
theorem c106{s:List UInt8}:(aC AP).p 106 [.str s]=some [(pd s).pv]:=by
 rw[ae (af:=g106) rfl rfl (by decide)];simp[g106,pd]
def l6:List Ty:=[pd [97],pd [98],pd [99]]
theorem c67:(aC AP).p 67 []=some [.au (l6.map Ty.pv)]:=by
 have h1:=c106 (s:=[97]);have h2:=c106 (s:=[98]);have h3:=c106 (s:=[99]);simp at h1 h2 h3;rw[ae (af:=g67) rfl rfl (by decide)];simp[g67,h1,h2,h3,l6]
def Tv:aq:=
 (.seq
  (.iA [⟨some 9,none,[.t 8,.t 7],.v (.bin .lss)⟩] [0,1,7,8,9])
  (.seq
   (.cond (.t 9)
    .skip
    (.exit 0))
   (.seq
    (.block 1
     (.seq
      (.iA [⟨some 10,none,[.t 8],.v (.mv)⟩,
        ⟨some 5,none,[.t 10],.v (.mv)⟩] [0,1,5,7,8])
      (.seq
       (.iA [⟨some 11,none,[.t 1],.v (.mv)⟩,
         ⟨some 12,none,[.t 0],.v (.mv)⟩,
         ⟨some 13,none,[.t 5],.v (.mv)⟩,
         ⟨some 14,none,[.t 12,.t 13],.v (.d3 1)⟩,
         ⟨some 15,none,[.t 14],.v (.fh 1 false)⟩,
         ⟨some 16,none,[.t 11,.t 15],.v (.bin .eql)⟩] [0,1,5,7,8,16])
       (.cond (.t 16)
        (.seq
         (.iA [⟨some 17,none,[.t 5],.v (.mv)⟩,
           ⟨some 4,none,[.t 17],.v (.mv)⟩] [4])
         .ret)
        .skip))))
    (.iA [⟨some 18,none,[.t 8,.c (.pv (.int .i64 1))],.v (.bin .add)⟩,
      ⟨some 8,none,[.t 18],.v (.mv)⟩] [0,1,7,8]))))
def Vl:aq:=.loop [0,1,7,8] Tv
theorem Lu{st:St}:cl AP Vl st=after (cl AP Vl) (cl AP Tv (norm (restrict [0,1,7,8] st))):=aH
def Tw:aA:=⟨2,19,[.t 4],
 (.seq
  (.iA [⟨some 4,none,[.c (.pv (.int .i64 0))],.v (.mv)⟩] [0,1])
  (.seq
   (.seq
    (.iA [⟨some 6,none,[.t 0],.v (.mv)⟩,
      ⟨some 7,none,[.t 6],.v (.len)⟩,
      ⟨some 8,none,[.c (.pv (.int .i64 0))],.v (.mv)⟩] [0,1,7,8])
    (.block 0
     Vl))
   (.seq
    (.iA [⟨some 4,none,[.c (.pv (.int .i64 (-1)))],.v (.mv)⟩] [4])
    .ret))),none,false⟩
def VM(g:Nat):aA:=⟨2,9,[.t 4],
 (.seq
  (.iA [⟨some 4,none,[.c (.pv (.bool false))],.v (.mv)⟩] [0,1])
  (.seq
   (.iA [⟨some 5,none,[.t 0],.v (.mv)⟩,
     ⟨some 6,none,[.t 1],.v (.mv)⟩,
     ⟨some 7,none,[.t 5,.t 6],.aJ g⟩,
     ⟨some 8,none,[.t 7,.c (.pv (.int .i64 0))],.v (.bin .geq)⟩,
     ⟨some 4,none,[.t 8],.v (.mv)⟩] [4])
   .ret)),none,false⟩
structure Vm{α:Type}[DecidableEq α](f:α→PV):Prop where
 el:El f 1 false
 eq:∀x y,bA (.bin .eql) [.pv (f x),.pv (f y)]=some (.pv (.bool (decide (x=y))))
theorem Oc:Vm PV.str:=⟨qf,fun x y=>by simp;rw[Bool.eq_iff_iff];simp⟩
def R5{α:Type}(f:α→PV)(s:List α)(y:α)(i:Nat):Option Nat→Option (bg×St)
 |some k=>some (.ret,⟨[(4,.pv (vI (i+k:Nat)))],[],[],[]⟩)
 |none=>some (.exit 0,⟨[(0,.pv (.au (s.map f))),(1,.pv (f y)),(7,.pv (vI s.length)),(8,.pv (vI s.length)),(9,.pv (.bool false))],[],[],[]⟩)
theorem Wp{α:Type}[DecidableEq α]{f:α→PV}(he:Vm f){s:List α}(hS:Sm s)(y:α):∀(n i:Nat),s.length-i=n→i≤s.length →
   cl AP Vl ⟨[(0,.pv (.au (s.map f))),(1,.pv (f y)),(7,.pv (vI s.length)),(8,.pv (vI i))],[],[],[]⟩=R5 f s y i (bP (fun x=>decide (y=x)) (s.drop i))
 |0,i,hn,hi=>by
   have:i=s.length:=by omega
   subst this;rw[Lu];simp[Tv,bP,R5]
 |n+1,i,hn,hi=>by
   have hi:i<s.length:=(by omega);obtain⟨x,hx⟩:=aV hi;unfold Sm at hS;have ih:=Wp he hS y n (i+1) (by omega) (by omega);simp at ih;have h1:=he.el.len x;have h2:=he.el.of x;have h3:=he.eq y x;rw[Lu,bh hx];by_cases e:y=x
   ·rw[decide_eq_true e]at h3;simp (disch:=omega) [-getElem?_pos,Tv,hx,hi,e,bP,R5,h1,h2];rw[←e]at h3⊢;simp[h3]
   · rw[decide_eq_false e]at h3;simp (disch:=omega) [-getElem?_pos,Tv,hx,hi,e,bP,ah,ih,h1,h2,h3];cases bP (fun x=>decide (y=x)) (s.drop (i+1)) with
     |none=>rfl
     |some k=>simp[R5];omega
theorem WH{α:Type}[DecidableEq α]{f:α→PV}(he:Vm f){k:Nat}(hk:AP k=some Tw){s:List α}(hS:Sm s){y:α}:(aC AP).p k [.au (s.map f),f y]=some [vI (jN (bP (fun x=>decide (y=x)) s))]:=by
 have h:=Wp he hS y _ 0 rfl (by omega);simp at h;rw[ae hk rfl (by simp[Tw])];cases hi:bP (fun x=>decide (y=x)) s with
 |none=>rw[hi]at h;simp[R5]at h;simp[Tw,h,jN]
 |some k=>rw[hi]at h;simp[R5]at h;simp[Tw,h,jN]
theorem Od{α:Type}[DecidableEq α]{s:List α}{y:α}:(s.any fun x=>decide (y=x))=decide (y∈s):=by
 rw[Bool.eq_iff_iff];simp
theorem WI{α:Type}[DecidableEq α]{f:α→PV}(he:Vm f){m k:Nat}(hm:AP m=some (VM k))(hk:AP k=some Tw){s:List α}(hS:Sm s){y:α}:(aC AP).p m [.au (s.map f),f y]=some [.bool (decide (y∈s))]:=by
 have h:=WH he hk hS (y:=y);rw[ae hm rfl (by simp[VM]),←Od,←t4];simp[VM,h]
theorem Wq{s:List Int}(hS:Sm s)(y:Int):∀(n i:Nat),s.length-i=n→i≤s.length →
   cl AP g95L0 ⟨[(0,.pv (.au (s.map vI))),(1,.pv (vI y)),(5,.pv (vI i))],[],[],[]⟩ =
     if y∈s.drop i then some (.ret,⟨[(4,.pv (.bool true))],[],[],[]⟩) else some (.exit 0,⟨[(0,.pv (.au (s.map vI))),(1,.pv (vI y)),(5,.pv (vI s.length)),(9,.pv (.bool false))],[],[],[]⟩)
 |0,i,hn,hi=>by
   have:i=s.length:=by omega
   subst this;rw[g95L0e];simp[g95B0]
 |n+1,i,hn,hi=>by
   have hi:i<s.length:=(by omega);obtain⟨x,hx⟩:=aV hi;unfold Sm at hS;have ih:=Wq hS y n (i+1) (by omega) (by omega);simp at ih;rw[g95L0e,bh hx];by_cases e:x=y
   ·simp (disch:=omega) [-getElem?_pos,g95B0,hx,hi,e]
   ·have e':¬y=x:=fun h=>e h.symm;simp (disch:=omega) [-getElem?_pos,g95B0,hx,hi,e,e',ah,ih]
theorem c95{s:List Int}(hS:Sm s){y:Int}:(aC AP).p 95 [.au (s.map vI),vI y]=some [.bool (decide (y∈s))]:=by
 have h:=Wq hS y _ 0 rfl (by omega);simp at h;rw[ae (af:=g95) rfl rfl (by decide)];by_cases e:y∈s<;>simp[g95,h,e]
mutual
def Ty.nodes:Ty→List Ty
 |⟨k,n,i,h,as⟩=>⟨k,n,i,h,as⟩::Ty.t7 as
def Ty.t7:List Ty→List Ty
 |[]=>[]
 |a::r=>a.nodes++Ty.t7 r
end
theorem Ty.vX:∀l:List Ty,Ty.t7 l=l.flatMap Ty.nodes
 |[]=>by simp[Ty.t7]
 |a::r=>by simp[Ty.t7,Ty.vX r]
theorem Ty.aM(t:Ty):t.nodes=t::t.args.flatMap Ty.nodes:=by cases t;simp only[Ty.nodes,Ty.vX]
theorem gk{α:Type}[DecidableEq α]:∀{l S:List α},l.Nodup→(∀x∈l,x∈S)→l.length≤S.length
 |[],_,_,_=>by simp
 |x::r,S,hn,h=>by
   have hx:=h x (by simp)
   have hr:=gk (l:=r) (S:=S.erase x) (List.nodup_cons.1 hn).2 (fun y hy=>by
     rw[List.mem_erase_of_ne]
     ·exact h y (by simp[hy])
     ·rintro rfl;exact (List.nodup_cons.1 hn).1 hy)
   have:=List.length_erase_of_mem hx;have:0<S.length:=List.length_pos_of_mem hx;simp;omega
def ej(out:List Int)(x:Ty):List Int:=if x.kind=1∧x.id∉out then out++[x.id] else out
structure lD(S out:List Int):Prop where
 nodup:out.Nodup
 sub:∀x∈out,x∈S
 Ix:S.length<1099511627776
theorem lD.len{S out:List Int}(h:lD S out):Sm out:=by
 have:=gk h.nodup h.sub;have:=h.Ix;unfold Sm;omega
theorem lD.add{S out:List Int}(h:lD S out){x:Ty}(hx:x.kind=1→x.id∈S):lD S (ej out x):=by
 unfold ej;split
 · rename_i e;refine⟨?_,?_,h.Ix⟩
   · rw[List.nodup_append];refine⟨h.nodup,by simp,?_⟩;intro a ha b hb;simp at hb;subst hb
     rintro rfl;exact e.2 ha
   · intro y hy;simp at hy;rcases hy with hy|rfl
     ·exact h.sub y hy
     ·exact hx e.1
 ·exact h
theorem lD.fold{S:List Int}:∀{l:List Ty} {out:List Int},lD S out→(∀x∈l,x.kind=1→x.id∈S)→lD S (l.foldl ej out)
 |[],_,h,_=>h
 |x::r,out,h,hx=>by
   simp only[List.foldl_cons];exact lD.fold (h.add (hx x (by simp))) (fun y hy=>hx y (by simp[hy]))
def vars(l:List Ty):List Int:=(l.flatMap Ty.nodes).foldl ej []
theorem t8{S:List Int}(h:S.length<1099511627776):lD S []:=⟨by simp,by simp,h⟩
mutual
def Ty.eT(k:Int):Ty→List Ty
 |⟨kd,n,i,h,as⟩=>if kd=k∧as.length=0 then [⟨kd,n,i,h,as⟩] else Ty.Lv k as
def Ty.Lv(k:Int):List Ty→List Ty
 |[]=>[]
 |a::r=>a.eT k++Ty.Lv k r
end
theorem Ty.Fb(k:Int):∀l:List Ty,Ty.Lv k l=l.flatMap (Ty.eT k)
 |[]=>by simp[Ty.Lv]
 |a::r=>by simp[Ty.Lv,Ty.Fb k r]
theorem Ty.l7(k:Int)(t:Ty):t.eT k=if t.kind=k∧t.args.length=0 then [t] else t.args.flatMap (Ty.eT k):=by cases t;simp only[Ty.eT,Ty.Fb]
noncomputable def gL(out:List Ty)(x:Ty):List Ty:=if x∈out then out else out++[x]
structure fU(S out:List Ty):Prop where
 nodup:out.Nodup
 sub:∀x∈out,x∈S
 Ix:S.length<1099511627776
 ok:∀x∈S,x.Ok
theorem fU.len{S out:List Ty}(h:fU S out):Sm out:=by
 have:=gk h.nodup h.sub;have:=h.Ix;unfold Sm;omega
theorem fU.add{S out:List Ty}(h:fU S out){x:Ty}(hx:x∈S):fU S (gL out x):=by
 unfold gL;split
 ·exact h
 · rename_i e;refine⟨?_,?_,h.Ix,h.ok⟩
   · rw[List.nodup_append];refine⟨h.nodup,by simp,?_⟩;intro a ha b hb;simp at hb;subst hb
     rintro rfl;exact e ha
   · intro y hy;simp at hy;rcases hy with hy|rfl
     ·exact h.sub y hy
     ·exact hx
theorem fU.fold{S:List Ty}:∀{l:List Ty} {out:List Ty},fU S out→(∀x∈l,x∈S)→fU S (l.foldl gL out)
 |[],_,h,_=>h
 |x::r,out,h,hx=>by
   simp only[List.foldl_cons];exact fU.fold (h.add (hx x (by simp))) (fun y hy=>hx y (by simp[hy]))
theorem Tx{S out:List Ty}(h:fU S out)(t:Ty):∀(n i:Nat),out.length-i=n→i≤out.length →
   cl AP g99L0 ⟨[(0,.own (out.map Ty.pv) 0),(4,.az 4 0),(7,.pv (vI i))],[(4,[.pv (vI t.kind),.pv (.str t.name),.pv (vI t.id),.pv (vI t.home),.pv (.au (t.args.map Ty.pv))])],[],[out.length]⟩ =
     if t∈out.drop i then some (.ret,⟨[(6,.own (out.map Ty.pv) 0)],[],[],[out.length]⟩)
     else some (.exit 0,⟨[(0,.own (out.map Ty.pv) 0),(4,.az 4 0),(7,.pv (vI out.length)),(22,.pv (.bool false))],[(4,[.pv (vI t.kind),.pv (.str t.name),.pv (vI t.id),.pv (vI t.home),.pv (.au (t.args.map Ty.pv))])],[],[out.length]⟩)
 |0,i,hn,hi=>by
   have:i=out.length:=by omega
   subst this;rw[g99L0e];simp[g99B0]
 |n+1,i,hn,hi=>by
   have hi:i<out.length:=(by omega);obtain⟨x,hx⟩:=aV hi;have hS:=h.len;unfold Sm at hS;have k:=c20 (b:=t) (h.ok x (h.sub x (aR hx)));have ih:=Tx h t n (i+1) (by omega) (by omega);rw[g99L0e]at ih⊢;rw[bh hx];simp at ih k;by_cases e:x=t
   ·subst e;rw[decide_eq_true rfl]at k;simp (disch:=omega) [-getElem?_pos,g99B0,hx,hi,k]
   ·have e':¬t=x:=fun h=>e h.symm;rw[decide_eq_false e]at k;simp (disch:=omega) [-getElem?_pos,g99B0,hx,hi,k,e',ah];rw[g99L0e];simp[ih]
theorem Tz{S:List Ty}{kd:Int}{t:Ty}(hS:Sm t.args)(h:∀x∈t.args,∀out,fU S out→(aC AP).i 99 [.own (out.map Ty.pv) 0,.pv x.pv,.pv (vI kd)] [] [out.length]=some ([.own (((x.eT kd).foldl gL out).map Ty.pv) 0],[],[((x.eT kd).foldl gL out).length]))
   (hk:∀x∈t.args.flatMap (Ty.eT kd),x∈S):∀(n i:Nat),t.args.length-i=n→i≤t.args.length→∀out,fU S out →
   cl AP g99L1 ⟨[(0,.own (out.map Ty.pv) 0),(2,.pv (vI kd)),(4,.az 4 0),(8,.pv (vI i))],[(4,[.pv (vI t.kind),.pv (.str t.name),.pv (vI t.id),.pv (vI t.home),.pv (.au (t.args.map Ty.pv))])],[],[out.length]⟩ =
     some (.exit 2,⟨[(0,.own ((((t.args.drop i).flatMap (Ty.eT kd)).foldl gL out).map Ty.pv) 0),(2,.pv (vI kd)),(4,.az 4 0),(8,.pv (vI t.args.length)),(40,.pv (.bool false))],[(4,[.pv (vI t.kind),.pv (.str t.name),.pv (vI t.id),.pv (vI t.home),.pv (.au (t.args.map Ty.pv))])],[],[(((t.args.drop i).flatMap (Ty.eT kd)).foldl gL out).length]⟩)
 |0,i,hn,hi,out,hc=>by
   have:i=t.args.length:=by omega
   subst this;rw[g99L1e];simp[g99B1]
 |n+1,i,hn,hi,out,hc=>by
   have hi:i<t.args.length:=(by omega);obtain⟨x,hx⟩:=aV hi;unfold Sm at hS;have hkx:∀y∈x.eT kd,y∈S:=fun y hy=>hk y (by simp only[List.mem_flatMap];exact⟨x,aR hx,hy⟩)
   have k:=h x (aR hx) out hc;have ih:=Tz hS h hk n (i+1) (by omega) (by omega) _ (hc.fold hkx);rw[g99L1e]at ih⊢;rw[bh hx];simp at k ih;simp (disch:=omega) [-getElem?_pos,g99B1,hx,hi,k,ah];rw[g99L1e];simp[ih]
theorem c99{S:List Ty}{kd:Int}{t:Ty}(hO:t.Ok)(hk:∀x∈t.eT kd,x∈S):∀out,fU S out →
   (aC AP).i 99 [.own (out.map Ty.pv) 0,.pv t.pv,.pv (vI kd)] [] [out.length]=some ([.own (((t.eT kd).foldl gL out).map Ty.pv) 0],[],[((t.eT kd).foldl gL out).length]):=by
 revert hO hk
 refine Ty.dH (p:=fun t=>t.Ok→(∀x∈t.eT kd,x∈S)→∀out,fU S out →
   (aC AP).i 99 [.own (out.map Ty.pv) 0,.pv t.pv,.pv (vI kd)] [] [out.length]=some ([.own (((t.eT kd).foldl gL out).map Ty.pv) 0],[],[((t.eT kd).foldl gL out).length])) ?_ t
 intro t ih hO hk out hc;rw[Ty.l7]at hk⊢;have hl:=hc.len;unfold Sm at hl;have hb:(out.length+1)*64≤140737488355328:=by omega
 rw[aD (af:=g99) rfl (by simp[g99])];by_cases e:t.kind=kd∧t.args.length=0
 · rw[if_pos e]at hk⊢;obtain⟨e1,e2⟩:=e;subst e1;have e3:t.args=[]:=by simpa using e2
   have h:=Tx hc t _ 0 rfl (by omega);rw[g99L0e]at h;simp[e3]at h;by_cases em:t∈out
   · simp[em]at h;have ea:gL out t=out:=by simp[gL,em]
     simp[g99,e3,g99L0e,h,ea]
   · simp[em]at h;have ea:gL out t=out++[t]:=by simp[gL,em]
     simp[g99,e3,g99L0e,h,ea,hb]
 · rw[if_neg e]at hk⊢;have h:=Tz (S:=S) (kd:=kd) hO.sm (fun x hx out hc=>ih x hx (hO.ga x hx) (fun y hy=>hk y (by simp only[List.mem_flatMap];exact⟨x,hx,hy⟩)) out hc) hk _ 0 rfl (by omega) out hc;rw[g99L1e]at h;simp at h;by_cases e1:t.kind=kd
   · have e2:¬t.args.length=0:=fun h=>e ⟨e1,h⟩;have e3:¬t.args=[]:=by simpa using e2
     subst e1;simp[g99,e2,e3,g99L1e,h]
   ·simp[g99,e1,g99L1e,h]
def qg(out:List Int)(x:Ty):List Int:=if x.id∈out then out else out++[x.id]
noncomputable def mQ(l:List Ty):List Int:=((l.flatMap (Ty.eT 1)).foldl gL []).foldl qg []
theorem TE{S:List Ty}{l:List Ty}(hS:Sm l)(hO:∀t∈l,t.Ok)(hk:∀x∈l.flatMap (Ty.eT 1),x∈S):∀(n i:Nat),l.length-i=n→i≤l.length→∀out,fU S out →
   cl AP g56L0 ⟨[(0,.pv (.au (l.map Ty.pv))),(3,.own (out.map Ty.pv) 0),(4,.pv (vI i))],[],[],[out.length]⟩ =
     some (.exit 0,⟨[(0,.pv (.au (l.map Ty.pv))),(3,.own ((((l.drop i).flatMap (Ty.eT 1)).foldl gL out).map Ty.pv) 0),(4,.pv (vI l.length)),(10,.pv (.bool false))],[],[],[(((l.drop i).flatMap (Ty.eT 1)).foldl gL out).length]⟩)
 |0,i,hn,hi,out,hc=>by
   have:i=l.length:=by omega
   subst this;rw[g56L0e];simp[g56B0]
 |n+1,i,hn,hi,out,hc=>by
   have hi:i<l.length:=(by omega);obtain⟨x,hx⟩:=aV hi;unfold Sm at hS;have hkx:∀y∈x.eT 1,y∈S:=fun y hy=>hk y (by simp only[List.mem_flatMap];exact⟨x,aR hx,hy⟩)
   have k:=c99 (kd:=1) (hO x (aR hx)) hkx out hc;have ih:=TE hS hO hk n (i+1) (by omega) (by omega) _ (hc.fold hkx);rw[g56L0e]at ih⊢;rw[bh hx];simp at k ih;simp (disch:=omega) [-getElem?_pos,g56B0,hx,hi,k,ah];rw[g56L0e];simp[ih]
theorem Lx{l:List Ty}{out:List Int}:(l.foldl qg out).length≤out.length+l.length:=by
 induction l generalizing out with
 |nil=>simp
 |cons x r ih=>
   simp only[List.foldl_cons,List.length_cons];have:=ih (out:=qg out x);have h2:(qg out x).length≤out.length+1:=by unfold qg;split<;>simp
   omega
theorem Q3{S l:List Ty}(hc:fU S l):∀(n i:Nat),l.length-i=n→i≤l.length→∀out:List Int,out.length≤i →
   cl AP g56L1 ⟨[(3,.own (l.map Ty.pv) 0),(5,.own (out.map vI) 1),(6,.pv (vI i))],[],[],[l.length,out.length]⟩ =
     some (.exit 2,⟨[(3,.own (l.map Ty.pv) 0),(5,.own (((l.drop i).foldl qg out).map vI) 1),(6,.pv (vI l.length)),(22,.pv (.bool false))],[],[],[l.length,((l.drop i).foldl qg out).length]⟩)
 |0,i,hn,hi,out,ho=>by
   have:i=l.length:=by omega
   subst this;rw[g56L1e];simp[g56B1]
 |n+1,i,hn,hi,out,ho=>by
   have hi:i<l.length:=(by omega);obtain⟨x,hx⟩:=aV hi;have hS:=hc.len;unfold Sm at hS;have k:=c95 (s:=out) (by unfold Sm;omega) (y:=x.id);have hb:(out.length+1)*8≤140737488355328:=(by omega);have hh:bf 1 (out.map vI)=true:=nV.head out;rw[bh hx];by_cases e:x.id∈out
   ·have ih:=Q3 hc n (i+1) (by omega) (by omega) out (by omega);have ea:qg out x=out:=(by simp[qg,e]);rw[g56L1e]at ih⊢;rw[decide_eq_true e]at k;simp at ih;simp (disch:=omega) [-getElem?_pos,g56B1,hx,hi,k,ah];rw[g56L1e];simp[ih,ea]
   ·have ih:=Q3 hc n (i+1) (by omega) (by omega) (out++[x.id]) (by simp;omega);have ea:qg out x=out++[x.id]:=(by simp[qg,e]);rw[g56L1e]at ih⊢;rw[decide_eq_false e]at k;simp at ih;simp (disch:=omega) [-getElem?_pos,g56B1,hx,hi,k,ah,hb,hh];rw[g56L1e];simp[ih,ea]
theorem c56{S:List Ty}(hf:S.length<1099511627776)(hSo:∀x∈S,x.Ok){l:List Ty}(hS:Sm l)(hO:∀t∈l,t.Ok)(hk:∀x∈l.flatMap (Ty.eT 1),x∈S):(aC AP).p 56 [.au (l.map Ty.pv)]=some [.au ((mQ l).map vI)]:=by
 have c0:fU S []:=⟨by simp,by simp,hf,hSo⟩;have h1:=TE hS hO hk _ 0 rfl (by omega) [] c0;have h2:=Q3 (c0.fold (l:=l.flatMap (Ty.eT 1)) hk) _ 0 rfl (by omega) [] (by simp);rw[ae (af:=g56) rfl rfl (by decide)];rw[g56L0e]at h1;rw[g56L1e]at h2;simp at h1 h2;simp[g56,g56L0e,h1,g56L1e,h2,mQ]
theorem Iy{t:Ty}(hW:t.Wf):∀out,t.nodes.foldl ej out=(t.eT 1).foldl ej out:=by
 revert hW
 refine Ty.dH (p:=fun t=>t.Wf→∀out,t.nodes.foldl ej out=(t.eT 1).foldl ej out) ?_ t;intro t ih hW out
 have flat:∀(as:List Ty),(∀x∈as,x∈t.args)→∀out,(as.flatMap Ty.nodes).foldl ej out=(as.flatMap (Ty.eT 1)).foldl ej out:=by
   intro as;induction as with
   |nil=>intro _ _;rfl
   |cons a r ihr=>
     intro h out;simp only[List.flatMap_cons,List.foldl_append];rw[ih a (h a (by simp)) (hW.ga a (h a (by simp))),ihr (fun x hx=>h x (by simp[hx]))]
 rw[Ty.aM,Ty.l7];by_cases e:t.kind=1
 ·have ea:=hW.var e;simp[e,ea]
 · have:ej out t=out:=by simp[ej,e]
   simp only[List.foldl_cons,this];rw[if_neg (fun h=>e h.1)];exact flat t.args (fun _ h=>h) out
theorem Ly{k:Int}{t x:Ty}(h:x∈t.eT k):x.kind=k∧x.args=[]:=by
 revert h
 refine Ty.dH (p:=fun t=>x∈t.eT k→x.kind=k∧x.args=[]) ?_ t;intro t ih h;rw[Ty.l7]at h;split at h
 ·rename_i e;simp at h;subst h;exact⟨e.1,by simpa using e.2⟩
 ·simp only[List.mem_flatMap]at h;obtain⟨y,hy,hx⟩:=h;exact ih y hy hx
theorem Lz{l:List Ty}{out:List Int}{x:Ty}(hk:x.kind=1)(h:x∈l):x.id∈l.foldl ej out:=by
 have mono:∀(l:List Ty) (out:List Int) (i:Int),i∈out→i∈l.foldl ej out:=by
   intro l;induction l with
   |nil=>intro out i h;exact h
   |cons y r ih=>
     intro out i h;simp only[List.foldl_cons];refine ih _ _ ?_;unfold ej;split<;>simp[h]
 induction l generalizing out with
 |nil=>simp at h
 |cons y r ih=>
   simp only[List.foldl_cons];simp at h;rcases h with rfl|h
   · refine mono _ _ _ ?_;unfold ej;split
     ·simp
     ·rename_i e;simp[hk]at e;exact e
   ·exact ih h
theorem Iz(l:List Ty)(hk:∀x∈l,x.kind=1):∀acc:List Ty,(l.foldl gL acc).foldl ej []=l.foldl ej (acc.foldl ej []):=by
 induction l with
 |nil=>intro acc;rfl
 |cons x r ih=>
   intro acc;simp only[List.foldl_cons];rw[ih (fun y hy=>hk y (by simp[hy]))];congr 1;unfold gL;split
   ·rename_i e;have:=Lz (out:=[]) (hk x (by simp)) e;simp[ej,this]
   ·simp
theorem IA(l:List Ty)(hk:∀x∈l,x.kind=1):∀out,l.foldl qg out=l.foldl ej out:=by
 induction l with
 |nil=>intro out;rfl
 |cons x r ih=>
   intro out;simp only[List.foldl_cons];rw[ih (fun y hy=>hk y (by simp[hy]))];congr 1;unfold qg ej;have:=hk x (by simp);by_cases e:x.id∈out<;>simp[e,this]
theorem LA{l acc:List Ty}{x:Ty}(h:x∈l.foldl gL acc):x∈acc∨x∈l:=by
 induction l generalizing acc with
 |nil=>exact .inl h
 |cons y r ih=>
   simp only[List.foldl_cons]at h;rcases ih h with h|h
   · unfold gL at h;split at h
     ·exact .inl h
     · simp at h;rcases h with h|rfl
       ·exact .inl h
       ·right;simp
   ·right;simp[h]
theorem t9{l:List Ty}(hW:∀t∈l,t.Wf):mQ l=vars l:=by
 have hk:∀x∈l.flatMap (Ty.eT 1),x.kind=1:=fun x hx=>by
   simp only[List.mem_flatMap]at hx;obtain⟨t,_,h⟩:=hx;exact (Ly h).1
 unfold mQ vars;rw[IA _ (fun x hx=>by rcases LA hx with h|h;simp at h;exact hk x h),Iz _ hk]
 have:∀(l:List Ty),(∀t∈l,t.Wf)→∀out,(l.flatMap (Ty.eT 1)).foldl ej out=(l.flatMap Ty.nodes).foldl ej out:=by
   intro l;induction l with
   |nil=>intro _ _;rfl
   |cons a r ih=>
     intro h out;simp only[List.flatMap_cons,List.foldl_append];rw[Iy (h a (by simp)),ih (fun t ht=>h t (by simp[ht]))]
 exact this l hW []
theorem c176{t:Ty}:(aC AP).p 176 [t.pv]=some [(As.mk 0 t).pv]:=by
 rw[ae (af:=g176) rfl rfl (by decide)];simp[g176]
theorem c179{l:List En}(hS:Sm l){n:List UInt8}{c:Sc}:(aC AP).p 179 [.au (l.map En.pv),.str n,c.pv]=some [.au ((l++[En.mk n c]).map En.pv)]:=by
 unfold Sm at hS;have hb:(l.length+1)*88≤140737488355328:=by omega
 have hb':l.length*88≤140737488355328:=by omega
 rw[ae (af:=g179) rfl rfl (by decide)];cases l with
 |nil=>simp[g179]
 |cons a r=>
   simp at hb hb';simp[g179,hb,hb']
def dh:List En→List En
 |[]=>[]
 |a::r=>if (r.any fun x=>decide (x.name=a.name))=true then dh r else a::dh r
theorem VN{sz:Nat}{l:List PV}{k:IntKind}{h:Int}(h0:0≤h)(h1:h≤l.length)(hs:bf sz l=true):dE false sz true false false [.pv (.au l),.pv (.int k h)]=some (.pv (.au (l.drop h.toNat))):=by
 simp[dE,cH,ez,h0,h1,hs]
theorem any_none{r:List En}{a:En}:(r.any fun x=>decide (x.name=a.name))=true↔∃c,E_ r a.name=some c:=by
 induction r with
 |nil=>simp[E_]
 |cons b r ih=>
   simp only[List.any_cons,Bool.or_eq_true,ih,E_,decide_eq_true_eq];cases h:E_ r a.name with
   |some c=>simp
   |none=>by_cases e:b.name=a.name<;>simp[e]
theorem l8(l:List En):∀x∈dh l,x∈l:=by
 induction l with
 |nil=>simp[dh]
 |cons a r ih=>
   intro x hx;simp only[dh]at hx;split at hx
   ·simp[ih x hx]
   · simp at hx;rcases hx with rfl|hx
     ·simp
     ·simp[ih x hx]
theorem t_(l:List En):(dh l).length≤l.length:=by
 induction l with
 |nil=>simp[dh]
 |cons a r ih=>
   simp only[dh];split<;>simp<;>omega
def varNames:List (List UInt8):=[[120],[121],[122],[102],[103],[118,49],[118,50],[105,100]]
def cJ(ids:List Int):List Int→List As→List As
 |[],acc=>acc
 |v::r,acc=>cJ ids r (if v∈ids then acc++[⟨v,cv acc.length⟩] else acc)
def pe(ids:List Int)(t:Ty)(vs:List Int):Sc:=⟨(cJ ids vs []).length,t.sub (cJ ids vs [])⟩
theorem Q4{t:Ty}{ids vs:List Int}(hS:Sm vs)(hi:Sm ids):∀(n i:Nat),vs.length-i=n→i≤vs.length→∀acc:List As,acc.length≤i →
   cl AP g208L0 ⟨[(1,.pv (.au (ids.map vI))),(2,.az 2 0),(4,.az 4 0),(5,.pv (.au (vs.map vI))),(6,.own (acc.map As.pv) 0),(7,.pv (vI i))],[(2,[.pv (vI t.kind),.pv (.str t.name),.pv (vI t.id),.pv (vI t.home),.pv (.au (t.args.map Ty.pv))]),(4,[.pv (vI 0),.pv (vI 0),.pv (.str []),.pv (vI 0),.pv (vI 0),.own [] 1])],[],[acc.length,0]⟩ =
     some (.exit 0,⟨[(1,.pv (.au (ids.map vI))),(2,.az 2 0),(4,.az 4 0),(5,.pv (.au (vs.map vI))),(6,.own ((cJ ids (vs.drop i) acc).map As.pv) 0),(7,.pv (vI vs.length)),(14,.pv (.bool false))],[(2,[.pv (vI t.kind),.pv (.str t.name),.pv (vI t.id),.pv (vI t.home),.pv (.au (t.args.map Ty.pv))]),(4,[.pv (vI 0),.pv (vI 0),.pv (.str []),.pv (vI 0),.pv (vI 0),.own [] 1])],[],[(cJ ids (vs.drop i) acc).length,0]⟩)
 |0,i,hn,hi',acc,ha=>by
   have:i=vs.length:=by omega
   subst this;rw[g208L0e];simp[g208B0,cJ]
 |n+1,i,hn,hi',acc,ha=>by
   have hi':i<vs.length:=(by omega);obtain⟨x,hx⟩:=aV hi';unfold Sm at hS;have k:=c95 hi (y:=x);have k2:=c72 (n:=acc.length);have hb:(acc.length+1)*72≤140737488355328:=(by omega);rw[bh hx];by_cases e:x∈ids
   ·have ih:=Q4 (t:=t) hS hi n (i+1) (by omega) (by omega) (acc++[⟨x,cv acc.length⟩]) (by simp;omega);have ea:cJ ids (x::vs.drop (i+1)) acc=cJ ids (vs.drop (i+1)) (acc++[⟨x,cv acc.length⟩]):=(by simp[cJ,e]);rw[ea];rw[g208L0e]at ih⊢;rw[decide_eq_true e]at k;simp[cv]at ih k2;simp (disch:=omega) [-getElem?_pos,g208B0,hx,hi',k,k2,ah,hb,cv];rw[g208L0e];simp[ih,cv]
   ·have ih:=Q4 (t:=t) hS hi n (i+1) (by omega) (by omega) acc (by omega);have ea:cJ ids (x::vs.drop (i+1)) acc=cJ ids (vs.drop (i+1)) acc:=(by simp[cJ,e]);rw[ea];rw[g208L0e]at ih⊢;rw[decide_eq_false e]at k;simp at ih;simp (disch:=omega) [-getElem?_pos,g208B0,hx,hi',k,ah];rw[g208L0e];simp[ih]
theorem ua{ids:List Int}:∀(vs:List Int) (acc:List As),(cJ ids vs acc).length≤acc.length+vs.length
 |[],acc=>by simp[cJ]
 |v::r,acc=>by
   simp only[cJ];have:=ua (ids:=ids) r (if v∈ids then acc++[⟨v,cv acc.length⟩] else acc);split at this<;>simp at this⊢<;>(split<;>simp_all<;>omega)
structure TF(t:Ty):Prop where
 ok:t.Ok
 wf:t.Wf
 Ix:∃S:List Ty,S.length<1099511627776∧(∀x∈S,x.Ok)∧∀x∈t.eT 1,x∈S
theorem uc{t:Ty}(h:TF t):Sm (mQ [t]):=by
 obtain⟨S,hf,hSo,hk⟩:=h.Ix;have c0:fU S []:=⟨by simp,by simp,hf,hSo⟩;have:=(c0.fold (l:=[t].flatMap (Ty.eT 1)) (by simpa using hk)).len;unfold Sm at *;have h2:=Lx (l:=([t].flatMap (Ty.eT 1)).foldl gL []) (out:=[]);unfold mQ;simp at this h2⊢;omega
theorem c208{t:Ty}(h:TF t){ids:List Int}(hi:Sm ids):(aC AP).p 208 [t.pv,.au (ids.map vI)]=some [(pe ids t (vars [t])).pv]:=by
 obtain⟨S,hf,hSo,hk⟩:=h.Ix;have k1:=c56 hf hSo (l:=[t]) (by simp[Sm]) (by simpa using h.ok) (by simpa using hk);have hv:=uc h;rw[t9 (by simpa using h.wf)]at k1 hv;have k2:=Q4 (t:=t) hv hi _ 0 rfl (by omega) [] (by simp);have hl:=ua (ids:=ids) (vars [t]) [];have k3:=c46 (s:=cJ ids (vars [t]) []) (by unfold Sm at hv⊢;simp at hl;omega) h.ok;rw[ae (af:=g208) rfl rfl (by decide)];rw[g208L0e]at k2;simp at k1 k2 k3;simp[g208,k1,g208L0e,k2,k3,pe]
theorem cG{t:Ty}(h:t.args=[]):t.Ok:=⟨by rw[h];simp[Sm],by rw[h];simp⟩
theorem vY{ids:List Int}:∀(vs:List Int) (acc:List As),(∀a∈acc,a.ty.Ok)→∀a∈cJ ids vs acc,a.ty.Ok
 |[],acc,h=>by simpa[cJ] using h
 |v::r,acc,h=>by
   simp only[cJ];refine vY r _ ?_;split
   · intro a ha;simp at ha;rcases ha with ha|rfl
     ·exact h a ha
     ·exact cG rfl
   ·exact h
theorem D4{ids vs:List Int}{t:Ty}(h:t.Ok):(pe ids t vs).ty.Ok:=D2 (vY vs [] (by simp)) h
inductive gE (D:Dt→Prop) (lv:List Ty):Nat→Ty→Prop
 |leaf {n:Nat} {t:Ty}:t∈lv→gE D lv n t
 |int {n:Nat}:gE D lv n a0
 |dk {n:Nat} {d:Dt} {args:List Ty}:D d→args.length=d.params.length→(∀x∈args,gE D lv n x)→gE D lv (n+1) ⟨4,d.name,0,0,args⟩
 |arrow {n:Nat} {a b:Ty}:gE D lv n a→gE D lv n b→gE D lv (n+1) ⟨4,[45,62],0,0,[a,b]⟩
theorem gE.ok{D:Dt→Prop}(hD:∀d,D d→d.params.length≤8){lv:List Ty}(h:∀t∈lv,t.args=[]){n:Nat}{t:Ty}(m:gE D lv n t):t.Ok:=by
 induction m with
 |leaf hl=>exact cG (h _ hl)
 |int=>exact cG rfl
 |dk hd hl _ ih=>exact⟨by have:=hD _ hd;unfold Sm;simp;omega,ih⟩
 |arrow _ _ ha hb=>exact⟨by simp[Sm],by intro x hx;simp at hx;rcases hx with rfl|rfl<;>assumption⟩
theorem LB{f:Ty→List Ty}{b:Nat}:∀{l:List Ty},(∀x∈l,(f x).length≤b)→(l.flatMap f).length≤l.length*b
 |[],_=>by simp
 |a::r,h=>by
   have h1:=h a (by simp);have h2:=LB (f:=f) (b:=b) (l:=r) (fun x hx=>h x (by simp[hx]));simp only[List.flatMap_cons,List.length_append,List.length_cons,Nat.add_mul];omega
theorem gE.small{D:Dt→Prop}(hD:∀d,D d→d.params.length≤8){lv:List Ty}(h:∀t∈lv,t.args=[]){n:Nat}{t:Ty}(m:gE D lv n t):t.nodes.length≤9 ^ n:=by
 have one:∀n:Nat,1≤9 ^ n:=fun n=>Nat.one_le_pow n 9 (by decide);induction m with
 |leaf hl=>rw[Ty.aM,h _ hl];simpa using one _
 |int=>rw[Ty.aM];simpa[a0] using one _
 | @dk n d args hd hl _ ih=>
   rw[Ty.aM];have h1:=LB (f:=Ty.nodes) (l:=args) ih;have h2:=hD _ hd;have h3:=one n;have h4:args.length*9 ^ n≤8*9 ^ n:=Nat.mul_le_mul_right _ (by omega);simp only[List.length_cons,Nat.pow_succ];omega
 | @arrow n a b _ _ ha hb=>
   rw[Ty.aM];have h3:=one n;simp only[List.length_cons,List.flatMap_cons,List.flatMap_nil,List.append_nil,List.length_append,Nat.pow_succ];omega
abbrev br:=List UInt8
theorem c214{s:List br}(hS:Sm s){y:br}:(aC AP).p 214 [.au (s.map .str),.str y]=some [.bool (decide (y∈s))]:=by
 rw[WI Oc (m:=214) (k:=223) rfl rfl hS];simp only[Option.some.injEq,List.cons.injEq,PV.bool.injEq,and_true];rw[Bool.eq_iff_iff];simp
theorem TG{s:List br}(hS:Sm s)(y:br):∀(n i:Nat),s.length-i=n→i≤s.length →
   cl AP g216L0 ⟨[(0,.pv (.au (s.map .str))),(1,.pv (.str y)),(5,.pv (vI i))],[],[],[]⟩ =
     match bP (fun x=>decide (x=y)) (s.drop i) with
     |some k=>some (.ret,⟨[(4,.pv (vI (i+k:Nat)))],[],[],[]⟩)
     |none=>some (.exit 0,⟨[(0,.pv (.au (s.map .str))),(1,.pv (.str y)),(5,.pv (vI s.length)),(9,.pv (.bool false))],[],[],[]⟩)
 |0,i,hn,hi=>by
   have:i=s.length:=by omega
   subst this;rw[g216L0e];simp[g216B0,bP]
 |n+1,i,hn,hi=>by
   have hi:i<s.length:=(by omega);obtain⟨x,hx⟩:=aV hi;unfold Sm at hS;have ih:=TG hS y n (i+1) (by omega) (by omega);simp at ih;rw[g216L0e,bh hx];by_cases e:x=y
   ·simp (disch:=omega) [-getElem?_pos,g216B0,hx,hi,e,bP]
   · simp (disch:=omega) [-getElem?_pos,g216B0,hx,hi,e,bP,ah,ih];cases bP (fun x=>decide (x=y)) (s.drop (i+1)) with
     |none=>rfl
     |some k=>simp;omega
def pg(s:List br)(y:br):Int:=jN (bP (fun x=>decide (x=y)) s)
theorem c216{s:List br}(hS:Sm s){y:br}:(aC AP).p 216 [.au (s.map .str),.str y]=some [vI (pg s y)]:=by
 unfold pg;have h:=TG hS y _ 0 rfl (by omega);simp at h;rw[ae (af:=g216) rfl rfl (by decide)];cases hi:bP (fun x=>decide (x=y)) s with
 |none=>rw[hi]at h;simp at h;simp[g216,h,jN]
 |some k=>rw[hi]at h;simp at h;simp[g216,h,jN]
theorem LC{s:List br}{y:br}:pg s y<0↔y∉s:=by
 unfold pg;have h:=t4 (p:=fun x=>decide (x=y)) (s:=s);have e:s.any (fun x=>decide (x=y))=decide (y∈s):=by rw[Bool.eq_iff_iff];simp
 rw[e]at h;by_cases hy:y∈s
 ·rw[decide_eq_true hy]at h;have h:=of_decide_eq_true h;exact⟨fun h'=>absurd h (Int.not_le.2 h'),fun h'=>absurd hy h'⟩
 ·rw[decide_eq_false hy]at h;have h:=of_decide_eq_false h;exact⟨fun _=>hy,fun _=>Int.not_le.1 h⟩
def Q5:List Dt→br→Option Dt
 |[],_=>none
 |d::r,s=>if d.name=s then some d else Q5 r s
def Oe(ds:List Dt)(s:br):Option Nat:=if s=[73,110,116] then some 0 else if s=[45,62] then some 2 else (Q5 ds s).map (·.params.length)
def rA:Option Nat→List PV
 |some n=>[vI n,.bool true]
 |none=>[vI 0,.bool false]
theorem TH{ds:List Dt}(hS:Sm ds)(s:br):∀(n i:Nat),ds.length-i=n→i≤ds.length →
   cl AP g215L0 ⟨[(1,.pv (.str s)),(13,.pv (.au (ds.map Dt.pv))),(14,.pv (vI ds.length)),(15,.pv (vI i))],[],[],[]⟩ =
     match Q5 (ds.drop i) s with
     |some d=>some (.ret,⟨[(4,.pv (vI d.params.length)),(5,.pv (.bool true))],[],[],[]⟩)
     |none=>some (.exit 1,⟨[(1,.pv (.str s)),(13,.pv (.au (ds.map Dt.pv))),(14,.pv (vI ds.length)),(15,.pv (vI ds.length)),(16,.pv (.bool false))],[],[],[]⟩)
 |0,i,hn,hi=>by
   have:i=ds.length:=by omega
   subst this;rw[g215L0e];simp[g215B0,Q5]
 |n+1,i,hn,hi=>by
   have hi:i<ds.length:=(by omega);obtain⟨x,hx⟩:=aV hi;unfold Sm at hS;have ih:=TH hS s n (i+1) (by omega) (by omega);rw[g215L0e]at ih⊢;rw[bh hx];simp at ih;by_cases e:x.name=s
   ·simp (disch:=omega) [-getElem?_pos,g215B0,hx,hi,e,Q5]
   ·simp (disch:=omega) [-getElem?_pos,g215B0,hx,hi,e,Q5,ah];rw[g215L0e];simp[ih]
theorem c215{ds:List Dt}(hS:Sm ds){s:br}:(aC AP).p 215 [.au (ds.map Dt.pv),.str s]=some (rA (Oe ds s)):=by
 have h:=TH hS s _ 0 rfl (by omega);rw[ae (af:=g215) rfl rfl (by decide)];rw[g215L0e]at h;simp at h;unfold Oe;by_cases e1:s=[73,110,116]
 ·simp[g215,e1,rA]
 · by_cases e2:s=[45,62]
   ·simp[g215,e2,rA]
   · cases hl:Q5 ds s with
     |none=>rw[hl]at h;simp at h;simp[g215,e1,e2,g215L0e,h,rA]
     |some d=>rw[hl]at h;simp at h;simp[g215,e1,e2,g215L0e,h,rA]
def kb(ds:List Dt)(l:List br)(t:Ty):Int:=
 if t.kind=5 then (if t.name∈l then 0 else 7)
 else if t.kind=4 then (match Oe ds t.name with|none=>7|some n=>if n=t.args.length then 0 else 8) else 0
mutual
def Ty.formed(ds:List Dt)(l:List br):Ty→Int
 |⟨k,n,i,h,as⟩=>if kb ds l ⟨k,n,i,h,as⟩≠0 then kb ds l ⟨k,n,i,h,as⟩ else Ty.gF ds l as
def Ty.gF(ds:List Dt)(l:List br):List Ty→Int
 |[]=>0
 |a::r=>if a.formed ds l≠0 then a.formed ds l else Ty.gF ds l r
end
theorem Ty.IB(ds:List Dt)(l:List br)(t:Ty):t.formed ds l=if kb ds l t≠0 then kb ds l t else Ty.gF ds l t.args:=by
 cases t;simp only[Ty.formed]
theorem TI{ds:List Dt}{l:List br}{t:Ty}(hS:Sm t.args)(h:∀x∈t.args,(aC AP).p 185 [.au (ds.map Dt.pv),x.pv,.au (l.map .str)]=some [vI (x.formed ds l)]):∀(n i:Nat),t.args.length-i=n→i≤t.args.length →
   cl AP g185L0 ⟨[(0,.pv (.au (ds.map Dt.pv))),(2,.pv (.au (l.map .str))),(38,.pv (.au (t.args.map Ty.pv))),(39,.pv (vI t.args.length)),(40,.pv (vI i))],[],[],[]⟩ =
     if Ty.gF ds l (t.args.drop i)≠0 then some (.ret,⟨[(6,.pv (vI (Ty.gF ds l (t.args.drop i))))],[],[],[]⟩)
     else some (.exit 1,⟨[(0,.pv (.au (ds.map Dt.pv))),(2,.pv (.au (l.map .str))),(38,.pv (.au (t.args.map Ty.pv))),(39,.pv (vI t.args.length)),(40,.pv (vI t.args.length)),(41,.pv (.bool false))],[],[],[]⟩)
 |0,i,hn,hi=>by
   have:i=t.args.length:=by omega
   subst this;rw[g185L0e];simp[g185B0,Ty.gF]
 |n+1,i,hn,hi=>by
   have hi:i<t.args.length:=(by omega);obtain⟨x,hx⟩:=aV hi;unfold Sm at hS;have k:=h x (aR hx);have ih:=TI hS h n (i+1) (by omega) (by omega);rw[g185L0e]at ih⊢;rw[bh hx];simp at ih k;by_cases e:x.formed ds l=0
   ·rw[e]at k;simp (disch:=omega) [-getElem?_pos,g185B0,hx,hi,k,Ty.gF,e,ah];rw[g185L0e];simp[ih]
   ·simp (disch:=omega) [-getElem?_pos,g185B0,hx,hi,k,Ty.gF,e,ah]
theorem c185{ds:List Dt}(hd:Sm ds){l:List br}(hl:Sm l){t:Ty}(hO:t.Ok):(aC AP).p 185 [.au (ds.map Dt.pv),t.pv,.au (l.map .str)]=some [vI (t.formed ds l)]:=by
 revert hO
 refine Ty.dH (p:=fun t=>t.Ok→(aC AP).p 185 [.au (ds.map Dt.pv),t.pv,.au (l.map .str)]=some [vI (t.formed ds l)]) ?_ t;intro t ih hO;have h:=TI (ds:=ds) (l:=l) hO.sm (fun x hx=>ih x hx (hO.ga x hx)) _ 0 rfl (by omega);have k1:=c214 hl (y:=t.name);have k2:=c215 hd (s:=t.name);rw[ae (af:=g185) rfl rfl (by decide),Ty.IB];rw[g185L0e]at h;simp at h;by_cases e1:t.kind=5
 · by_cases e2:t.name∈l
   · rw[decide_eq_true e2]at k1;by_cases e3:Ty.gF ds l t.args=0
     ·simp[e3]at h;simp[g185,e1,e2,e3,k1,kb,g185L0e,h]
     ·simp[e3]at h;simp[g185,e1,e2,e3,k1,kb,g185L0e,h]
   ·rw[decide_eq_false e2]at k1;simp[g185,e1,e2,k1,kb]
 · by_cases e4:t.kind=4
   · cases hc:Oe ds t.name with
     |none=>
       rw[hc]at k2;simp[rA]at k2;simp[g185,e1,e4,k2,kb,hc]
     |some m=>
       rw[hc]at k2;simp[rA]at k2;by_cases e5:m=t.args.length
       · by_cases e3:Ty.gF ds l t.args=0
         ·simp[e3]at h;simp[g185,e4,e5,e3,k2,kb,hc,g185L0e,h]
         ·simp[e3]at h;simp[g185,e4,e5,e3,k2,kb,hc,g185L0e,h]
       ·have e5':¬(m:Int)=t.args.length:=(by omega);simp[g185,e4,e5,e5',k2,kb,hc]
   · by_cases e3:Ty.gF ds l t.args=0
     ·simp[e3]at h;simp[g185,e1,e4,e3,kb,g185L0e,h]
     ·simp[e3]at h;simp[g185,e1,e4,e3,kb,g185L0e,h]
def Q6(t:Ty):List AV:=[.pv (vI t.kind),.pv (.str t.name),.pv (vI t.id),.pv (vI t.home),.pv (.au (t.args.map Ty.pv))]
@[simp] theorem VO(t:Ty):Q6 t=[.pv (vI t.kind),.pv (.str t.name),.pv (vI t.id),.pv (vI t.home),.pv (.au (t.args.map Ty.pv))]:=rfl
inductive Ty.Cw:Ty→Prop
 |mk {t:Ty}:(t.kind≠4→t.args=[])→(∀x∈t.args,Ty.Cw x)→Ty.Cw t
theorem Ty.Cw.bare{t:Ty}(h:t.Cw):t.kind≠4→t.args=[]:=by cases h;assumption
theorem Ty.Cw.ga{t:Ty}(h:t.Cw):∀x∈t.args,x.Cw:=by cases h;assumption
structure cT(E:Type) where
 pos:Int
 dk:List UInt8
 vars:List (List UInt8)
 body:E
structure Ex where
 kind:Int
 pos:Int
 name:List UInt8
 num:Int
 kids:List Ex
 aE:List (cT Ex)
 ty:Ty
abbrev Ar:=cT Ex
def bp:Ty:=⟨0,[],0,0,[]⟩
instance:Inhabited Ex:=⟨⟨0,0,[],0,[],[],bp⟩⟩
instance:Inhabited Ar:=⟨⟨0,[],[],default⟩⟩
def Ty.cells(t:Ty):List PV:=[.int .i64 t.kind,.str t.name,.int .i64 t.id,.int .i64 t.home,.au (t.args.map Ty.pv)]
mutual
def Ex.cells:Ex→List PV
 |⟨k,p,n,m,ks,as,t⟩=>.int .i64 k::.int .i64 p::.str n::.int .i64 m::.au (Ex.cV ks)::.au (Ex.TJ as)::t.cells
def Ex.cV:List Ex→List PV
 |[]=>[]
 |e::r=>.agg (Ex.cells e)::Ex.cV r
def Ex.TJ:List (cT Ex)→List PV
 |[]=>[]
 |⟨p,c,v,b⟩::r=>.agg (.int .i64 p::.str c::.au (v.map .str)::Ex.cells b)::Ex.TJ r
end
def Ex.pv(e:Ex):PV:=.agg e.cells
def Ar.pv(a:Ar):PV:=.agg (.int .i64 a.pos::.str a.dk::.au (a.vars.map .str)::a.body.cells)
theorem Ex.o5:∀l:List Ex,Ex.cV l=l.map Ex.pv
 |[]=>by simp[Ex.cV]
 |e::r=>by simp[Ex.cV,Ex.o5 r,Ex.pv]
theorem Ex.Fe:∀l:List Ar,Ex.TJ l=l.map Ar.pv
 |[]=>by simp[Ex.TJ]
 |⟨p,c,v,b⟩::r=>by simp[Ex.TJ,Ex.Fe r,Ar.pv]
theorem Ex.bm(e:Ex):e.cells=[.int .i64 e.kind,.int .i64 e.pos,.str e.name,.int .i64 e.num,.au (e.kids.map Ex.pv),.au (e.aE.map Ar.pv),.int .i64 e.ty.kind,.str e.ty.name,.int .i64 e.ty.id,.int .i64 e.ty.home,.au (e.ty.args.map Ty.pv)]:=by
 cases e;simp only[Ex.cells,Ex.o5,Ex.Fe,Ty.cells]
@[simp] theorem Ex.lZ(e:Ex):e.pv=.agg [.int .i64 e.kind,.int .i64 e.pos,.str e.name,.int .i64 e.num,.au (e.kids.map Ex.pv),.au (e.aE.map Ar.pv),.int .i64 e.ty.kind,.str e.ty.name,.int .i64 e.ty.id,.int .i64 e.ty.home,.au (e.ty.args.map Ty.pv)]:=by
 rw[Ex.pv,Ex.bm]
@[simp] theorem Ar.lZ(a:Ar):a.pv=.agg [.int .i64 a.pos,.str a.dk,.au (a.vars.map .str),.int .i64 a.body.kind,.int .i64 a.body.pos,.str a.body.name,.int .i64 a.body.num,.au (a.body.kids.map Ex.pv),.au (a.body.aE.map Ar.pv),.int .i64 a.body.ty.kind,.str a.body.ty.name,.int .i64 a.body.ty.id,.int .i64 a.body.ty.home,.au (a.body.ty.args.map Ty.pv)]:=by
 rw[Ar.pv,Ex.bm]
theorem vZ:El Ex.pv 11 true:=⟨fun x=>by simp,fun x=>by simp⟩
theorem Q7:El Ar.pv 14 true:=⟨fun x=>by simp,fun x=>by simp⟩
@[simp] theorem R6{l:List Ex}:bf 11 (l.map Ex.pv)=true:=vZ.head l
@[simp] theorem R7{l:List Ar}:bf 14 (l.map Ar.pv)=true:=Q7.head l
@[simp] theorem Q8{l:List (List UInt8)}:bf 1 (l.map PV.str)=true:=qf.head l
@[simp] theorem R8{l:List Int}:bf 1 (l.map vI)=true:=nV.head l
def Ex.ch(e:Ex):List Ex:=e.kids++e.aE.map cT.body
theorem cT.qh(a:Ar):SizeOf.sizeOf a.body<SizeOf.sizeOf a:=by cases a;simp;omega
theorem Ex.dH{p:Ex→Prop}(h:∀e:Ex,(∀x∈e.kids,p x)→(∀a∈e.aE,p a.body)→p e):∀e,p e
 |⟨k,ps,n,m,ks,as,t⟩=>h _ (fun x _hx=>Ex.dH h x) (fun a _ha=>Ex.dH h a.body)
termination_by e=>SizeOf.sizeOf e
decreasing_by
 ·have:=_root_.List.sizeOf_lt_of_mem _hx;simp at *;omega
 ·have:=_root_.List.sizeOf_lt_of_mem _ha;have:=cT.qh a;simp at *;omega
theorem Ex.recC{p:Ex→Prop}(h:∀e:Ex,(∀x∈e.ch,p x)→p e):∀e,p e:=Ex.dH fun e h1 h2=>h e fun x hx=>by
 rw[Ex.ch,List.mem_append,List.mem_map]at hx;rcases hx with hx|⟨a,ha,rfl⟩
 ·exact h1 x hx
 ·exact h2 a ha
def tx(l:List (List UInt8)):List AV:=l.map fun s=>AV.pv (.str s)
def SA(X:Sh)(l:List (List UInt8))(t:List UInt8):Sh:=X++[some (tx l),some [.pv (.str t)]]
theorem l9{l:List (List UInt8)}:∀v∈tx l,∃p,v=AV.pv p:=by
 intro v hv;simp only[tx,List.mem_map]at hv;obtain⟨s,_,rfl⟩:=hv;exact⟨_,rfl⟩
theorem e8{X:Sh}(hX:aL X){l:List (List UInt8)}{t:List UInt8}:aL (SA X l t):=by
 refine hX.app fun cs hc=>?_;simp at hc;rcases hc with rfl|rfl
 ·exact l9
 ·intro v hv;simp at hv;exact⟨_,hv⟩
theorem D5{X:Sh}{l:List (List UInt8)}{t:List UInt8}:(SA X l t)[X.length]?=some (some (tx l)):=by simp[SA]
theorem LD{X:Sh}{l:List (List UInt8)}{t:List UInt8}:(SA X l t)[X.length+1]?=some (some [.pv (.str t)]):=by simp[SA]
theorem LF{X:Sh}{l l':List (List UInt8)}{t:List UInt8}:(SA X l t).set X.length (some (tx l'))=SA X l' t:=by simp[SA]
theorem x6{X:Sh}{l:List (List UInt8)}{t:List UInt8}:(SA X l t).length=X.length+2:=by simp[SA]
theorem LG{l:List (List UInt8)}{i:Nat}{s:List UInt8}(h:l[i]?=some s):(tx l)[i]?=some (.pv (.str s)):=by simp[tx,h]
theorem nX{l:List (List UInt8)}:(tx l).length=l.length:=by simp[tx]
theorem Q9{l:List (List UInt8)}{i:Nat}(h:i<l.length){s:List UInt8}:aQ (tx l) i [.pv (.str s)]=tx (l.set i s):=by
 rw[List.set_eq_take_append_cons_drop,if_pos h];simp[aF,tx,List.map_take,List.map_drop]
theorem c413{SH:Sh}(hn:∀aI ts,a9 aI ts SH=(SH,aI,ts)){c:Nat}{t x:List UInt8}(hb:SH[c]?=some (some [.pv (.str t)]))(hc:c<SH.length) :
   (aC AP).i 413 [.pv (.str x),.aW c 0] SH []=some ([.pv (.bool (decide (x=t)))],SH,[]):=by
 rw[aD (af:=g413) rfl (by simp[g413])];simp[-getElem?_pos,g413,hb,hn];by_cases e:x=t<;>simp[e]
theorem LH{SH:Sh}(hn:∀aI ts,a9 aI ts SH=(SH,aI,ts))(hs:∀n,d6 n SH=SH){c:Nat}{t x:List UInt8}(hb:SH[c]?=some (some [.pv (.str t)]))(hc:c<SH.length) :
   exec (aC AP) .fm [.fn 413 [.aW c 0],.pv (.str x)] none SH []=some ⟨.pv (.bool (decide (x=t))),none,SH,[]⟩:=by
 have k:=c413 hn hb hc (x:=x);simp[hn,k,hs]
theorem TM{SH:Sh}(hn:∀aI ts,a9 aI ts SH=(SH,aI,ts))(hs:∀n,d6 n SH=SH){b c:Nat}{t:List UInt8}{l:List (List UInt8)}(hS:Sm l)(ha:SH[b]?=some (some (tx l)))(hb:SH[c]?=some (some [.pv (.str t)]))(hc:c<SH.length) :
   ∀(n i:Nat),l.length-i=n→i≤l.length →
   cl AP (Lj 1 false) ⟨[(0,.aP b 1 l.length false),(1,.fn 413 [.aW c 0]),(7,.pv (vI l.length)),(8,.pv (vI i))],[],SH,[]⟩ =
     match bP (fun x=>decide (x=t)) (l.drop i) with
     |some k=>some (.ret,⟨[(4,.pv (vI (i+k:Nat)))],[],SH,[]⟩)
     |none=>some (.exit 0,⟨[(0,.aP b 1 l.length false),(1,.fn 413 [.aW c 0]),(7,.pv (vI l.length)),(8,.pv (vI l.length)),(9,.pv (.bool false))],[],SH,[]⟩)
 |0,i,hk,hi=>by
   have:i=l.length:=by omega
   subst this;rw[pc];simp[x4,bP,hn]
 |n+1,i,hk,hi=>by
   have hi:i<l.length:=(by omega);obtain⟨x,hx⟩:=aV hi;unfold Sm at hS;have ih:=TM hn hs hS ha hb hc n (i+1) (by omega) (by omega);have hg:=LG hx;have hB:bU (tx l)=false:=bH l9;have hle:i+1≤(tx l).length:=(by rw[nX];omega);have q:=LH hn hs hb hc (x:=x);simp at ih;rw[pc,bh hx];by_cases e:x=t
   ·rw[decide_eq_true e]at q;subst e;simp (disch:=omega) [-getElem?_pos,-ep,x4,hx,hi,ha,hg,hB,hle,bP,hn,q]
   · rw[decide_eq_false e]at q;simp (disch:=omega) [-getElem?_pos,-ep,x4,hx,hi,ha,hg,hB,hle,e,bP,ah,hn,q,ih];cases bP (fun x=>decide (x=t)) (l.drop (i+1)) with
     |none=>rfl
     |some k=>simp;omega
structure Row{α:Type}(f:α→List PV)(sz:Nat):Prop where
 pos:0<sz
 len:∀x,(f x).length=sz
section
variable {α:Type} {f:α→List PV} {sz:Nat}
def aN(f:α→List PV)(l:List α):List AV:=l.flatMap fun x=>(f x).map .pv
theorem x7:aN f []=[]:=rfl
theorem kg{x:α}{l:List α}:aN f (x::l)=(f x).map .pv++aN f l:=rfl
theorem mR{l m:List α}:aN f (l++m)=aN f l++aN f m:=by simp[aN]
theorem bn(h:Row f sz):∀{l:List α},(aN f l).length=l.length*sz
 |[]=>by simp[aN]
 |x::r=>by rw[kg,List.length_append,List.length_map,h.len,bn h,List.length_cons,Nat.add_mul];omega
theorem aY{l:List α}:∀v∈aN f l,∃p,v=AV.pv p:=by
 intro v hv;simp only[aN,List.mem_flatMap,List.mem_map]at hv;obtain⟨x,_,p,_,rfl⟩:=hv;exact⟨p,rfl⟩
theorem ph(h:Row f sz):∀{l:List α} {i:Nat} {x:α},l[i]?=some x→(aN f l).drop (i*sz)=(f x).map .pv++aN f (l.drop (i+1))
 |x::r,0,y,e=>by simp at e;subst e;simp[aN]
 |x::r,i+1,y,e=>by
   have ih:=ph h (l:=r) (i:=i) (x:=y) (by simpa using e);rw[kg,List.drop_append,List.drop_eq_nil_of_le (by rw[List.length_map,h.len,Nat.add_mul];omega),List.length_map,h.len,show (i+1)*sz-sz=i*sz from by rw[Nat.add_mul];omega,ih];simp
 |[],_,_,e=>by simp at e
theorem AW(h:Row f sz):∀{l:List α} {i:Nat},i≤l.length→(aN f l).take (i*sz)=aN f (l.take i)
 |l,0,_=>by simp[aN]
 |x::r,i+1,e=>by
   have ih:=AW h (l:=r) (i:=i) (by simpa using e);rw[kg,List.take_append,List.take_of_length_le (by rw[List.length_map,h.len,Nat.add_mul];omega),List.length_map,h.len,show (i+1)*sz-sz=i*sz from by rw[Nat.add_mul];omega,ih];simp[kg]
 |[],i+1,e=>by simp at e
theorem mS(h:Row f sz){l:List α}{i:Nat}{x:α}(e:l[i]?=some x){o k:Nat}(hk:o+k≤sz):((aN f l).drop (i*sz+o)).take k=(((f x).drop o).take k).map .pv:=by
 rw[←List.drop_drop,ph h e,List.drop_append,List.take_append,List.length_drop,List.length_map,h.len];have e1:k-(sz-o)=0:=by omega
 rw[e1,List.take_zero,List.append_nil,←List.map_drop,←List.map_take]
theorem Q_(h:Row f sz){l:List α}{i:Nat}(hi:i<l.length){o k:Nat}(hk:o+k≤sz):i*sz+o+k≤(aN f l).length:=by
 rw[bn h];have:(i+1)*sz≤l.length*sz:=Nat.mul_le_mul_right _ hi;rw[Nat.add_mul]at this;omega
theorem Of(h:Row f sz){l:List α}{i:Nat}{x:α}(e:l[i]?=some x){o:Nat}(hk:o<sz){p:PV}(hp:(f x)[o]?=some p):(aN f l)[i*sz+o]?=some (.pv p):=by
 have e1:=ph h e;rw[←List.getElem?_drop,e1,List.getElem?_append_left (by rw[List.length_map,h.len];exact hk),List.getElem?_map,hp];rfl
theorem kR(h:Row f sz){l:List α}{i:Nat}{x y:α}(e:l[i]?=some x){o:Nat}{vs:List PV}(hk:o+vs.length≤sz)(hy:f y=(f x).take o++vs++(f x).drop (o+vs.length)):aQ (aN f l) (i*sz+o) (vs.map .pv)=aN f (l.set i y):=by
 have hi:=(List.getElem?_eq_some_iff.1 e).1;have e3:l.set i y=l.take i++y::l.drop (i+1):=by rw[List.set_eq_take_append_cons_drop,if_pos hi]
 have e1:=ph h e;have e2:=AW h (l:=l) (i:=i) (by omega);rw[e3,aF,mR,kg,←e2,hy]
 have e4:(aN f l).drop (i*sz+o+(vs.map AV.pv).length)=((f x).drop (o+vs.length)).map .pv++aN f (l.drop (i+1)):=by
   rw[List.length_map,Nat.add_assoc,←List.drop_drop,e1,List.drop_append,List.length_map,h.len,show o+vs.length-sz=0 from by omega];simp
 have e5:(aN f l).take (i*sz+o)=(aN f l).take (i*sz)++((f x).take o).map .pv:=by
   rw[List.take_add,e1,List.take_append,List.length_map,h.len,show o-sz=0 from by omega];simp
 rw[e4,e5];simp
theorem pj(h:Row f sz){l:List α}{i:Nat}{x y:α}(e:l[i]?=some x){o:Nat}{p:PV}(hk:o+1≤sz)(hy:f y=(f x).take o++[p]++(f x).drop (o+1)):aQ (aN f l) (i*sz+o) [.pv p]=aN f (l.set i y):=
 kR h e (vs:=[p]) (by simpa using hk) hy
theorem Ff(h:Row f sz):∀{l:List α},∃ps,eh (aN f l)=some ps∧(chunk sz l.length ps).map PV.agg=l.map fun x=>.agg (f x)
 |[]=>⟨[],rfl,rfl⟩
 |x::r=>by
   obtain⟨ps,h1,h2⟩:=Ff h (l:=r)
   have key:∀(a:List PV) (b:List AV),eh b=some ps→eh (a.map AV.pv++b)=some (a++ps):=by
     intro a b hb;induction a with
     |nil=>simpa using hb
     |cons c a ih=>simp only[List.map_cons,List.cons_append,eh,kx,ih]
   refine⟨f x++ps,key _ _ h1,?_⟩;simp only[List.length_cons,chunk,List.map_cons];rw[List.take_left' (h.len x),List.drop_left' (h.len x),h2]
theorem mT(h:Row f sz){l:List α}:((eh (aN f l)).bind (dK sz true l.length)).map PV.au=some (.au (l.map fun x=>.agg (f x))):=by
 obtain⟨ps,h1,h2⟩:=Ff h (l:=l);rw[h1];simp only[Option.bind_some,dK,if_true,Option.map_some,h2]
theorem mU(h:Row f sz){l:List α}:((l.map fun x=>PV.agg (f x)).flatMap aX).map AV.pv=aN f l:=by
 induction l with
 |nil=>rfl
 |cons x r ih=>simp only[List.map_cons,List.flatMap_cons,List.map_append,ih,kg,aX]
end
abbrev nn(k:Nat):Sh:=List.replicate k none
theorem cq(k:Nat):aL (nn k):=by
 intro cs hc;simp[nn,List.mem_replicate]at hc
end Go.Ab.Lw
namespace Go.Ab.Lw
open Ev
inductive Ex.Ok:Ex→Prop
 |mk {e:Ex}:e.kids.length≤1000→e.aE.length≤1000→(∀a∈e.aE,a.vars.length≤1000)→e.ty.Ok→(∀x∈e.ch,x.Ok)→e.Ok
theorem Ex.Ok.k{e:Ex}(h:e.Ok):e.kids.length≤1000:=by cases h;assumption
theorem Ex.Ok.a{e:Ex}(h:e.Ok):e.aE.length≤1000:=by cases h;assumption
theorem Ex.Ok.v{e:Ex}(h:e.Ok):∀a∈e.aE,a.vars.length≤1000:=by cases h;assumption
theorem Ex.Ok.t{e:Ex}(h:e.Ok):e.ty.Ok:=by cases h;assumption
theorem Ex.Ok.c{e:Ex}(h:e.Ok):∀x∈e.ch,x.Ok:=by cases h;assumption
theorem Ex.et{e:Ex}:e.ch.length=e.kids.length+e.aE.length:=by simp[Ex.ch]
@[simp] def Ex.cl(e:Ex):List AV:=[.pv (vI e.kind),.pv (vI e.pos),.pv (.str e.name),.pv (vI e.num),.pv (.au (e.kids.map Ex.pv)),.pv (.au (e.aE.map Ar.pv)),.pv (vI e.ty.kind),.pv (.str e.ty.name),.pv (vI e.ty.id),.pv (vI e.ty.home),.pv (.au (e.ty.args.map Ty.pv))]
theorem bS:Row Ex.cells 11:=⟨by omega,fun x=>by rw[Ex.bm];rfl⟩
def Ar.cells(a:Ar):List PV:=.int .i64 a.pos::.str a.dk::.au (a.vars.map .str)::a.body.cells
theorem fF:Row Ar.cells 14:=⟨by omega,fun x=>by simp[Ar.cells,Ex.bm]⟩
theorem Ex.l_(e:Ex):e.cells.map AV.pv=e.cl:=by rw[Ex.bm];rfl
@[simp] def Ex.TN(e:Ex)(A:AV):List AV:=[.pv (vI e.kind),.pv (vI e.pos),.pv (.str e.name),.pv (vI e.num),.pv (.au (e.kids.map Ex.pv)),A,.pv (vI e.ty.kind),.pv (.str e.ty.name),.pv (vI e.ty.id),.pv (vI e.ty.home),.pv (.au (e.ty.args.map Ty.pv))]
def Vn(A:AV)(as:List Ar)(X:Sh):Prop:=A=.pv (.au (as.map Ar.pv))∨∃b,b<X.length∧A=.aP b 14 as.length true∧X[b]?=some (some (aN Ar.cells as))
theorem Vn.app{A:AV}{as:List Ar}{X Y:Sh}(h:Vn A as X):Vn A as (X++Y):=by
 rcases h with h|⟨b,h1,h2,h3⟩
 ·exact .inl h
 ·exact .inr ⟨b,by rw[List.length_append];omega,h2,by rw[List.getElem?_append_left h1];exact h3⟩
def hV(X:Sh)(l:List Ex):AV:=if l=[] then .own [] 0 else .aP X.length 11 l.length true
def hS(X:Sh)(l:List Ex):Sh:=if l=[] then X else X++[some (aN Ex.cells l)]
def hT(l:List Ex):aG:=if l=[] then [0] else []
theorem AX{X:Sh}(h:aL X)(l:List Ex):aL (hS X l):=by
 unfold hS;by_cases h0:l=[]
 ·rw[if_pos h0];exact h
 ·rw[if_neg h0];exact h.app (aL.one aY)
theorem Q'{e:Ex}{A:AV}(ha:e.aE.length≤1000):∀(n i:Nat),e.aE.length-i=n→i≤e.aE.length→∀(X:Sh) (acc:List Ex),aL X→Vn A e.aE X→acc.length+n≤1000000→∃k,
   cl AP g145L0 ⟨[(1,.az 1 0),(3,hV X acc),(4,.pv (vI i))],[(1,e.TN A)],hS X acc,hT acc⟩ =
     some (.exit 0,⟨[(1,.az 1 0),(3,hV (X++nn k) (acc++(e.aE.drop i).map cT.body)),(4,.pv (vI e.aE.length)),(12,.pv (.bool false))],[(1,e.TN A)],hS (X++nn k) (acc++(e.aE.drop i).map cT.body),hT (acc++(e.aE.drop i).map cT.body)⟩)
 |0,i,hn,hi,X,acc,hX,hA,hl=>by
   have:i=e.aE.length:=by omega
   subst this;refine⟨0,?_⟩;rw[List.drop_length,List.map_nil,List.append_nil,show nn 0=[] from rfl,List.append_nil];have hn:=(AX hX acc).norm
   have vc:(hV X acc=.own [] 0∧hT acc=[0])∨(∃b z k g,hV X acc=.aP b z k g∧hT acc=[]):=by
     unfold hV hT;by_cases h0:acc=[]
     ·left;simp[h0]
     ·right;exact⟨X.length,11,acc.length,true,by simp[h0],by simp[h0]⟩
   rw[g145L0e]
   rcases vc with⟨v1,t1⟩|⟨b1,z1,k1,f1,v1,t1⟩<;>rw[v1,t1]<;>generalize hS X acc=S0 at hn⊢ <;>
     rcases hA with rfl|⟨b,hb,rfl,hx⟩<;>simp[g145B0,hn]
 |n+1,i,hn,hi,X,acc,hX,hA,hl=>by
   have hi:i<e.aE.length:=(by omega);obtain⟨x,hx⟩:=aV hi;have hnX:=hX.norm;have hB11:∀m:Nat,m≤1000000→m*152≤140737488355328:=(by omega);have hcl:=Ex.bm x.body;rw[bh hx,List.map_cons]
   have step:∃k,cl AP g145L0 ⟨[(1,.az 1 0),(3,hV (if acc=[] then X else X++[none]) (acc++[x.body])),(4,.pv (vI (i+1:Nat)))],[(1,e.TN A)],hS (if acc=[] then X else X++[none]) (acc++[x.body]),hT (acc++[x.body])⟩ =
     some (.exit 0,⟨[(1,.az 1 0),(3,hV (X++nn k) (acc++(x.body::(e.aE.drop (i+1)).map cT.body))),(4,.pv (vI e.aE.length)),(12,.pv (.bool false))],[(1,e.TN A)],hS (X++nn k) (acc++(x.body::(e.aE.drop (i+1)).map cT.body)),hT (acc++(x.body::(e.aE.drop (i+1)).map cT.body))⟩):=by
     by_cases h0:acc=[]
     ·rw[if_pos h0];obtain⟨k,ih⟩:=Q' ha n (i+1) (by omega) (by omega) X (acc++[x.body]) hX hA (by simp;omega);refine⟨k,?_⟩;rw[ih];simp only[List.append_assoc,List.singleton_append]
     · rw[if_neg h0];obtain⟨k,ih⟩:=Q' ha n (i+1) (by omega) (by omega) (X++[none]) (acc++[x.body]) (hX.app (cq 1)) hA.app (by simp;omega);refine⟨k+1,?_⟩;have e1:X++[none]++nn k=X++nn (k+1):=by simp[nn,List.replicate_succ]
       rw[ih,e1];simp only[List.append_assoc,List.singleton_append]
   obtain⟨k,ih⟩:=step;refine⟨k,?_⟩;generalize hV (X++nn k) (acc++(x.body::(e.aE.drop (i+1)).map cT.body))=V2 at ih⊢;generalize hS (X++nn k) (acc++(x.body::(e.aE.drop (i+1)).map cT.body))=S2 at ih⊢;generalize hT (acc++(x.body::(e.aE.drop (i+1)).map cT.body))=T2 at ih⊢;have hne:acc++[x.body]≠[]:=by simp
   have hn1:∀Y,aL Y→∀aI ts,a9 aI ts (Y++[some (aN Ex.cells (acc++[x.body]))])=(Y++[some (aN Ex.cells (acc++[x.body]))],aI,ts):=fun Y hY=>(hY.app (aL.one aY)).norm;have hfl:aN Ex.cells (acc++[x.body])=aN Ex.cells acc++x.body.cl:=by rw[mR,←Ex.l_];simp[aN]
   by_cases h0:acc=[]
   · subst h0;rw[if_pos rfl]at ih;have hn2:=hn1 X hX;simp only[List.nil_append]at hne hn2 hfl ih;simp only[hV,hS,hT,if_neg hne,if_true]at ih⊢;rw[hfl]at hn2 ih;simp only[x7,List.nil_append]at hn2 ih;simp only[Ex.cl]at hn2;rw[g145L0e]at ih⊢;rcases hA with rfl|⟨b,hb,rfl,hxb⟩
     ·simp[hn2]at ih;simp (disch:=omega) [-getElem?_pos,g145B0,hx,hi,ah,hnX];rw[g145L0e];simp[hn2,ih]
     ·have q1:=mS fF hx (o:=3) (k:=11) (by omega);have q2:i*14+3+11≤e.aE.length*14:=(by omega);have q3:(aN Ar.cells e.aE).length=e.aE.length*14:=bn fF;have q4:bU (aN Ar.cells e.aE)=false:=bH aY;have q5:(((Ar.cells x).drop 3).take 11).map AV.pv=x.body.cl:=(by simp[Ar.cells,hcl]);rw[q5]at q1;generalize aN Ar.cells e.aE=T at *;simp[hn2]at ih q1;simp (disch:=omega) [-getElem?_pos,g145B0,hx,hi,ah,hnX,hxb,q1,q2,q3,q4];rw[g145L0e];simp[hn2,ih]
   · rw[if_neg h0]at ih;have hn2:=hn1 (X++[none]) (hX.app (cq 1));have hn3:∀aI ts,a9 aI ts (X++[some (aN Ex.cells acc)])=(X++[some (aN Ex.cells acc)],aI,ts):=(hX.app (aL.one aY)).norm;simp only[hV,hS,hT,if_neg hne,if_neg h0]at ih⊢;have r1:(aN Ex.cells acc).length=acc.length*11:=bn bS;have r2:bU (aN Ex.cells acc)=false:=bH aY;have r3:(aN Ex.cells acc).take (acc.length*11)=aN Ex.cells acc:=List.take_of_length_le (by omega);have hb2:(acc.length+1)*152≤140737488355328:=by omega
     rw[hfl]at hn2 ih;rw[List.length_append,List.length_singleton,List.length_append,List.length_singleton]at ih;have s1:∀u w:Option (List AV),(X++[u]).set X.length w=X++[w]:=fun u w=>by simp
     have s2:∀u:Option (List AV),(X++[u])[X.length]?=some u:=fun u=>by simp
     simp only[Ex.cl]at hn2;rw[g145L0e]at ih⊢;rcases hA with rfl|⟨b,hb,rfl,hxb⟩
     ·generalize aN Ex.cells acc=F at *;simp[hn2]at ih;simp (disch:=omega) [-getElem?_pos,g145B0,hx,hi,ah,hn3,r1,r2,r3,s1,s2,hb2];rw[g145L0e];simp[hn2,ih]
     · have q1:=mS fF hx (o:=3) (k:=11) (by omega);have q2:i*14+3+11≤e.aE.length*14:=(by omega);have q3:(aN Ar.cells e.aE).length=e.aE.length*14:=bn fF;have q4:bU (aN Ar.cells e.aE)=false:=bH aY;have q5:(((Ar.cells x).drop 3).take 11).map AV.pv=x.body.cl:=(by simp[Ar.cells,hcl]);have q6:∀u:Option (List AV),(X++[u])[b]?=X[b]?:=fun u=>List.getElem?_append_left hb
       rw[q5]at q1;generalize aN Ar.cells e.aE=T at *;generalize aN Ex.cells acc=F at *;simp[hn2]at ih q1;simp (disch:=omega) [-getElem?_pos,g145B0,hx,hi,ah,hn3,r1,r2,r3,s1,s2,hb2,hxb,q1,q2,q3,q4,q6];rw[g145L0e];simp[hn2,ih]
theorem nY{l:List Ex}:((eh (aN Ex.cells l)).bind (dK 11 true l.length)).map PV.au=some (.au (l.map Ex.pv)):=mT bS
theorem ud{l:List Ex}:((l.map Ex.pv).flatMap aX).map AV.pv=aN Ex.cells l:=mU bS
theorem c145{e:Ex}(h:e.Ok):(aC AP).p 145 [e.pv]=some [.au (e.ch.map Ex.pv)]:=by
 have hk:=h.k;have ha:=h.a;obtain⟨k,h2⟩:=Q' (A:=.pv (.au (e.aE.map Ar.pv))) ha _ 0 rfl (by omega) [] e.kids (by intro cs h;simp at h) (.inl rfl) (by omega);rw[List.drop_zero]at h2
 change cl AP g145L0 _=some (.exit 0,⟨[(1,.az 1 0),(3,hV ([]++nn k) e.ch),(4,.pv (vI e.aE.length)),(12,.pv (.bool false))],[(1,e.TN (.pv (.au (e.aE.map Ar.pv))))],hS ([]++nn k) e.ch,hT e.ch⟩)at h2
 have hb2:e.kids.length*152≤140737488355328:=by omega
 have hm:=ud (l:=e.kids);have hl:=nY (l:=e.ch);have hlen:(aN Ex.cells e.ch).length=e.ch.length*11:=bn bS;have hq0:∀aI ts,a9 aI ts ([some (aN Ex.cells e.kids)])=([some (aN Ex.cells e.kids)],aI,ts):=(aL.one aY).norm;rw[ae (af:=g145) rfl rfl (by decide)];by_cases hc:e.ch=[]
 · have h0:e.kids=[]∧e.aE=[]:=by have:=hc;simpa[Ex.ch] using this
   simp only[hc,hV,hS,hT,if_true,h0.1]at h2⊢;rw[g145L0e]at h2;simp[h0.1,h0.2]at h2;simp[g145,h0.1,h0.2,g145L0e,h2]
 · have hg:∀Z:Option (List AV),([]++nn k++[Z])[k]?=some Z:=fun Z=>by simp
   by_cases h0:e.kids=[]
   ·simp only[hV,hS,hT,if_neg hc,h0,if_true]at h2⊢;have hg1:=hg (some (aN Ex.cells e.ch));generalize []++nn k++[some (aN Ex.cells e.ch)]=S2 at *;generalize aN Ex.cells e.ch=F at *;rw[g145L0e]at h2;simp[h0]at h2;simp at hl;simp[-getElem?_pos,g145,h0,g145L0e,h2,hg1,hlen,hl]
   ·simp only[hV,hS,hT,if_neg hc,if_neg h0]at h2⊢;have hg1:=hg (some (aN Ex.cells e.ch));generalize []++nn k++[some (aN Ex.cells e.ch)]=S2 at *;generalize aN Ex.cells e.ch=F at *;generalize aN Ex.cells e.kids=F0 at *;rw[g145L0e]at h2;simp[hq0]at h2 hl;simp[-getElem?_pos,g145,h0,hb2,hm,hq0,g145L0e,h2,hg1,hlen,hl]
theorem Og{e:Ex}(ha:e.aE.length≤1000):∀(n i:Nat),e.aE.length-i=n→i≤e.aE.length→∀(X:Sh) (acc:List Ex),aL X→acc.length+n≤1000000→∃k,
   cl AP g414L0 ⟨[(3,hV X acc),(10,.pv (.au (e.aE.map Ar.pv))),(11,.pv (vI e.aE.length)),(12,.pv (vI i))],[],hS X acc,hT acc⟩ =
     some (.exit 0,⟨[(3,hV (X++nn k) (acc++(e.aE.drop i).map cT.body)),(10,.pv (.au (e.aE.map Ar.pv))),(11,.pv (vI e.aE.length)),(12,.pv (vI e.aE.length)),(13,.pv (.bool false))],[],hS (X++nn k) (acc++(e.aE.drop i).map cT.body),hT (acc++(e.aE.drop i).map cT.body)⟩)
 |0,i,hn,hi,X,acc,hX,hl=>by
   have:i=e.aE.length:=by omega
   subst this;refine⟨0,?_⟩;rw[List.drop_length,List.map_nil,List.append_nil,show nn 0=[] from rfl,List.append_nil];have hn:=(AX hX acc).norm
   have vc:(hV X acc=.own [] 0∧hT acc=[0])∨(∃b z k g,hV X acc=.aP b z k g∧hT acc=[]):=by
     unfold hV hT;by_cases h0:acc=[]
     ·left;simp[h0]
     ·right;exact⟨X.length,11,acc.length,true,by simp[h0],by simp[h0]⟩
   rw[g414L0e];rcases vc with⟨v1,t1⟩|⟨b1,z1,k1,f1,v1,t1⟩<;>rw[v1,t1]<;>generalize hS X acc=S0 at hn⊢<;>simp[g414B0,hn]
 |n+1,i,hn,hi,X,acc,hX,hl=>by
   have hi:i<e.aE.length:=(by omega);obtain⟨x,hx⟩:=aV hi;have hnX:=hX.norm;have hcl:=Ex.bm x.body;rw[bh hx,List.map_cons]
   have step:∃k,cl AP g414L0 ⟨[(3,hV (if acc=[] then X else X++[none]) (acc++[x.body])),(10,.pv (.au (e.aE.map Ar.pv))),(11,.pv (vI e.aE.length)),(12,.pv (vI (i+1:Nat)))],[],hS (if acc=[] then X else X++[none]) (acc++[x.body]),hT (acc++[x.body])⟩ =
     some (.exit 0,⟨[(3,hV (X++nn k) (acc++(x.body::(e.aE.drop (i+1)).map cT.body))),(10,.pv (.au (e.aE.map Ar.pv))),(11,.pv (vI e.aE.length)),(12,.pv (vI e.aE.length)),(13,.pv (.bool false))],[],hS (X++nn k) (acc++(x.body::(e.aE.drop (i+1)).map cT.body)),hT (acc++(x.body::(e.aE.drop (i+1)).map cT.body))⟩):=by
     by_cases h0:acc=[]
     ·rw[if_pos h0];obtain⟨k,ih⟩:=Og ha n (i+1) (by omega) (by omega) X (acc++[x.body]) hX (by simp;omega);refine⟨k,?_⟩;rw[ih];simp only[List.append_assoc,List.singleton_append]
     · rw[if_neg h0];obtain⟨k,ih⟩:=Og ha n (i+1) (by omega) (by omega) (X++[none]) (acc++[x.body]) (hX.app (cq 1)) (by simp;omega);refine⟨k+1,?_⟩;have e1:X++[none]++nn k=X++nn (k+1):=by simp[nn,List.replicate_succ]
       rw[ih,e1];simp only[List.append_assoc,List.singleton_append]
   obtain⟨k,ih⟩:=step;refine⟨k,?_⟩;generalize hV (X++nn k) (acc++(x.body::(e.aE.drop (i+1)).map cT.body))=V2 at ih⊢;generalize hS (X++nn k) (acc++(x.body::(e.aE.drop (i+1)).map cT.body))=S2 at ih⊢;generalize hT (acc++(x.body::(e.aE.drop (i+1)).map cT.body))=T2 at ih⊢;have hne:acc++[x.body]≠[]:=by simp
   have hn1:∀Y,aL Y→∀aI ts,a9 aI ts (Y++[some (aN Ex.cells (acc++[x.body]))])=(Y++[some (aN Ex.cells (acc++[x.body]))],aI,ts):=fun Y hY=>(hY.app (aL.one aY)).norm;have hfl:aN Ex.cells (acc++[x.body])=aN Ex.cells acc++x.body.cl:=by rw[mR,←Ex.l_];simp[aN]
   by_cases h0:acc=[]
   ·subst h0;rw[if_pos rfl]at ih;have hn2:=hn1 X hX;simp only[List.nil_append]at hne hn2 hfl ih;simp only[hV,hS,hT,if_neg hne,if_true]at ih⊢;rw[hfl]at hn2 ih;simp only[x7,List.nil_append]at hn2 ih;simp only[Ex.cl]at hn2;rw[g414L0e]at ih⊢;simp[hn2]at ih;simp (disch:=omega) [-getElem?_pos,g414B0,hx,hi,ah,hnX];rw[g414L0e];simp[hn2,ih]
   · rw[if_neg h0]at ih;have hn2:=hn1 (X++[none]) (hX.app (cq 1));have hn3:∀aI ts,a9 aI ts (X++[some (aN Ex.cells acc)])=(X++[some (aN Ex.cells acc)],aI,ts):=(hX.app (aL.one aY)).norm;simp only[hV,hS,hT,if_neg hne,if_neg h0]at ih⊢;have r1:(aN Ex.cells acc).length=acc.length*11:=bn bS;have r2:bU (aN Ex.cells acc)=false:=bH aY;have r3:(aN Ex.cells acc).take (acc.length*11)=aN Ex.cells acc:=List.take_of_length_le (by omega);have hb2:(acc.length+1)*152≤140737488355328:=by omega
     rw[hfl]at hn2 ih;rw[List.length_append,List.length_singleton,List.length_append,List.length_singleton]at ih;have s1:∀u w:Option (List AV),(X++[u]).set X.length w=X++[w]:=fun u w=>by simp
     have s2:∀u:Option (List AV),(X++[u])[X.length]?=some u:=fun u=>by simp
     simp only[Ex.cl]at hn2;rw[g414L0e]at ih⊢;generalize aN Ex.cells acc=F at *;simp[hn2]at ih;simp (disch:=omega) [-getElem?_pos,g414B0,hx,hi,ah,hn3,r1,r2,r3,s1,s2,hb2];rw[g414L0e];simp[hn2,ih]
theorem c414{e:Ex}(h:e.Ok):(aC AP).p 414 [e.pv]=some [.au (e.ch.map Ex.pv)]:=by
 have hk:=h.k;have ha:=h.a;obtain⟨k,h2⟩:=Og ha _ 0 rfl (by omega) [] e.kids (by intro cs h;simp at h) (by omega);rw[List.drop_zero]at h2
 change cl AP g414L0 _=some (.exit 0,⟨[(3,hV ([]++nn k) e.ch),(10,.pv (.au (e.aE.map Ar.pv))),(11,.pv (vI e.aE.length)),(12,.pv (vI e.aE.length)),(13,.pv (.bool false))],[],hS ([]++nn k) e.ch,hT e.ch⟩)at h2
 have hb2:e.kids.length*152≤140737488355328:=by omega
 have hm:=ud (l:=e.kids);have hl:=nY (l:=e.ch);have hlen:(aN Ex.cells e.ch).length=e.ch.length*11:=bn bS;have hq0:∀aI ts,a9 aI ts ([some (aN Ex.cells e.kids)])=([some (aN Ex.cells e.kids)],aI,ts):=(aL.one aY).norm;rw[ae (af:=g414) rfl rfl (by decide)];by_cases hc:e.ch=[]
 · have h0:e.kids=[]∧e.aE=[]:=by have:=hc;simpa[Ex.ch] using this
   simp only[hc,hV,hS,hT,if_true,h0.1]at h2⊢;rw[g414L0e]at h2;simp[h0.1,h0.2]at h2;simp[g414,h0.1,h0.2,g414L0e,h2]
 · have hg:∀Z:Option (List AV),([]++nn k++[Z])[k]?=some Z:=fun Z=>by simp
   by_cases h0:e.kids=[]
   ·simp only[hV,hS,hT,if_neg hc,h0,if_true]at h2⊢;have hg1:=hg (some (aN Ex.cells e.ch));generalize []++nn k++[some (aN Ex.cells e.ch)]=S2 at *;generalize aN Ex.cells e.ch=F at *;rw[g414L0e]at h2;simp[h0]at h2;simp at hl;simp[-getElem?_pos,g414,h0,g414L0e,h2,hg1,hlen,hl]
   ·simp only[hV,hS,hT,if_neg hc,if_neg h0]at h2⊢;have hg1:=hg (some (aN Ex.cells e.ch));generalize []++nn k++[some (aN Ex.cells e.ch)]=S2 at *;generalize aN Ex.cells e.ch=F at *;generalize aN Ex.cells e.kids=F0 at *;rw[g414L0e]at h2;simp[hq0]at h2 hl;simp[-getElem?_pos,g414,h0,hb2,hm,hq0,g414L0e,h2,hg1,hlen,hl]
def Vo:Ex:=⟨0,0,[],0,[],[],bp⟩
def Ex.at:Ex→List Int→Option Ex
 |e,[]=>some e
 |e,i::r=>if 0≤i∧i<e.ch.length then match e.ch[i.toNat]? with|some x=>x.at r|none=>none else none
def zO:List AV:=[.pv (vI 0),.pv (vI 0),.pv (.str []),.pv (vI 0),.own [] 0,.own [] 1,.pv (vI 0),.pv (.str []),.pv (vI 0),.pv (vI 0),.own [] 2]
def zK:List AV:=[.pv (vI 0),.pv (vI 0),.pv (.str []),.pv (vI 0),.dB [],.dB [],.pv (vI 0),.pv (.str []),.pv (vI 0),.pv (vI 0),.dB []]
def atR:Option Ex→List PV
 |some x=>[x.pv,.bool true]
 |none=>[Vo.pv,.bool false]
def IC(p:List Int):Option Ex→Option (bg×St)
 |some x=>some (.exit 0,⟨[(2,.az 2 0),(4,.az 4 0),(9,.pv (.au (p.map vI))),(10,.pv (vI p.length)),(11,.pv (vI p.length)),(12,.pv (.bool false))],[(2,x.cl),(4,zO)],[],[0,0,0]⟩)
 |none=>some (.ret,⟨[(4,.az 4 0),(5,.pv (.bool false))],[(4,zK)],[],[0,0,0]⟩)
theorem TO{p:List Int}(hp:Sm p):∀(n i:Nat),p.length-i=n→i≤p.length→∀e:Ex,e.Ok →
   cl AP g410L0 ⟨[(2,.az 2 0),(4,.az 4 0),(9,.pv (.au (p.map vI))),(10,.pv (vI p.length)),(11,.pv (vI i))],[(2,e.cl),(4,zO)],[],[0,0,0]⟩=IC p (e.at (p.drop i))
 |0,i,hn,hi,e,he=>by
   have:i=p.length:=by omega
   subst this;rw[g410L0e];simp[g410B0,Ex.at,IC,zO]
 |n+1,i,hn,hi,e,he=>by
   have hi:i<p.length:=(by omega);obtain⟨k,hk⟩:=aV hi;unfold Sm at hp;have c:=c414 he;simp at c;rw[bh hk,g410L0e];simp only[Ex.at];by_cases h1:0≤k∧k<e.ch.length
   · rw[if_pos h1];obtain⟨m,rfl,hm⟩:=o7 h1.1 h1.2;obtain⟨x,hx⟩:=aV hm;have ih:=TO hp n (i+1) (by omega) (by omega) x (he.c x (aR hx));have hm':¬e.ch.length≤m:=by omega
     simp[hx,zO]at ih⊢;generalize e.ch=C at *;simp (disch:=omega) [-getElem?_pos,g410B0,hk,hi,ah,c,hx,hm,hm',ih]
   · rw[if_neg h1];by_cases h2:0≤k
     · have h3:¬k<e.ch.length:=fun h=>h1 ⟨h2,h⟩;have h3':¬k<0:=by omega
       have h4:(e.ch.length:Int)≤k:=(by omega);generalize e.ch=C at *;simp (disch:=omega) [-getElem?_pos,g410B0,hk,hi,ah,c,IC,zO,zK,h3,h3',h4]
     ·have h3':k<0:=(by omega);generalize e.ch=C at *;simp (disch:=omega) [-getElem?_pos,g410B0,hk,hi,ah,c,IC,zO,zK,h3']
theorem c410{e:Ex}(h:e.Ok){p:List Int}(hp:Sm p):(aC AP).p 410 [e.pv,.au (p.map vI)]=some (atR (e.at p)):=by
 have h2:=TO hp _ 0 rfl (by omega) e h;simp at h2;rw[ae (af:=g410) rfl rfl (by decide)];rw[g410L0e]at h2;cases hx:e.at p with
 |none=>rw[hx]at h2;simp[IC,zO,zK]at h2;simp[g410,g410L0e,h2,atR,Vo,bp]
 |some x=>rw[hx]at h2;simp[IC,zO,zK]at h2;simp[g410,g410L0e,h2,atR,Vo,bp]
def ia(e:Ex)(i:Nat):List (List UInt8):=
 if e.kind=4∨e.kind=7∨(e.kind=6∧i=1) then [e.name]
 else if e.kind=8∧0<i then match e.aE[i-1]? with|some a=>a.vars|none=>[]
 else []
theorem c411{e:Ex}{i:Nat}(hi:i<e.ch.length)(h8:e.kind=8→e.kids.length=1)(hO:e.Ok):(aC AP).p 411 [e.pv,vI i]=some [.au ((ia e i).map .str)]:=by
 have ha:=hO.a;rw[Ex.et]at hi;rw[ae (af:=g411) rfl rfl (by decide)];unfold ia;by_cases h1:e.kind=4
 ·simp[g411,h1]
 · by_cases h2:e.kind=7
   ·simp[g411,h1,h2]
   · by_cases h3:e.kind=6
     · by_cases h4:i=1
       ·simp[g411,h1,h2,h3,h4]
       ·have h4':¬(i:Int)=1:=(by omega);simp[g411,h1,h2,h3,h4,h4']
     · by_cases h5:e.kind=8
       · have hk:=h8 h5;by_cases h6:0<i
         ·have h6':(1:Int)≤i:=(by omega);obtain⟨a,hx⟩:=aV (l:=e.aE) (i:=i-1) (by omega);obtain⟨m,rfl⟩:∃m:Nat,i=m+1:=⟨i-1,by omega⟩;have hm:((m+1:Nat):Int)-1=m:=(by omega);have hm':((m:Int)+1)-1=m:=(by omega);simp at hx hi;have hlt:m<e.aE.length:=(by omega);have h6'':(1:Int)≤(m:Int)+1:=(by omega);simp (disch:=omega) [-getElem?_pos,g411,h1,h2,h3,h5,hk,h6,h6',h6'',ah,hm,hm',hx,hlt]
         · have:i=0:=by omega
           subst this;simp[g411,h1,h2,h3,h5,hk]
       ·simp[g411,h1,h2,h3,h5]
def LI(l:List Ty)(t:Ty):Option Ty:=if t.kind=2∧0≤t.id∧t.id<l.length then l[t.id.toNat]? else none
theorem mc{l:List Ty}{t u:Ty}(h:LI l t=some u):t.kind=2∧0≤t.id∧t.id<l.length∧l[t.id.toNat]?=some u:=by
 unfold LI at h;split at h
 ·rename_i c;exact⟨c.1,c.2.1,c.2.2,h⟩
 ·cases h
theorem AY{l:List Ty}{t:Ty}(h:LI l t=none):¬(t.kind=2∧0≤t.id∧t.id<l.length):=by
 intro c;unfold LI at h;rw[if_pos c]at h;rw[List.getElem?_eq_none_iff]at h;omega
mutual
def Ty.mV(l:List Ty):Ty→Ty
 |⟨k,n,i,h,as⟩=>(LI l ⟨k,n,i,h,as⟩).getD ⟨k,n,i,h,Ty.LJ l as⟩
def Ty.LJ(l:List Ty):List Ty→List Ty
 |[]=>[]
 |a::r=>a.mV l::Ty.LJ l r
end
theorem Ty.AZ(l:List Ty):∀as:List Ty,Ty.LJ l as=as.map (Ty.mV l)
 |[]=>by simp[Ty.LJ]
 |a::r=>by simp[Ty.LJ,Ty.AZ l r]
theorem Ty.me(l:List Ty)(t:Ty):t.mV l=(LI l t).getD ⟨t.kind,t.name,t.id,t.home,t.args.map (Ty.mV l)⟩:=by
 cases t;simp only[Ty.mV,Ty.AZ]
theorem Wr{s:List Ty}{t:Ty}(hS:Sm t.args)(h:∀x∈t.args,(aC AP).p 48 [x.pv,.au (s.map Ty.pv)]=some [(x.mV s).pv]):∀(n i:Nat),t.args.length-i=n→i≤t.args.length→∀acc:List Ty,acc=(t.args.take i).map (Ty.mV s) →
   cl AP g48L0 ⟨[(1,.pv (.au (s.map Ty.pv))),(2,.az 2 0),(4,.az 4 0),(5,.az 5 0),(6,.pv (vI i))],
     [(2,[.pv (vI t.kind),.pv (.str t.name),.pv (vI t.id),.pv (vI t.home),.pv (.au (t.args.map Ty.pv))]),(4,[.pv (vI 0),.pv (.str []),.pv (vI 0),.pv (vI 0),.own [] 0]),
       (5,[.pv (vI t.kind),.pv (.str t.name),.pv (vI t.id),.pv (vI t.home),.own (acc.map Ty.pv) 1])],[],[0,acc.length]⟩ =
     some (.exit 0,⟨[(1,.pv (.au (s.map Ty.pv))),(2,.az 2 0),(4,.az 4 0),(5,.az 5 0),(6,.pv (vI t.args.length)),(33,.pv (.bool false))],
     [(2,[.pv (vI t.kind),.pv (.str t.name),.pv (vI t.id),.pv (vI t.home),.pv (.au (t.args.map Ty.pv))]),(4,[.pv (vI 0),.pv (.str []),.pv (vI 0),.pv (vI 0),.own [] 0]),
       (5,[.pv (vI t.kind),.pv (.str t.name),.pv (vI t.id),.pv (vI t.home),.own ((t.args.map (Ty.mV s)).map Ty.pv) 1])],[],[0,t.args.length]⟩)
 |0,i,hn,hi,acc,ha=>by
   have:i=t.args.length:=by omega
   subst this;subst ha;rw[g48L0e];simp[g48B0]
 |n+1,i,hn,hi,acc,ha=>by
   have hi:i<t.args.length:=(by omega);obtain⟨x,hx⟩:=aV hi;unfold Sm at hS;have hb:(acc.length+1)*64≤140737488355328:=by subst ha;simp;omega
   have hc:=h x (aR hx);have ih:=Wr hS h n (i+1) (by omega) (by omega) (acc++[x.mV s]) (by rw[List.take_add_one,hx,ha];simp);rw[g48L0e]at ih⊢;simp at ih hc;simp (disch:=omega) [-getElem?_pos,g48B0,hx,hi,hc,hb,ah];rw[g48L0e];simp[ih]
theorem c48{s:List Ty}(hs:Sm s){t:Ty}(hO:t.Ok):(aC AP).p 48 [t.pv,.au (s.map Ty.pv)]=some [(t.mV s).pv]:=by
 revert hO
 refine Ty.dH (p:=fun t=>t.Ok→(aC AP).p 48 [t.pv,.au (s.map Ty.pv)]=some [(t.mV s).pv]) ?_ t;intro t ih hO;rw[ae (af:=g48) rfl rfl (by decide)];unfold Sm at hs;have h:=Wr (s:=s) hO.sm (fun x hx=>ih x hx (hO.ga x hx)) _ 0 rfl (by omega) [] (by simp);rw[g48L0e]at h;simp at h;cases hp:LI s t with
 |some u=>
   obtain⟨a,b,c,d⟩:=mc hp;have b1:¬t.id<0:=by omega
   simp (disch:=omega) [-getElem?_pos,g48,a,b,b1,c,d,Ty.me s t,hp]
 |none=>
   have q:=AY hp;by_cases a:t.kind=2
   · by_cases b:0≤t.id
     ·have c:¬t.id<s.length:=fun c=>q ⟨a,b,c⟩;simp[a]at h;simp (disch:=omega) [-getElem?_pos,g48,a,b,c,g48L0e,h,Ty.me s t,hp]
     ·simp[a]at h;simp (disch:=omega) [-getElem?_pos,g48,a,b,g48L0e,h,Ty.me s t,hp]
   ·simp (disch:=omega) [-getElem?_pos,g48,a,g48L0e,h,Ty.me s t,hp]
inductive Ty.Wb:Ty→Prop
 |mk {t:Ty}:(t.kind=2→t.args=[])→(∀x∈t.args,Ty.Wb x)→Ty.Wb t
theorem LK{s:List Ty}(hs:∀a∈s,a.Ok){t:Ty}(h:t.Ok):(t.mV s).Ok:=by
 revert h
 refine Ty.dH (p:=fun t=>t.Ok→(t.mV s).Ok) ?_ t;intro t ih h;rw[Ty.me];cases hp:LI s t with
 |some u=>exact hs u (aR (mc hp).2.2.2)
 |none=>
   refine⟨?_,?_⟩
   ·have:=h.sm;unfold Sm at this⊢;simpa using this
   ·intro x hx;simp at hx;obtain⟨y,hy,rfl⟩:=hx;exact ih y hy (h.ga y hy)
structure Good(S:List Ty)(t:Ty):Prop where
 ok:t.Ok
 wf:t.Wf
 sub:∀x∈t.eT 1,x∈S
theorem v3{t:Ty}(hW:t.Wf):∀x∈t.nodes,x.kind=1→x∈t.eT 1:=by
 revert hW
 refine Ty.dH (p:=fun t=>t.Wf→∀x∈t.nodes,x.kind=1→x∈t.eT 1) ?_ t;intro t ih hW x hx hk;rw[Ty.aM]at hx;rw[Ty.l7];simp only[List.mem_cons,List.mem_flatMap]at hx;rcases hx with rfl|⟨y,hy,hx⟩
 ·have ea:=hW.var hk;simp[hk,ea]
 · have:¬(t.kind=1∧t.args.length=0):=by
     rintro⟨_,h⟩
     have:t.args=[]:=by simpa using h
     rw[this]at hy;simp at hy
   rw[if_neg this];simp only[List.mem_flatMap];exact⟨y,hy,ih y hy (hW.ga y hy) x hx hk⟩
theorem D6{S:List Ty}(hf:S.length<1099511627776)(hO:∀x∈S,x.Ok){l:List Ty}(hS:Sm l)(hG:∀t∈l,Good S t):(aC AP).p 56 [.au (l.map Ty.pv)]=some [.au ((vars l).map vI)]:=by
 rw[←t9 (fun t ht=>(hG t ht).wf)];refine c56 hf hO hS (fun t ht=>(hG t ht).ok) ?_;intro x hx;simp only[List.mem_flatMap]at hx;obtain⟨t,ht,hx⟩:=hx;exact (hG t ht).sub x hx
theorem Ra{l:List En}(hS:Sm l):∀(n i:Nat),l.length-i=n→i≤l.length→∀acc:List En,acc.length≤i →
   cl AP g201L0 ⟨[(0,.pv (.au (l.map En.pv))),(3,.own (acc.map En.pv) 0),(4,.pv (vI i))],[],[],[acc.length]⟩ =
     some (.exit 0,⟨[(0,.pv (.au (l.map En.pv))),(3,.own ((acc++dh (l.drop i)).map En.pv) 0),(4,.pv (vI l.length)),(10,.pv (.bool false))],[],[],[(acc++dh (l.drop i)).length]⟩)
 |0,i,hn,hi,acc,ha=>by
   have:i=l.length:=by omega
   subst this;rw[g201L0e];simp[g201B0,dh]
 |n+1,i,hn,hi,acc,ha=>by
   have hi:i<l.length:=(by omega);obtain⟨x,hx⟩:=aV hi;have k:=c181 (l:=l.drop (i+1)) (s:=x.name) (by unfold Sm at hS⊢;simp;omega);unfold Sm at hS;have hb:(acc.length+1)*88≤140737488355328:=(by omega);have hsl:=VN (sz:=7) (l:=l.map En.pv) (k:=.i64) (h:=(i:Int)+1) (by omega) (by simp;omega) (by simp);have hd:((i:Int)+1).toNat=i+1:=(by omega);rw[hd]at hsl;rw[bh hx];simp only[Ob]at k;cases e:E_ (l.drop (i+1)) x.name with
   |some c=>
     have ea:(l.drop (i+1)).any (fun y=>decide (y.name=x.name))=true:=any_none.2 ⟨c,e⟩;have es:dh (x::l.drop (i+1))=dh (l.drop (i+1)):=(by simp only[dh,ea,if_true]);have ih:=Ra hS n (i+1) (by omega) (by omega) acc (by omega);rw[g201L0e]at ih⊢;rw[e]at k;simp at ih k;simp (disch:=omega) [-getElem?_pos,g201B0,hx,hi,ah,hsl,k,es];rw[g201L0e];simp[ih]
   |none=>
     have ea:(l.drop (i+1)).any (fun y=>decide (y.name=x.name))=false:=by
       cases h:(l.drop (i+1)).any (fun y=>decide (y.name=x.name)) with
       |false=>rfl
       |true=>obtain⟨c,hc⟩:=any_none.1 h;rw[e]at hc;cases hc
     have es:dh (x::l.drop (i+1))=x::dh (l.drop (i+1)):=(by simp only[dh,ea];simp);have ih:=Ra hS n (i+1) (by omega) (by omega) (acc++[x]) (by simp;omega);rw[g201L0e]at ih⊢;rw[e]at k;simp at ih k;simp (disch:=omega) [-getElem?_pos,g201B0,hx,hi,ah,hsl,k,es,hb];rw[g201L0e];simp[ih]
theorem c201{l:List En}(hS:Sm l):(aC AP).p 201 [.au (l.map En.pv)]=some [.au ((dh l).map En.pv)]:=by
 have h:=Ra hS _ 0 rfl (by omega) [] (by simp);rw[ae (af:=g201) rfl rfl (by decide)];rw[g201L0e]at h;simp at h;simp[g201,g201L0e,h]
inductive Ty.Kn (K:Int→Prop):Ty→Prop
 |mk {t:Ty}:(t.kind≠4→K t.kind∧t.args=[])→t.name.length≤100→(∀x∈t.args,x.Kn K)→t.Kn K
theorem Ty.Kn.hd{K:Int→Prop}{t:Ty}(h:t.Kn K):t.kind≠4→K t.kind∧t.args=[]:=by cases h;assumption
theorem Ty.Kn.nm{K:Int→Prop}{t:Ty}(h:t.Kn K):t.name.length≤100:=by cases h;assumption
theorem Ty.Kn.kd{K:Int→Prop}{t:Ty}(h:t.Kn K):∀x∈t.args,x.Kn K:=by cases h;assumption
theorem Ty.Kn.imp{K K':Int→Prop}(hK:∀k,K k→K' k){t:Ty}(h:t.Kn K):t.Kn K':=by
 induction h with
 |mk h1 hn _ ih=>exact .mk (fun q=>⟨hK _ (h1 q).1,(h1 q).2⟩) hn ih
theorem Ty.Kn.wf{K:Int→Prop}{t:Ty}(h:t.Kn K):t.Wf:=by
 induction h with
 |mk h1 _ _ ih=>exact⟨fun q=>(h1 (by rw[q];decide)).2,ih⟩
theorem Ty.Kn.cw{K:Int→Prop}{t:Ty}(h:t.Kn K):t.Cw:=by
 induction h with
 |mk h1 _ _ ih=>exact⟨fun q=>(h1 q).2,ih⟩
theorem Ty.Kn.bare{K:Int→Prop}{t:Ty}(h:t.args=[])(hk:t.kind≠4→K t.kind)(hn:t.name.length≤100):t.Kn K:=.mk (fun q=>⟨hk q,h⟩) hn (by rw[h];simp)
theorem Ty.Kn.nodes{K:Int→Prop}{t:Ty}(h:t.Kn K):∀y∈t.nodes,y.kind≠4→K y.kind∧y.args=[]:=by
 induction h with
 | @mk t h1 _ _ ih=>
   intro y hy;rw[Ty.aM]at hy;simp only[List.mem_cons,List.mem_flatMap]at hy;rcases hy with rfl|⟨a,ha,hy⟩
   ·exact h1
   ·exact ih a ha y hy
@[simp] def KS(k:Int):Prop:=k=0∨k=1∨k=3
abbrev Ty.Kw(t:Ty):Prop:=t.Kn KS
theorem Ty.Kw.var{t:Ty}(h:t.Kw):t.kind=1→t.args=[]:=fun q=>(Ty.Kn.hd h (by rw[q];decide)).2
theorem Ty.Kw.ga{t:Ty}(h:t.Kw):∀x∈t.args,x.Kw:=Ty.Kn.kd h
@[simp] def KG(k:Int):Prop:=k=0∨k=3
@[simp] def KC(k:Int):Prop:=k=0∨k=2∨k=3
@[simp] def KV(k:Int):Prop:=k=0∨k=1∨k=2∨k=3
theorem Ps:∀k,KG k→KS k:=by intro k h;simp at h⊢;omega
theorem TQ:∀k,KG k→KC k:=by intro k h;simp at h⊢;omega
theorem TS:∀k,KC k→KV k:=by intro k h;simp at h⊢;omega
theorem D7{K K':Int→Prop}{s:List As}{t:Ty}(h:t.Kn K)(hK:∀k,K k→k≠1→K' k)(hs:∀i x,kQ s i=some x→x.Kn K')(h1:K' 1∨∀y∈t.nodes,y.kind=1→∃x,kQ s y.id=some x):(t.sub s).Kn K':=by
 induction h with
 | @mk t hh hn _ ih=>
   have hself:t∈t.nodes:=(by rw[Ty.aM];simp);rw[Ty.sub_eq];by_cases q:t.kind=1
   · rw[if_pos q];cases e:kQ s t.id with
     |some x=>simpa using hs _ _ e
     |none=>
       rcases h1 with h1|h1
       ·have:=hh (by rw[q];decide);exact .mk (fun _=>⟨by simp only[Option.getD_none];rw[q];exact h1,by simpa using this.2⟩) (by simpa using hn) (by rw[Option.getD_none,this.2];simp)
       ·obtain⟨x,hx⟩:=h1 t hself q;rw[hx]at e;cases e
   · rw[if_neg q];refine .mk (fun r=>?_) hn ?_
     ·have:=hh r;exact⟨hK _ this.1 q,by simp[this.2]⟩
     · intro x hx;simp only[List.mem_map]at hx;obtain⟨a,ha,rfl⟩:=hx;refine ih a ha ?_;rcases h1 with h1|h1
       ·exact .inl h1
       ·right;intro y hy;refine h1 y ?_;rw[Ty.aM];simp only[List.mem_cons,List.mem_flatMap];exact .inr ⟨a,ha,hy⟩
theorem LL{K K':Int→Prop}{l:List Ty}{t:Ty}(h:t.Kn K)(hK:∀k,K k→k≠2→K' k)(hs:∀x∈l,x.Kn K')(h1:∀y∈t.nodes,y.kind=2→0≤y.id∧y.id<l.length):(t.mV l).Kn K':=by
 induction h with
 | @mk t hh hn _ ih=>
   have hself:t∈t.nodes:=(by rw[Ty.aM];simp);rw[Ty.me];cases e:LI l t with
   |some x=>
     obtain⟨_,_,_,hx⟩:=mc e;simpa using hs _ (aR hx)
   |none=>
     have q:t.kind≠2:=fun q=>AY e ⟨q,(h1 t hself q).1,(h1 t hself q).2⟩;simp only[Option.getD_none];refine .mk (fun r=>?_) hn ?_
     ·have:=hh r;exact⟨hK _ this.1 q,by simp[this.2]⟩
     ·intro x hx;simp only[List.mem_map]at hx;obtain⟨a,ha,rfl⟩:=hx;refine ih a ha ?_;intro y hy;refine h1 y ?_;rw[Ty.aM];simp only[List.mem_cons,List.mem_flatMap];exact .inr ⟨a,ha,hy⟩
theorem Ex.kS{e x:Ex}(h:x∈e.ch):SizeOf.sizeOf x<SizeOf.sizeOf e:=by
 rw[Ex.ch,List.mem_append,List.mem_map]at h;cases e;rcases h with h|⟨a,ha,rfl⟩
 ·have:=_root_.List.sizeOf_lt_of_mem h;simp at *;omega
 ·have:=_root_.List.sizeOf_lt_of_mem ha;have:=cT.qh a;simp at *;omega
def Ex.sz(e:Ex):Nat:=1+(e.ch.attach.map fun x=>x.1.sz).sum
termination_by SizeOf.sizeOf e
decreasing_by exact Ex.kS x.2
theorem Ex.kh(e:Ex):e.sz=1+(e.ch.map Ex.sz).sum:=by
 rw[Ex.sz,List.map_attach_eq_pmap,List.pmap_eq_map]
theorem Ex.kT(e:Ex):1≤e.sz:=by rw[Ex.kh];omega
theorem ue{α:Type}{l:List α}{f:α→Nat}{M:Nat}(h:∀x∈l,f x≤M):(l.map f).sum≤l.length*M:=by
 induction l with
 |nil=>simp
 |cons a r ih=>
   have h1:=h a (by simp);have h2:=ih fun x hx=>h x (by simp[hx])
   simp only[List.map_cons,List.sum_cons,List.length_cons,Nat.add_mul];omega
theorem kU{α:Type}{l:List α}{f:α→Nat}{x:α}(h:x∈l):f x≤(l.map f).sum:=by
 induction l with
 |nil=>cases h
 |cons a r ih=>
   simp only[List.map_cons,List.sum_cons];rcases List.mem_cons.1 h with rfl|h
   ·omega
   ·have:=ih h;omega
theorem Ex.nZ{e x:Ex}(h:x∈e.ch):x.sz<e.sz:=by
 have:=kU (f:=Ex.sz) h;rw[e.kh];omega
@[simp] def KT(k:Int):Prop:=k=0∨k=5
inductive ki:Ex→Prop
 |leaf {e:Ex}:(e.kind=1∨e.kind=2)∧e.name.length≤100∨e.kind=3∧0≤e.num∧e.num<4∨e.kind=10∧e.name=[]∧e.num=0∧e.ty=bp→e.kids=[]→e.aE=[]→ki e
 |lam {e a:Ex}:e.kind=4→e.name.length≤100→e.kids=[a]→e.aE=[]→ki a→ki e
 |app {e a b:Ex}:e.kind=5→e.kids=[a,b]→e.aE=[]→ki a→ki b→ki e
 |qi {e a b:Ex}:e.kind=6∨e.kind=7→e.name.length≤100→e.kids=[a,b]→e.aE=[]→ki a→ki b→ki e
 |lx {e a:Ex}:e.kind=8→e.kids=[a]→ki a→e.aE.length≤10 →
     (∀x∈e.aE,x.dk.length≤100∧x.vars.length≤10∧∀v∈x.vars,v.length≤100)→(∀x∈e.aE,ki x.body)→ki e
 |ID {e a:Ex}:e.kind=9→e.kids=[a]→e.aE=[]→e.ty.Kn KT→e.ty.nodes.length≤10000→ki a→ki e
 |held {e a:Ex}:e.kind=11→e.kids=[a]→e.aE=[]→ki a→ki e
theorem ki.c{e:Ex}(h:ki e):∀x∈e.ch,ki x:=by
 intro x hx;rw[Ex.ch,List.mem_append,List.mem_map]at hx;cases h with
 |leaf _ h2 h3=>rw[h2,h3]at hx;simp at hx
 |lam _ _ h2 h3 h=>rw[h2,h3]at hx;simp at hx;subst hx;exact h
 |app _ h2 h3 h h'=>rw[h2,h3]at hx;simp at hx;rcases hx with rfl|rfl<;>assumption
 |qi _ _ h2 h3 h h'=>rw[h2,h3]at hx;simp at hx;rcases hx with rfl|rfl<;>assumption
 |ID _ h2 h3 _ _ h=>rw[h2,h3]at hx;simp at hx;subst hx;exact h
 |held _ h2 h3 h=>rw[h2,h3]at hx;simp at hx;subst hx;exact h
 |lx _ h2 h _ _ h6=>
   rw[h2]at hx;simp at hx;rcases hx with rfl|⟨a,ha,rfl⟩
   ·exact h
   ·exact h6 a ha
def wN(n:Nat):Nat:=50 ^ (n / 12)*(2*(n % 12)+1)
theorem TT{n m:Nat}(h:n≤m):wN n≤wN m:=by
 have step:∀n,wN n≤wN (n+1):=by
   intro n;unfold wN;by_cases q:n % 12=11
   ·have h1:(n+1) / 12=n / 12+1:=(by omega);have h2:(n+1) % 12=0:=(by omega);rw[h1,h2,q,Nat.pow_succ];generalize 50 ^ (n / 12)=P;omega
   ·have h1:(n+1) / 12=n / 12:=(by omega);have h2:(n+1) % 12=n % 12+1:=(by omega);rw[h1,h2];exact Nat.mul_le_mul_left _ (by omega)
 induction h with
 |refl=>exact Nat.le_refl _
 |step _ ih=>exact Nat.le_trans ih (step _)
theorem v5(m:Nat):wN (12*m)=50 ^ m:=by
 unfold wN;have h1:12*m / 12=m:=by omega
 have h2:12*m % 12=0:=by omega
 rw[h1,h2];omega
theorem uX{α:Type}{l:List α}{i:Nat}{x:α}(h:i<l.length):(l.set i x).take (i+1)=l.take i++[x]:=by
 rw[List.set_eq_take_append_cons_drop,if_pos h,List.take_append,List.take_of_length_le (by simp;omega)];have:i+1-(l.take i).length=1:=by simp;omega
 rw[this];rfl
theorem A3{α:Type}{l:List α}{i j:Nat}{x:α}(h:i<j):(l.set i x).drop j=l.drop j:=by
 rw[List.drop_set_of_lt h]
theorem Rb{X:Sh}(hX:aL X){t:List UInt8}{N:Nat}(hN:N<1099511627776):∀(n j:Nat),N-j=n→j≤N→∀(a:List (List UInt8)) (i:Nat),a.length=N→i<j→∃(a':List (List UInt8)) (i':Nat),
   cl AP g412L0 ⟨[(0,.aP X.length 1 N false),(1,.fn 413 [.aW (X.length+1) 0]),(5,.pv (vI i)),(6,.pv (vI j))],[],SA X a t,[]⟩ =
     some (.exit 0,⟨[(0,.aP X.length 1 N false),(1,.fn 413 [.aW (X.length+1) 0]),(5,.pv (vI i')),(6,.pv (vI N)),(19,.pv (.bool false))],[],SA X a' t,[]⟩) ∧
     a'.length=N∧i'≤N∧a'.take i'=a.take i++(a.drop j).filter (fun x=>!decide (x=t))
 |0,j,hk,hj,a,i,ha,hi=>by
   have:j=N:=by omega
   subst this;have hn:=(e8 hX (l:=a) (t:=t)).norm;refine⟨a,i,?_,ha,by omega,by rw[List.drop_of_length_le (by omega)];simp⟩;generalize SA X a t=SH at hn⊢;rw[g412L0e];simp[g412B0,hn]
 |n+1,j,hk,hj,a,i,ha,hi=>by
   have hj:j<N:=(by omega);obtain⟨x,hx⟩:=aV (l:=a) (i:=j) (by omega);have hn:=(e8 hX (l:=a) (t:=t)).norm;have hs:=(e8 hX (l:=a) (t:=t)).shift;have hg:=LG hx;have hB:bU (tx a)=false:=bH l9;have hle:j+1≤(tx a).length:=(by rw[nX];omega);have hle2:i+1≤(tx a).length:=(by rw[nX];omega);have hA:=D5 (X:=X) (l:=a) (t:=t);have q:=LH hn hs LD (by rw[x6];omega) (x:=x) (t:=t) (c:=X.length+1);by_cases e:x=t
   ·obtain⟨a',i',e1,e2,e3,e4⟩:=Rb hX (t:=t) hN n (j+1) (by omega) (by omega) a i ha (by omega);refine⟨a',i',?_,e2,e3,by rw[e4,bh hx];simp[e]⟩;rw[decide_eq_true e]at q;generalize SA X a' t=SR at e1⊢;generalize SA X a t=SH at hn hs hA q e1⊢;rw[g412L0e]at e1⊢;simp[hn]at e1;simp (disch:=omega) [-getElem?_pos,-ep,g412B0,hj,hn,hA,hg,hB,hle,q,ah];rw[g412L0e];simp[hn,e1]
   · obtain⟨a',i',e1,e2,e3,e4⟩:=Rb hX (t:=t) hN n (j+1) (by omega) (by omega) (a.set i x) (i+1) (by simpa using ha) (by omega);refine⟨a',i',?_,e2,e3,by rw[e4,bh hx,uX (by omega),A3 (by omega)];simp[e]⟩;rw[decide_eq_false e]at q;have hiN:i<N:=by omega
     have htx:=Q9 (l:=a) (i:=i) (by omega) (s:=x);have hset:=LF (X:=X) (l:=a) (l':=a.set i x) (t:=t);have hn1:=(e8 hX (l:=a.set i x) (t:=t)).norm;generalize SA X a' t=SR at e1⊢;generalize SA X (a.set i x) t=S1 at hset hn1 e1;generalize SA X a t=SH at hn hs hA q hset⊢;generalize tx (a.set i x)=T1 at htx hset;rw[g412L0e]at e1⊢;simp[hn1]at e1 htx;simp (disch:=omega) [-getElem?_pos,-ep,g412B0,hj,hn,hA,hg,hB,hle,hle2,hiN,q,ah,htx,hset];rw[g412L0e];simp[hn1,e1]
theorem c421{SH:Sh}(hn:∀aI ts,a9 aI ts SH=(SH,aI,ts))(hs:∀n,d6 n SH=SH){b c:Nat}{t:List UInt8}{l:List (List UInt8)}(hS:Sm l)(ha:SH[b]?=some (some (tx l)))(hb:SH[c]?=some (some [.pv (.str t)]))(hc:c<SH.length) :
   (aC AP).i 421 [.aP b 1 l.length false,.fn 413 [.aW c 0]] SH []=some ([.pv (vI (jN (bP (fun x=>decide (x=t)) l)))],SH,[]):=by
 have h:=TM hn hs hS ha hb hc _ 0 rfl (by omega);simp at h;rw[aD (af:=rH 1 false) rfl (by simp[rH])];cases hi:bP (fun x=>decide (x=t)) l with
 |none=>rw[hi]at h;simp at h;simp[rH,h,hn,jN]
 |some k=>rw[hi]at h;simp at h;simp[rH,h,hn,jN]
theorem Fg{α:Type}{p:α→Bool}:∀{l:List α},bP p l=none→l.filter (fun x=>!p x)=l
 |[],_=>rfl
 |x::r,h=>by
   simp only[bP]at h;split at h
   ·simp at h
   · rename_i e;cases h':bP p r with
     |none=>simp[e,Fg h']
     |some k=>rw[h']at h;simp at h
theorem Fh{α:Type}{p:α→Bool}:∀{l:List α} {k:Nat},bP p l=some k→k<l.length∧l.filter (fun x=>!p x)=l.take k++(l.drop (k+1)).filter (fun x=>!p x)
 |[],_,h=>by simp[bP]at h
 |x::r,k,h=>by
   simp only[bP]at h;split at h
   ·rename_i e;simp at h;subst h;simp[e]
   · rename_i e;cases h':bP p r with
     |none=>rw[h']at h;simp at h
     |some k'=>
       rw[h']at h;simp at h;subst h;obtain⟨h1,h2⟩:=Fh h';exact⟨by simpa using h1,by simp[e,h2]⟩
theorem LM{a:List (List UInt8)}{i N:Nat}(hN:a.length=N)(h:i≤N):aQ (tx a) i ((List.replicate (N-i) [AV.pv (.str [])]).flatten)=tx (a.take i++List.replicate (N-i) []):=by
 have e:∀k,(List.replicate k [AV.pv (.str [])]).flatten=List.replicate k (AV.pv (.str [])):=by
   intro k;induction k with
   |zero=>rfl
   |succ k ih=>simp only[List.replicate_succ,List.flatten_cons,ih];rfl
 rw[e,aF,List.drop_eq_nil_of_le (by rw[nX];simp;omega)];simp[tx,List.map_take]
theorem c412{X:Sh}(hX:aL X){t:List UInt8}{l:List (List UInt8)}(hS:Sm l):∃a:List (List UInt8),a.length=l.length∧a.take (l.filter fun x=>!decide (x=t)).length=l.filter (fun x=>!decide (x=t)) ∧
   (aC AP).i 412 [.aP X.length 1 l.length false,.fn 413 [.aW (X.length+1) 0]] (SA X l t) []=some ([.aP X.length 1 (l.filter fun x=>!decide (x=t)).length false],SA X a t,[]):=by
 have hS':=hS;unfold Sm at hS';have hn:=(e8 hX (l:=l) (t:=t)).norm;have hs:=(e8 hX (l:=l) (t:=t)).shift;have k:=c421 hn hs (b:=X.length) (c:=X.length+1) hS D5 LD (by rw[x6];omega);have hlen:=x6 (X:=X) (l:=l) (t:=t);cases hi:bP (fun x=>decide (x=t)) l with
 |none=>
   rw[hi]at k;have hf:=Fg hi;refine⟨l,rfl,by rw[hf];simp,?_⟩;rw[hf,aD (af:=g412) rfl (by simp[g412])];generalize SA X l t=SH at hn hs k hlen⊢;simp[jN]at k;have ht:SH.take SH.length=SH:=List.take_length;simp[-getElem?_pos,g412,hn,hs,k,jN,hlen];rw[←hlen,ht];simp[hn]
 |some i0=>
   rw[hi]at k;obtain⟨h0,hf⟩:=Fh hi;obtain⟨a',i',e1,e2,e3,e4⟩:=Rb hX (t:=t) (N:=l.length) (by omega) _ (i0+1) rfl (by omega) l i0 rfl (by omega);rw[←hf]at e4;have hi':(l.filter fun x=>!decide (x=t)).length=i':=by rw[←e4];simp;omega
   refine⟨a'.take i'++List.replicate (l.length-i') [],by simp;omega,?_,?_⟩
   ·rw[hi',←e4,List.take_append_of_le_length (by simp;omega),List.take_take];simp
   · rw[hi',aD (af:=g412) rfl (by simp[g412])];have hn1:=(e8 hX (l:=a') (t:=t)).norm;have hn2:=(e8 hX (l:=a'.take i'++List.replicate (l.length-i') []) (t:=t)).norm;have hB:bU (tx a')=false:=bH l9;have hA:=D5 (X:=X) (l:=a') (t:=t);have htl:(tx a').length=l.length:=by rw[nX,e2]
     have hcl:=LM e2 e3;have hset:=LF (X:=X) (l:=a') (l':=a'.take i'++List.replicate (l.length-i') []) (t:=t);have hl2:=x6 (X:=X) (l:=a'.take i'++List.replicate (l.length-i') []) (t:=t);generalize SA X (a'.take i'++List.replicate (l.length-i') []) t=S2 at hn2 hset hl2⊢;generalize SA X a' t=S1 at hn1 hA hset e1;generalize SA X l t=SH at hn hs k hlen e1⊢;generalize tx (a'.take i'++List.replicate (l.length-i') [])=T2 at hcl hset;have ht:S2.take S2.length=S2:=List.take_length;rw[g412L0e]at e1;simp[hn]at e1;have hi0:¬((i0:Int)=-1):=(by omega);have hle:i'+(l.length-i')≤l.length:=(by omega);rcases Nat.eq_zero_or_pos i' with hz|hz
     ·subst hz;simp at hcl;simp (disch:=omega) [-getElem?_pos,g412,hn,hs,k,jN,hi0,ah,g412L0e,e1,jV,ez,hA,hB,htl,hcl,hset,hlen];rw[←hl2,ht];simp[hn2]
     ·have hz':¬((i':Int)=0):=(by omega);have hz2:¬i'=0:=(by omega);simp[e3]at hcl;simp (disch:=omega) [-getElem?_pos,g412,hn,hs,k,jN,hi0,ah,g412L0e,e1,jV,ez,hz',hz2,e3,hA,hB,htl,hle,hcl,hset,hlen];rw[←hl2,ht];simp[hn2]
def mW(l:List (List UInt8))(t:List UInt8):List (List UInt8):=(l.filter fun x=>!decide (x=t))++[t]
theorem c412e{SH:Sh}(hn:∀aI ts,a9 aI ts SH=(SH,aI,ts))(hs:∀n,d6 n SH=SH){c:Nat} :
   (aC AP).i 412 [.own [] 0,.fn 413 [.aW c 0]] SH [0]=some ([.own [] 0],SH,[0]):=by
 have k:(aC AP).i 421 [.pv (.au []),.fn 413 [.aW c 0]] SH []=some ([.pv (vI (-1))],SH,[]):=by
   rw[aD (af:=rH 1 false) rfl (by simp[rH])];simp[rH,hn,pc,x4]
 rw[aD (af:=g412) rfl (by simp[g412])];have ht:SH.take SH.length=SH:=List.take_length;simp[-getElem?_pos,g412,hn,hs,k,ht]
def BE(X:Sh)(l:List (List UInt8)):AV:=if l=[] then .own [] 0 else .aP X.length 1 l.length false
def yv(X:Sh)(l:List (List UInt8)):Sh:=if l=[] then X else X++[some (tx l)]
def BF(l:List (List UInt8)):aG:=if l=[] then [0] else []
theorem LN{e:List AV}(he:∀v∈e,∃p,v=AV.pv p){i9 i22:Int}{p20:PV}{n21:Int}{V:List (List UInt8)}(hV:V.length<1000000):∀(n j:Nat),V.length-j=n→j≤V.length→∀(X:Sh) (l:List (List UInt8)),aL X→l.length+n<1000000000→∃X',aL X' ∧
   cl AP g404L1 ⟨[(2,.az 2 0),(7,BE X l),(9,.pv (vI i9)),(20,.pv p20),(21,.pv (vI n21)),(22,.pv (vI i22)),(28,.pv (.au (V.map .str))),(29,.pv (vI V.length)),(30,.pv (vI j))],[(2,e)],yv X l,BF l⟩ =
     some (.exit 2,⟨[(2,.az 2 0),(7,BE X' ((V.drop j).foldl mW l)),(9,.pv (vI i9)),(20,.pv p20),(21,.pv (vI n21)),(22,.pv (vI i22)),(28,.pv (.au (V.map .str))),(29,.pv (vI V.length)),(30,.pv (vI V.length)),(31,.pv (.bool false))],[(2,e)],yv X' ((V.drop j).foldl mW l),BF ((V.drop j).foldl mW l)⟩)
 |0,j,hk,hj,X,l,hX,hl=>by
   have:j=V.length:=by omega
   subst this;refine⟨X,hX,?_⟩;rw[List.drop_length];simp only[List.foldl_nil];have hn:=hX.norm;have he':∀aI ts,bj aI ts e=(e,aI,ts):=fun aI ts=>l3 he
   by_cases h0:l=[]
   ·rw[g404L1e];simp[g404B1,BE,yv,BF,h0,hn,he']
   ·have hn1:∀aI ts,a9 aI ts (X++[some (tx l)])=(X++[some (tx l)],aI,ts):=(hX.app (aL.one l9)).norm;rw[g404L1e];simp only[BE,yv,BF,if_neg h0];generalize X++[some (tx l)]=S1 at hn1;simp[g404B1,hn1,he']
 |n+1,j,hk,hj,X,l,hX,hl=>by
   have hj:j<V.length:=(by omega);obtain⟨t,ht⟩:=aV hj;have he':∀aI ts,bj aI ts e=(e,aI,ts):=fun aI ts=>l3 he
   have hn:=hX.norm;have hs:=hX.shift;have huf:(l.filter fun x=>!decide (x=t)).length≤l.length:=List.length_filter_le _ _;have hul:(mW l t).length≤l.length+1:=(by simp[mW,huf]);rw[bh ht,List.foldl_cons];by_cases h0:l=[]
   · subst h0;have hXB:aL (X++[some [.pv (.str t)]]):=hX.app (aL.one (by intro v hv;simp at hv;exact⟨_,hv⟩));have k:=c412e hXB.norm hXB.shift (c:=X.length);obtain⟨X',hX',ih⟩:=LN he (i9:=i9) (i22:=i22) (p20:=p20) (n21:=n21) hV n (j+1) (by omega) (by omega) (X++[some [.pv (.str t)]]) [t] hXB (by simp at hl⊢;omega);refine⟨X',hX',?_⟩;have eu:mW [] t=[t]:=by simp[mW]
     rw[eu]
     have hn2:∀aI ts,a9 aI ts (X++[some [.pv (.str t)],some [.pv (.str t)]])=(X++[some [.pv (.str t)],some [.pv (.str t)]],aI,ts):=by
       have:=(hXB.app (aL.one (cs:=[AV.pv (.str t)]) (by intro v hv;simp at hv;exact⟨_,hv⟩))).norm;simpa using this
     have hn1:=hXB.norm;have hs1:=hXB.shift;generalize (V.drop (j+1)).foldl mW [t]=r at ih⊢;rw[g404L1e]at ih⊢;simp[BE,yv,BF,he',tx,hn2]at ih⊢;simp (disch:=omega) [-getElem?_pos,g404B1,ht,hj,hn,hn1,hs1,he',k,ah];rw[g404L1e];simp[he',hn2,ih]
   · obtain⟨a,a1,a2,k⟩:=c412 hX (t:=t) (l:=l) (by unfold Sm;omega);have hXN:aL (X++[none,some [.pv (.str t)]]):=hX.app (by intro cs hc v hv;simp at hc;subst hc;simp at hv;exact⟨_,hv⟩);obtain⟨X',hX',ih⟩:=LN he (i9:=i9) (i22:=i22) (p20:=p20) (n21:=n21) hV n (j+1) (by omega) (by omega) (X++[none,some [.pv (.str t)]]) (mW l t) hXN (by omega);refine⟨X',hX',?_⟩;have hup:mW l t≠[]:=by simp[mW]
     have hn0:∀aI ts,a9 aI ts (X++[some (tx l)])=(X++[some (tx l)],aI,ts):=(hX.app (aL.one l9)).norm;have hn1:=(e8 hX (l:=l) (t:=t)).norm;have hn2:=(e8 hX (l:=a) (t:=t)).norm;have hs2:=(e8 hX (l:=a) (t:=t)).shift
     have hn3:∀aI ts,a9 aI ts (X++[none,some [.pv (.str t)],some (tx (mW l t))])=(X++[none,some [.pv (.str t)],some (tx (mW l t))],aI,ts):=by
       have:=(hXN.app (aL.one (cs:=tx (mW l t)) l9)).norm;simpa using this
     have hB:bU (tx a)=false:=bH l9;have htl:(tx a).length=l.length:=(by rw[nX,a1]);have hul2:(mW l t).length=(l.filter fun x=>!decide (x=t)).length+1:=by simp[mW]
     have htx:tx (mW l t)=(tx a).take (l.filter fun x=>!decide (x=t)).length++[.pv (.str t)]:=by
       have:(tx a).take (l.filter fun x=>!decide (x=t)).length=tx (l.filter fun x=>!decide (x=t)):=by
         conv=>rhs;rw[←a2]
         simp[tx,List.map_take]
       rw[this];simp[tx,mW]
     have g0:∀u v:Option (List AV),(X++[u,v])[X.length]?=some u:=fun u v=>by simp
     have g1:∀u v:Option (List AV),(X++[u,v])[X.length+1]?=some v:=fun u v=>by simp
     have s0:∀u v w:Option (List AV),(X++[u,v]).set X.length w=X++[w,v]:=fun u v w=>by simp
     have s1:∀u v w:Option (List AV),(X++[u,v]).set (X.length+1) w=X++[u,w]:=fun u v w=>by simp
     unfold SA at k hn1 hn2 hs2;simp only[BE,yv,BF,if_neg h0,if_neg hup]at ih⊢;generalize (V.drop (j+1)).foldl mW (mW l t)=r at ih⊢;rw[hul2]at ih;generalize (l.filter fun x=>!decide (x=t)).length=K at k htx ih huf;have hb1:(K+1)*16≤140737488355328:=by omega
     have hb2:K≤l.length:=huf;generalize tx (mW l t)=TU at htx hn3 ih;generalize tx a=TA at k hn2 hs2 hB htl htx;generalize tx l=TL at k hn0 hn1⊢;generalize (if r=[] then AV.own [] 0 else AV.aP X'.length 1 r.length false)=VR at ih⊢;generalize (if r=[] then X' else X'++[some (tx r)])=SR at ih⊢;generalize (if r=[] then ([0]:aG) else [])=TR at ih⊢;rw[g404L1e]at ih⊢;simp[he',hn3]at ih;simp (disch:=omega) [-getElem?_pos,g404B1,ht,hj,hn0,hn1,hn2,hs2,he',k,ah,hB,htl,hb1,hb2,g0,g1,s0,s1,←htx];rw[g404L1e];simp[he',hn3,ih]
noncomputable def eB:List br→List br
 |[]=>[]
 |x::r=>if x∈r then eB r else x::eB r
inductive Ex.One:Ex→Prop
 |mk {e:Ex}:(e.kind=8→e.kids.length=1)→(∀x∈e.ch,x.One)→e.One
theorem Ex.One.h{e:Ex}(h:e.One):e.kind=8→e.kids.length=1:=by cases h;assumption
theorem Ex.One.c{e:Ex}(h:e.One):∀x∈e.ch,x.One:=by cases h;assumption
def Ex.yx:Ex→List Int→List br
 |_,[]=>[]
 |e,i::r=>ia e i.toNat++match e.ch[i.toNat]? with|some x=>x.yx r|none=>[]
theorem pk{e:Ex}{i:Nat}(h:e.Ok):(ia e i).length≤1000:=by
 unfold ia;split
 ·simp
 · split
   · cases hx:e.aE[i-1]? with
     |none=>simp
     |some a=>exact h.v a (aR hx)
   ·simp
theorem Fi{e:Ex}{k:Int}{r:List Int}{y:Ex}(h:e.at (k::r)=some y):∃(m:Nat) (x:Ex),k=m∧m<e.ch.length∧e.ch[m]?=some x∧x.at r=some y:=by
 simp only[Ex.at]at h;split at h
 ·rename_i h1;obtain⟨m,rfl,hm⟩:=o7 h1.1 h1.2;obtain⟨x,hx⟩:=aV hm;simp[hx]at h;exact⟨m,x,rfl,hm,hx,h⟩
 ·cases h
theorem Fj{y:Ex}:∀{p:List Int} {e:Ex},e.Ok→e.at p=some y→(e.yx p).length≤p.length*1000
 |[],_,_,_=>by simp[Ex.yx]
 |k::r,e,h,ha=>by
   obtain⟨m,x,rfl,hm,hx,hy⟩:=Fi ha;have:=Fj (h.c x (aR hx)) hy;have:=pk h (i:=m);simp only[Ex.yx,Int.toNat_natCast,hx,List.length_append,List.length_cons];omega
noncomputable def IE(e:Ex)(p:List Int):List br:=match e.at p with|some _=>eB (e.yx p)|none=>[]
theorem Pt{p:List Int}(hp:p.length<100000){y:Ex}:∀(n i:Nat),p.length-i=n→i≤p.length→∀(e:Ex) (X:Sh) (l:List br),e.Ok→e.One→aL X→e.at (p.drop i)=some y→l.length≤i*1000→∃(X':Sh) (q:List AV),aL X' ∧
   cl AP g404L0 ⟨[(2,.az 2 0),(7,BE X l),(20,.pv (.au (p.map vI))),(21,.pv (vI p.length)),(22,.pv (vI i))],[(2,e.cl)],yv X l,BF l⟩ =
     some (.exit 0,⟨[(2,.az 2 0),(7,BE X' ((e.yx (p.drop i)).foldl mW l)),(20,.pv (.au (p.map vI))),(21,.pv (vI p.length)),(22,.pv (vI p.length)),(23,.pv (.bool false))],[(2,q)],yv X' ((e.yx (p.drop i)).foldl mW l),BF ((e.yx (p.drop i)).foldl mW l)⟩)
 |0,i,hn,hi,e,X,l,he,h1,hX,ha,hl=>by
   have:i=p.length:=by omega
   subst this;refine⟨X,e.cl,hX,?_⟩;have hnX:=hX.norm;have hn1:∀aI ts,a9 aI ts (X++[some (tx l)])=(X++[some (tx l)],aI,ts):=(hX.app (aL.one l9)).norm;rw[g404L0e];by_cases h0:l=[]
   ·subst h0;simp[g404B0,Ex.yx,BE,yv,BF,hnX]
   ·simp only[List.drop_length,Ex.yx,List.foldl_nil,BE,yv,BF,if_neg h0];generalize X++[some (tx l)]=S1 at *;simp[g404B0,hn1]
 |n+1,i,hn,hi,e,X,l,he,h1,hX,ha,hl=>by
   have hi:i<p.length:=(by omega);obtain⟨k,hk⟩:=aV hi;rw[bh hk]at ha⊢;obtain⟨m,x,rfl,hm,hx,hy⟩:=Fi ha;have hbl:=pk he (i:=m);have hep:∀v∈e.cl,∃p,v=AV.pv p:=by intro v hv;simp at hv;rcases hv with rfl|rfl|rfl|rfl|rfl|rfl|rfl|rfl|rfl|rfl|rfl<;>exact⟨_,rfl⟩
   obtain⟨X1,hX1,e1⟩:=LN hep (i9:=m) (i22:=i) (p20:=.au (p.map vI)) (n21:=p.length) (V:=ia e m) (by omega) _ 0 rfl (by omega) X l hX (by omega)
   have hul:∀(V l:List br),(V.foldl mW l).length≤l.length+V.length:=by
     intro V;induction V with
     |nil=>intro l;simp
     |cons t r ih=>
       intro l;have:=ih (mW l t);have hf:(l.filter fun x=>!decide (x=t)).length≤l.length:=List.length_filter_le _ _;have:(mW l t).length≤l.length+1:=by simp[mW,hf]
       simp only[List.foldl_cons,List.length_cons];omega
   have hl1:=hul (ia e m) l;obtain⟨X',q,hX',ih⟩:=Pt hp n (i+1) (by omega) (by omega) x X1 ((ia e m).foldl mW l) (he.c x (aR hx)) (h1.c x (aR hx)) hX1 hy (by omega);refine⟨X',q,hX',?_⟩;have c:=c414 he;have c2:=c411 hm h1.h he;simp only[Ex.yx,Int.toNat_natCast,hx,List.foldl_append];rw[List.drop_zero]at e1;generalize hL:(x.yx (p.drop (i+1))).foldl mW ((ia e m).foldl mW l)=r at ih⊢;generalize (ia e m).foldl mW l=l1 at e1 ih hl1
   have hnv:∀{X:Sh} {l:List br},aL X→∀aI ts,a9 aI ts (yv X l)=(yv X l,aI,ts):=by
     intro X l hX aI ts;unfold yv;by_cases h0:l=[]
     ·rw[if_pos h0];exact hX.norm aI ts
     ·rw[if_neg h0];exact (hX.app (aL.one l9)).norm aI ts
   have hn1:=hnv hX (l:=l);have hn2:=hnv hX1 (l:=l1)
   have vcase:∀(X:Sh) (l:List br),(BE X l=.own [] 0∧BF l=[0])∨(∃b z k g,BE X l=.aP b z k g∧BF l=[]):=by
     intro X l;unfold BE BF;by_cases h0:l=[]
     ·left;simp[h0]
     ·right;exact⟨X.length,1,l.length,false,by simp[h0],by simp[h0]⟩
   rw[g404L0e]at ih⊢;rw[g404L1e]at e1;generalize e.ch=C at *;generalize ia e m=B at *;simp at c c2
   rcases vcase X l with⟨v1,t1⟩|⟨b1,z1,k1,f1,v1,t1⟩<;>rcases vcase X1 l1 with⟨v2,t2⟩|⟨b2,z2,k2,f2,v2,t2⟩<;>simp only[v1,t1,v2,t2]at e1 ih⊢<;>generalize yv X l=S0 at*<;> generalize yv X1 l1=S1 at*<;> generalize yv X' r=S2 at*<;> generalize BE X' r=V2 at*<;> generalize BF r=T2 at*<;>
     simp[hn1,hn2]at e1 ih⊢ <;>
     simp (disch:=omega) [-getElem?_pos,g404B0,hk,hi,ah,c,c2,hx,hm,hn1,hn2,g404L1e,e1]<;>rw[g404L0e]<;>simp[hn2,ih]
theorem kV(t:br):∀l:List br,eB (l++[t])=(eB l).filter (fun x=>!decide (x=t))++[t]
 |[]=>by simp[eB]
 |x::r=>by
   simp only[List.cons_append,eB,List.mem_append,List.mem_singleton];by_cases e:x∈r
   ·simp[e,kV t r]
   · by_cases e2:x=t
     ·subst e2;simp[e,kV x r]
     ·simp[e,e2,kV t r]
theorem IF(l:List br):l.foldl mW []=eB l:=by
 have:∀k,∀l:List br,l.length=k→l.foldl mW []=eB l:=by
   intro k;induction k with
   |zero=>intro l h;have:=List.length_eq_zero_iff.1 h;subst this;simp[eB]
   |succ k ih=>
     intro l h;have hne:l≠[]:=by intro e;subst e;simp at h
     obtain⟨r,t,rfl⟩:∃r t,l=r++[t]:=⟨l.dropLast,l.getLast hne,(List.dropLast_concat_getLast hne).symm⟩;rw[List.foldl_append,ih r (by simpa using h),kV];rfl
 exact this _ l rfl
theorem LO:∀r:List br,eh (tx r)=some (r.map .str)
 |[]=>rfl
 |t::r=>by
   have ih:=LO r;unfold tx at ih⊢;simp only[List.map_cons,eh,kx,ih]
theorem c404{e:Ex}(he:e.Ok)(h1:e.One){p:List Int}(hp:p.length<100000):(aC AP).p 404 [e.pv,.au (p.map vI)]=some [.au ((IE e p).map .str)]:=by
 have c:=c410 he (p:=p) (by unfold Sm;omega);rw[ae (af:=g404) rfl rfl (by decide)];unfold IE;cases hx:e.at p with
 |none=>
   rw[hx]at c;simp[atR,Vo,bp]at c;simp[g404,c]
 |some y=>
   rw[hx]at c;simp[atR]at c;obtain⟨X',q,hX',h⟩:=Pt hp _ 0 rfl (by omega) e [] [] he h1 (by intro cs h;simp at h) hx (by simp);rw[List.drop_zero,IF]at h;generalize eB (e.yx p)=r at *;have hn:=hX'.norm;have hn1:∀aI ts,a9 aI ts (X'++[some (tx r)])=(X'++[some (tx r)],aI,ts):=(hX'.app (aL.one l9)).norm;have hfr:=LO r;have hlen:=nX (l:=r);rw[g404L0e]at h;by_cases h0:r=[]
   ·subst h0;simp[BE,yv,BF]at h;simp[g404,c,g404L0e,h]
   ·simp[BE,yv,BF,h0]at h;generalize tx r=T at *;simp[g404,c,g404L0e,h,hfr,hlen,dK]
def pH(p:List Int):PV:=.au (p.map vI)
@[simp] theorem VP(p:List Int):pH p=.au (p.map vI):=rfl
theorem Oh:El pH 1 false:=⟨fun x=>by simp,fun x=>by simp⟩
@[simp] theorem Pu{l:List (List Int)}:bf 1 (l.map pH)=true:=Oh.head l
def mX:Nat→List (List (List Int))→List (List Int)
 |_,[]=>[]
 |i,l::r=>l.map (fun p=>(i:Int)::p)++mX (i+1) r
def Ex.hl(e:Ex):List (List Int):=if e.kind=10 then [[]] else mX 0 (e.ch.attach.map fun x=>x.1.hl)
termination_by SizeOf.sizeOf e
decreasing_by exact Ex.kS x.2
theorem Ex.pn(e:Ex):e.hl=if e.kind=10 then [[]] else mX 0 (e.ch.map Ex.hl):=by
 rw[Ex.hl,List.map_attach_eq_pmap,List.pmap_eq_map]
theorem Fk:∀{l:List (List (List Int))} {i:Nat},(mX i l).length=(l.map List.length).sum
 |[],_=>rfl
 |a::r,i=>by simp only[mX,List.length_append,List.length_map,List.map_cons,List.sum_cons,Fk (l:=r)]
theorem Fl:∀{l:List (List (List Int))} {i:Nat} {p:List Int},p∈mX i l→∃(j:Nat) (c:List (List Int)) (q:List Int),l[j]?=some c∧q∈c∧p=((i+j:Nat):Int)::q
 |a::r,i,p,h=>by
   simp only[mX,List.mem_append,List.mem_map]at h;rcases h with⟨q,hq,rfl⟩|h
   ·exact⟨0,a,q,rfl,hq,rfl⟩
   ·obtain⟨j,c,q,h1,h2,h3⟩:=Fl h;exact⟨j+1,c,q,by simpa using h1,h2,by rw[h3];congr 2;omega⟩
theorem qj(e:Ex):e.hl.length≤e.sz:=by
 refine Ex.recC (p:=fun e=>e.hl.length≤e.sz) ?_ e;intro e ih;rw[Ex.pn,Ex.kh];split
 ·simp
 · rw[Fk,List.map_map]
   have:∀l:List Ex,(∀x∈l,x.hl.length≤x.sz)→(l.map (List.length ∘ Ex.hl)).sum≤(l.map Ex.sz).sum:=by
     intro l;induction l with
     |nil=>intro _;simp
     |cons a r ihr=>
       intro h;have h1:=h a (by simp);have h2:=ihr fun x hx=>h x (by simp[hx])
       simp only[List.map_cons,List.sum_cons,Function.comp_apply];omega
   have:=this e.ch ih;omega
theorem x8(e:Ex):∀p∈e.hl,p.length<e.sz∧∃x,e.at p=some x∧x.kind=10:=by
 refine Ex.recC (p:=fun e=>∀p∈e.hl,p.length<e.sz∧∃x,e.at p=some x∧x.kind=10) ?_ e;intro e ih p hp;rw[Ex.pn]at hp;split at hp
 ·rename_i hk;simp at hp;subst hp;exact⟨e.kT,e,rfl,hk⟩
 · obtain⟨j,c,q,h1,h2,rfl⟩:=Fl hp;simp only[List.getElem?_map,Option.map_eq_some_iff]at h1;obtain⟨y,hy,rfl⟩:=h1;obtain⟨a,x,b,hk⟩:=ih y (aR hy) q h2;have hs:=Ex.nZ (aR hy);have hj:=(List.getElem?_eq_some_iff.1 hy).1;refine⟨by simp only[List.length_cons];omega,x,?_,hk⟩;rw[Ex.at,if_pos (by omega)];have e1:((0+j:Nat):Int).toNat=j:=by omega
   rw[e1,hy];exact b
theorem Pv{ch:List Ex}{I:Nat}{hls:List (List Int)}(hL:hls.length≤1000000000)(hp:∀p∈hls,p.length≤1000000000):∀(n k:Nat),hls.length-k=n→k≤hls.length→∀acc:List (List Int),acc.length+n≤2000000000 →
   cl AP g543L1 ⟨[(3,.own (acc.map pH) 0),(4,.pv (vI I)),(14,.pv (.au (ch.map Ex.pv))),(15,.pv (vI ch.length)),(16,.pv (vI I)),(22,.pv (.au (hls.map pH))),(23,.pv (vI hls.length)),(24,.pv (vI k))],[],[],[acc.length]⟩ =
     some (.exit 2,⟨[(3,.own ((acc++(hls.drop k).map fun p=>(I:Int)::p).map pH) 0),(4,.pv (vI I)),(14,.pv (.au (ch.map Ex.pv))),(15,.pv (vI ch.length)),(16,.pv (vI I)),(22,.pv (.au (hls.map pH))),(23,.pv (vI hls.length)),(24,.pv (vI hls.length)),(25,.pv (.bool false))],[],[],[(acc++(hls.drop k).map fun p=>(I:Int)::p).length]⟩)
 |0,k,hn,hk,acc,ha=>by
   have:k=hls.length:=by omega
   subst this;rw[List.drop_length,List.map_nil,List.append_nil,g543L1e];simp[g543B1]
 |n+1,k,hn,hk,acc,ha=>by
   have hk:k<hls.length:=(by omega);obtain⟨p,hx⟩:=aV hk;have hpl:=hp p (aR hx);have ih:=Pv (ch:=ch) (I:=I) hL hp n (k+1) (by omega) (by omega) (acc++[(I:Int)::p]) (by simp;omega);have hb1:(1+p.length)*8≤140737488355328:=(by omega);have hb2:(acc.length+1)*24≤140737488355328:=(by omega);have hh:=nV.head p;rw[bh hx,List.map_cons];rw[g543L1e]at ih⊢;simp at ih hh;by_cases hz:p=[]
   ·subst hz;simp at ih;simp (disch:=omega) [-getElem?_pos,g543B1,hx,hk,hb1,hb2,ah];rw[g543L1e];simp[ih]
   ·simp (disch:=omega) [-getElem?_pos,g543B1,hx,hk,hb1,hb2,hh,hz,ah];rw[g543L1e];simp[ih]
theorem TV{ch:List Ex}{e:Ex}(hch:ch=e.ch)(hN:ch.length≤1000000)(hB:∀x∈ch,x.hl.length≤1000000000∧∀p∈x.hl,p.length≤1000000000)(ih:∀x∈ch,(aC AP).p 543 [x.pv]=some [.au (x.hl.map pH)]) :
   ∀(n i:Nat),ch.length-i=n→i≤ch.length→∀acc:List (List Int),acc.length+(mX i ((ch.drop i).map Ex.hl)).length≤1000000000 →
   cl AP g543L0 ⟨[(3,.own (acc.map pH) 0),(14,.pv (.au (ch.map Ex.pv))),(15,.pv (vI ch.length)),(16,.pv (vI i))],[],[],[acc.length]⟩ =
     some (.exit 0,⟨[(3,.own ((acc++mX i ((ch.drop i).map Ex.hl)).map pH) 0),(14,.pv (.au (ch.map Ex.pv))),(15,.pv (vI ch.length)),(16,.pv (vI ch.length)),(17,.pv (.bool false))],[],[],[(acc++mX i ((ch.drop i).map Ex.hl)).length]⟩)
 |0,i,hn,hi,acc,ha=>by
   have:i=ch.length:=by omega
   subst this;rw[List.drop_length];simp only[List.map_nil,mX,List.append_nil];rw[g543L0e];simp[g543B0]
 |n+1,i,hn,hi,acc,ha=>by
   have hi:i<ch.length:=(by omega);obtain⟨x,hx⟩:=aV hi;have k:=ih x (aR hx);obtain⟨hb1,hb2⟩:=hB x (aR hx);rw[bh hx,List.map_cons]at ha⊢;simp only[mX,List.length_append,List.length_map]at ha⊢;have e1:=Pv (ch:=ch) (I:=i) hb1 hb2 _ 0 rfl (by omega) acc (by omega);rw[List.drop_zero]at e1;have e2:=TV hch hN hB ih n (i+1) (by omega) (by omega) (acc++x.hl.map fun p=>(i:Int)::p) (by simp only[List.length_append,List.length_map];omega);generalize mX (i+1) ((ch.drop (i+1)).map Ex.hl)=R at *;generalize hH:x.hl=H at *;rw[g543L1e]at e1;rw[g543L0e]at e2⊢;simp at k e1 e2;simp (disch:=omega) [-getElem?_pos,g543B0,hx,hi,k,ah,g543L1e,e1];rw[g543L0e];simp[e2]
theorem bounds{e:Ex}(hs:e.sz≤100000000):∀x∈e.ch,x.hl.length≤1000000000∧∀p∈x.hl,p.length≤1000000000:=by
 intro x hx;have h1:=Ex.nZ hx;have h2:=qj x;refine⟨by omega,fun p hp=>?_⟩;have:=(x8 x p hp).1;omega
theorem c543(e:Ex):e.Ok→e.sz≤100000000→(aC AP).p 543 [e.pv]=some [.au (e.hl.map pH)]:=by
 refine Ex.recC (p:=fun e=>e.Ok→e.sz≤100000000→(aC AP).p 543 [e.pv]=some [.au (e.hl.map pH)]) ?_ e;intro e ih ho hs;have k:=c414 ho;have hl:=qj e;have hb:=bounds hs;have hN:e.ch.length≤1000000:=by rw[Ex.et];have:=ho.k;have:=ho.a;omega
 rw[ae (af:=g543) rfl rfl (by decide)];rw[Ex.pn]at hl⊢;by_cases hk:e.kind=10
 ·simp[g543,hk]
 ·rw[if_neg hk]at hl⊢;have e1:=TV (e:=e) rfl hN hb (fun x hx=>ih x hx (ho.c x hx) (by have:=Ex.nZ hx;omega)) _ 0 rfl (by omega) [] (by simp only[List.drop_zero,List.length_nil];omega);rw[List.drop_zero,List.nil_append]at e1;generalize mX 0 (e.ch.map Ex.hl)=H at *;rw[g543L0e]at e1;simp at k e1;simp[g543,hk,k,g543L0e,e1]
theorem Pw{ch:List Ex}{I:Nat}{hls:List (List Int)}(hL:hls.length≤1000000000)(hp:∀p∈hls,p.length≤1000000000):∀(n k:Nat),hls.length-k=n→k≤hls.length→∀acc:List (List Int),acc.length+n≤2000000000 →
   cl AP g539L1 ⟨[(3,.own (acc.map pH) 0),(4,.pv (.au (ch.map Ex.pv))),(5,.pv (vI I)),(6,.pv (.au (hls.map pH))),(7,.pv (vI k))],[],[],[acc.length]⟩ =
     some (.exit 2,⟨[(3,.own ((acc++(hls.drop k).map fun p=>(I:Int)::p).map pH) 0),(4,.pv (.au (ch.map Ex.pv))),(5,.pv (vI I)),(6,.pv (.au (hls.map pH))),(7,.pv (vI hls.length)),(28,.pv (.bool false))],[],[],[(acc++(hls.drop k).map fun p=>(I:Int)::p).length]⟩)
 |0,k,hn,hk,acc,ha=>by
   have:k=hls.length:=by omega
   subst this;rw[List.drop_length,List.map_nil,List.append_nil,g539L1e];simp[g539B1]
 |n+1,k,hn,hk,acc,ha=>by
   have hk:k<hls.length:=(by omega);obtain⟨p,hx⟩:=aV hk;have hpl:=hp p (aR hx);have ih:=Pw (ch:=ch) (I:=I) hL hp n (k+1) (by omega) (by omega) (acc++[(I:Int)::p]) (by simp;omega);have hb1:(1+p.length)*8≤140737488355328:=(by omega);have hb2:(acc.length+1)*24≤140737488355328:=(by omega);have hh:=nV.head p;rw[bh hx,List.map_cons];rw[g539L1e]at ih⊢;simp at ih hh;by_cases hz:p=[]
   ·subst hz;simp at ih;simp (disch:=omega) [-getElem?_pos,g539B1,hx,hk,hb1,hb2,ah];rw[g539L1e];simp[ih]
   ·simp (disch:=omega) [-getElem?_pos,g539B1,hx,hk,hb1,hb2,hh,hz,ah];rw[g539L1e];simp[ih]
theorem TW{ch:List Ex}(hN:ch.length≤1000000)(hB:∀x∈ch,x.hl.length≤1000000000∧∀p∈x.hl,p.length≤1000000000)(ih:∀x∈ch,(aC AP).p 539 [x.pv]=some [.au (x.hl.map pH)]) :
   ∀(n i:Nat),ch.length-i=n→i≤ch.length→∀acc:List (List Int),acc.length+(mX i ((ch.drop i).map Ex.hl)).length≤1000000000 →
   cl AP g539L0 ⟨[(3,.own (acc.map pH) 0),(4,.pv (.au (ch.map Ex.pv))),(5,.pv (vI i))],[],[],[acc.length]⟩ =
     some (.exit 0,⟨[(3,.own ((acc++mX i ((ch.drop i).map Ex.hl)).map pH) 0),(4,.pv (.au (ch.map Ex.pv))),(5,.pv (vI ch.length)),(17,.pv (.bool false))],[],[],[(acc++mX i ((ch.drop i).map Ex.hl)).length]⟩)
 |0,i,hn,hi,acc,ha=>by
   have:i=ch.length:=by omega
   subst this;rw[List.drop_length];simp only[List.map_nil,mX,List.append_nil];rw[g539L0e];simp[g539B0]
 |n+1,i,hn,hi,acc,ha=>by
   have hi:i<ch.length:=(by omega);obtain⟨x,hx⟩:=aV hi;have k:=ih x (aR hx);obtain⟨hb1,hb2⟩:=hB x (aR hx);rw[bh hx,List.map_cons]at ha⊢;simp only[mX,List.length_append,List.length_map]at ha⊢;have e1:=Pw (ch:=ch) (I:=i) hb1 hb2 _ 0 rfl (by omega) acc (by omega);rw[List.drop_zero]at e1;have e2:=TW hN hB ih n (i+1) (by omega) (by omega) (acc++x.hl.map fun p=>(i:Int)::p) (by simp only[List.length_append,List.length_map];omega);generalize mX (i+1) ((ch.drop (i+1)).map Ex.hl)=R at *;generalize hH:x.hl=H at *;rw[g539L1e]at e1;rw[g539L0e]at e2⊢;simp at k e1 e2;simp (disch:=omega) [-getElem?_pos,g539B0,hx,hi,k,ah,g539L1e,e1];rw[g539L0e];simp[e2]
theorem c539(e:Ex):e.Ok→e.sz≤100000000→(aC AP).p 539 [e.pv]=some [.au (e.hl.map pH)]:=by
 refine Ex.recC (p:=fun e=>e.Ok→e.sz≤100000000→(aC AP).p 539 [e.pv]=some [.au (e.hl.map pH)]) ?_ e;intro e ih ho hs;have k:=c145 ho;have hl:=qj e;have hb:=bounds hs;have hN:e.ch.length≤1000000:=by rw[Ex.et];have:=ho.k;have:=ho.a;omega
 rw[ae (af:=g539) rfl rfl (by decide)];rw[Ex.pn]at hl⊢;by_cases hk:e.kind=10
 ·simp[g539,hk]
 ·rw[if_neg hk]at hl⊢;have e1:=TW hN hb (fun x hx=>ih x hx (ho.c x hx) (by have:=Ex.nZ hx;omega)) _ 0 rfl (by omega) [] (by simp only[List.drop_zero,List.length_nil];omega);rw[List.drop_zero,List.nil_append]at e1;generalize mX 0 (e.ch.map Ex.hl)=H at *;rw[g539L0e]at e1;simp at k e1;simp[g539,hk,k,g539L0e,e1]
abbrev n_:List (List UInt8):=varNames
inductive eL (ds:List Dt):Nat→Ex→Prop
 |var {n:Nat} {s:List UInt8}:s∈n_→eL ds n ⟨1,0,s,0,[],[],bp⟩
 |int {n:Nat} {m:Int}:0≤m→m<4→eL ds n ⟨3,0,[],m,[],[],bp⟩
 |dk {n:Nat} {d:Dt} {c:df}:d∈ds→c∈d.cons→eL ds n ⟨2,0,c.name,0,[],[],bp⟩
 |gone {n:Nat}:eL ds n ⟨2,0,[71,111,110,101],0,[],[],bp⟩
 |hole {n:Nat}:eL ds n ⟨10,0,[],0,[],[],bp⟩
 |lam {n:Nat} {s:List UInt8} {a:Ex}:s∈n_→eL ds n a→eL ds (n+1) ⟨4,0,s,0,[a],[],bp⟩
 |app {n:Nat} {a b:Ex}:eL ds n a→eL ds n b→eL ds (n+1) ⟨5,0,[],0,[a,b],[],bp⟩
 |qi {n:Nat} {k:Int} {s:List UInt8} {a b:Ex}:k=6∨k=7→s∈n_→eL ds n a→eL ds n b→eL ds (n+1) ⟨k,0,s,0,[a,b],[],bp⟩
 |ID {n:Nat} {a:Ex} {t:Ty}:eL ds n a→gE (·∈ds) [] 2 t→eL ds (n+1) ⟨9,0,[],0,[a],[],t⟩
 |held {n:Nat} {a:Ex}:eL ds n a→eL ds (n+1) ⟨11,0,[],0,[a],[],bp⟩
 |up {n:Nat} {a:Ex}:eL ds n a→eL ds (n+1) a
 |lx {n:Nat} {d:Dt} {a:Ex} {as:List Ar}:d∈ds→eL ds n a→as.length=d.cons.length→(∀x∈as,eL ds n x.body)→(∀x∈as,x.pos=0∧∀v∈x.vars,v∈n_) →
     (∀(i:Nat) (c:df) (x:Ar),d.cons[i]?=some c→as[i]?=some x→x.dk=c.name∧x.vars.length=c.fields.length)→eL ds (n+1) ⟨8,0,[],0,[a],as,bp⟩
def D8(d:Dt):Prop:=d.params.length≤8∧0<d.cons.length∧d.cons.length≤8∧∀c∈d.cons,c.fields.length≤8
theorem x9:∀d∈bw,D8 d:=by
 intro d hd;simp[bw]at hd;rcases hd with rfl|rfl|rfl|rfl|rfl|rfl|rfl<;>simp[D8]
structure Ws(e:Ex)(C:List AV):Prop where
 len:C.length=11
 leaf:C.all aT=true
 dv:∀sh,b_ sh C=some e.cells
 flat:bD.d5 C=true
 ib:fp C=true
def gq(f:Bool)(l:List PV):AV:=if f then .dB l else .pv (.au l)
def dW(fk fa fg:Bool)(e:Ex):List AV:=[.pv (vI e.kind),.pv (vI e.pos),.pv (.str e.name),.pv (vI e.num),gq fk (e.kids.map Ex.pv),gq fa (e.aE.map Ar.pv),.pv (vI e.ty.kind),.pv (.str e.ty.name),.pv (vI e.ty.id),.pv (vI e.ty.home),gq fg (e.ty.args.map Ty.pv)]
theorem dR(fk fa fg:Bool)(e:Ex):Ws e (dW fk fa fg e):=by
 refine⟨rfl,?_,?_,?_,?_⟩
 ·cases fk<;>cases fa<;>cases fg<;>rfl
 ·intro sh;rw[Ex.bm];cases fk<;>cases fa<;>cases fg<;>simp[dW,gq]
 ·cases fk<;>cases fa<;>cases fg<;>simp[dW,gq]
 ·cases fk<;>cases fa<;>cases fg<;>simp[dW,gq]
theorem gG{a b:List UInt8}(h:a.length+b.length≤9223372036854775807):bA (.bin .add) [.pv (.str a),.pv (.str b)]=some (.pv (.str (a++b))):=by rw[d0,if_pos h]
structure gm(AQ:Nat→Option aA):Prop where
 uf:AQ 248=some g248
 Rc:AQ 252=some g252
 VQ:AQ 255=some g255
 VS:AQ 257=some g257
 VT:AQ 258=some g258
 VU:AQ 259=some g259
 VV:AQ 260=some g260
 VW:AQ 264=some g264
 VX:AQ 265=some g265
 VY:AQ 269=some g269
def kj(b:Bool)(s:br):br:=if b then 40::(s++[41]) else s
theorem mf{b:Bool}{s:br}:(kj b s).length≤s.length+2:=by cases b<;>simp[kj]
theorem skolem{α β:Type}[Inhabited β]{l:List α}{P:α→β→Prop}(h:∀x∈l,∃y,P x y):∃f:α→β,∀x∈l,P x (f x):=by
 classical
 refine⟨fun x=>if hx:x∈l then Classical.choose (h x hx) else default,fun x hx=>?_⟩;simp only[hx,dif_pos];exact Classical.choose_spec (h x hx)
section
variable {AQ:Nat→Option aA}
theorem c258(hQ:gm AQ){s:br}{b:Bool}(h:s.length≤1000000000000000000):(aC AQ).p 258 [.str s,.bool b]=some [.str (kj b s)]:=by
 rw[ae (af:=g258) hQ.VT rfl (by decide)];cases b<;>simp (disch:=first|omega|(simp only[List.length_append,List.length_cons,List.length_nil];omega)) [-d0,gG,g258,kj]
def Ty.ly(t:Ty):Bool:=decide (t.kind=4) && (decide (t.name=[45,62]) && decide (t.args.length=2))
theorem c264(hQ:gm AQ){t:Ty}:(aC AQ).p 264 [t.pv]=some [.bool t.ly]:=by
 rw[ae (af:=g264) hQ.VW rfl (by decide)];by_cases h1:t.kind=4
 · by_cases h2:t.name=[45,62]
   ·have e:decide ((t.args.length:Int)=2)=decide (t.args.length=2):=(by simp;omega);simp[g264,Ty.ly,h1,h2,e];omega
   ·simp[g264,Ty.ly,h1,h2]
 ·simp[g264,Ty.ly,h1]
theorem c265(hQ:gm AQ){t:Ty}{s:br}(h:(aC AQ).p 252 [t.pv]=some [.str s])(hs:s.length≤1000000000000000000) :
   (aC AQ).p 265 [t.pv]=some [.str (kj (decide (t.kind=4) && decide (t.args≠[])) s)]:=by
 have k:∀b,(aC AQ).p 258 [.str s,.bool b]=some [.str (kj b s)]:=fun b=>c258 hQ (b:=b) hs;rw[ae (af:=g265) hQ.VX rfl (by decide)];have kt:=k true
 have kf:=k false;clear k;simp[kj]at kt kf;by_cases h1:t.kind=4
 · by_cases h2:t.args=[]
   ·simp[h1,h2]at h;simp[g265,h,h1,h2,kf,kj]
   ·have h3:0<t.args.length:=List.length_pos_iff.2 h2;simp[h1]at h;simp[g265,h,h1,h2,h3,kt,kj]
 ·simp at h;simp[g265,h,h1,kf,kj]
theorem TY(hQ:gm AQ){args:List Ty}{f:Ty→br}{M:Nat}(hA:args.length≤10000)(hM:M≤10000000000)(hf:∀x∈args,(aC AQ).p 265 [x.pv]=some [.str (f x)]∧(f x).length≤M) :
   ∀(n i:Nat),args.length-i=n→i≤args.length→∀acc:br,acc.length≤100+i*(M+1) →
   cl AQ g252L0 ⟨[(3,.pv (.str acc)),(52,.pv (.au (args.map Ty.pv))),(53,.pv (vI args.length)),(54,.pv (vI i))],[],[],[]⟩ =
     some (.exit 1,⟨[(3,.pv (.str (acc++(args.drop i).flatMap fun x=>32::f x))),(52,.pv (.au (args.map Ty.pv))),(53,.pv (vI args.length)),(54,.pv (vI args.length)),(55,.pv (.bool false))],[],[],[]⟩)
 |0,i,hn,hi,acc,ha=>by
   have:i=args.length:=by omega
   subst this;rw[g252L0e];simp[g252B0]
 |n+1,i,hn,hi,acc,ha=>by
   have hi:i<args.length:=(by omega);obtain⟨x,hx⟩:=aV hi;obtain⟨c,hl⟩:=hf x (aR hx);have hmul:(i+1)*(M+1)=i*(M+1)+(M+1):=Nat.add_mul _ _ _ |>.trans (by omega);have hi10:i*(M+1)≤10000*(M+1):=Nat.mul_le_mul_right _ (by omega);have ih:=TY hQ hA hM hf n (i+1) (by omega) (by omega) (acc++32::f x) (by simp;omega);rw[g252L0e]at ih⊢;rw[bh hx];simp at c ih;simp (disch:=first|omega|(simp only[List.length_append,List.length_cons,List.length_nil];omega)) [-d0,gG,-getElem?_pos,g252B0,hi,hx,c,ah];rw[g252L0e];simp[ih]
end
theorem LP{l:List Ty}{g:Ty→br}(h:∀x∈l,(g x).length≤105*x.nodes.length):(l.flatMap g).length≤105*(l.flatMap Ty.nodes).length:=by
 induction l with
 |nil=>simp
 |cons a r ih=>
   have h1:=h a (by simp);have h2:=ih fun x hx=>h x (by simp[hx])
   simp only[List.flatMap_cons,List.length_append];omega
theorem Ty.v7(t:Ty):1≤t.nodes.length:=by rw[Ty.aM];simp
theorem v9{t x:Ty}(h:x∈t.args):x.nodes.length<t.nodes.length:=by
 have:=kU (f:=fun x:Ty=>x.nodes.length) h;rw[t.aM];simp only[List.length_cons,List.length_flatMap];omega
theorem D9{t:Ty}:t.args.length<t.nodes.length:=by
 have:∀l:List Ty,l.length≤(l.flatMap Ty.nodes).length:=by
   intro l;induction l with
   |nil=>simp
   |cons a r ih=>
     have:=a.v7;simp only[List.flatMap_cons,List.length_append,List.length_cons];omega
 have:=this t.args;rw[t.aM];simp only[List.length_cons];omega
end Go.Ab.Lw
namespace Go.Ab.Lw
open Ev
def m6:List AV:=[.pv (vI 0),.pv (vI 0),.pv (.str []),.pv (vI 0),.own [] 0,.own [] 1,.pv (vI 0),.pv (.str []),.pv (vI 0),.pv (vI 0),.own [] 2]
def rZ(d:Dt):List AV:=[.pv (vI d.pos),.pv (.str d.name),.pv (.au (d.params.map .str)),.pv (.au (d.cons.map df.pv))]
def Oi(a:Ex)(as:List Ar):List AV:=[.pv (vI 8),.pv (vI 0),.pv (.str []),.pv (vI 0),.own [a.pv] 3,.own (as.map Ar.pv) 4,.pv (vI 0),.pv (.str []),.pv (vI 0),.pv (vI 0),.own [] 5]
def TZ(c:df)(vs:List br):List AV:=[.pv (vI 0),.pv (.str c.name),.own (vs.map .str) 6,.pv (vI 0),.pv (vI 0),.pv (.str []),.pv (vI 0),.own [] 7,.own [] 8,.pv (vI 0),.pv (.str []),.pv (vI 0),.pv (vI 0),.own [] 9]
def D'(ds:List Dt)(dep:Nat)(d:Dt)(as:List Ar):Prop:=
 (∀x∈as,eL ds dep x.body)∧(∀x∈as,x.pos=0∧∀v∈x.vars,v∈n_)∧(∀(i:Nat) (c:df) (x:Ar),d.cons[i]?=some c→as[i]?=some x→x.dk=c.name∧x.vars.length=c.fields.length)
def Ex.gH(e:Ex):Bool:=decide (e.kind=1) || (decide (e.kind=2) || (decide (e.kind=3) || (decide (e.kind=10) || (decide (e.kind=9) || decide (e.kind=11)))))
section
variable {AQ:Nat→Option aA}
theorem c255(hQ:gm AQ){n:Int}(h0:0≤n)(h4:n<4):(aC AQ).p 255 [vI n]=some [.str (Lib.decDigits n.toNat)]:=by
 rw[EK hQ.VQ rfl];have h1:-9223372036854775808≤n:=by omega
 have h2:n≤9223372036854775807:=by omega
 have h3:¬n<0:=by omega
 simp[rX,Lib.itoa,h1,h2,h3]
theorem c259(hQ:gm AQ){e:Ex}:(aC AQ).p 259 [e.pv]=some [.bool e.gH]:=by
 rw[ae (af:=g259) hQ.VU rfl (by decide)];by_cases h1:e.kind=1
 ·simp[g259,Ex.gH,h1]
 · by_cases h2:e.kind=2
   ·simp[g259,Ex.gH,h2]
   · by_cases h3:e.kind=3
     ·simp[g259,Ex.gH,h3]
     · by_cases h4:e.kind=10
       ·simp[g259,Ex.gH,h4]
       · by_cases h5:e.kind=9
         ·simp[g259,Ex.gH,h5]
         · by_cases h6:e.kind=11
           ·simp[g259,Ex.gH,h6]
           ·simp[g259,Ex.gH,h1,h2,h3,h4,h5,h6]
theorem c257(hQ:gm AQ){e:Ex}{i:Nat}{x:Ex}(hx:e.kids[i]?=some x){s:br}(h:(aC AQ).p 248 [x.pv]=some [.str s]) :
   (aC AQ).i 257 [.pv (vI i),.aW 0 0] [some e.cl] []=some ([.pv (.str s)],[some e.cl],[]):=by
 have hi:=(List.getElem?_eq_some_iff.1 hx).1;rw[aD (af:=g257) hQ.VS (by simp[g257])];simp at h;simp[-getElem?_pos,g257,hx,h,hi]
theorem c269(hQ:gm AQ){xs:List br}{sep:br}(h1:xs.length≤1000000000)(h2:(Lib.join xs sep).length≤140737488355328):(aC AQ).p 269 [.au (xs.map .str),.str sep]=some [.str (Lib.join xs sep)]:=by
 rw[EK hQ.VY rfl];simp only[xS,DZ];rw[if_pos ⟨h1,h2⟩]
def jv(f:Ar→br)(a:Ar):br:=Lib.join (a.dk::a.vars) [32]++[46,32]++f a
def om(T:List br):List AV:=T.map fun s=>.pv (.str s)
theorem Fm{T:List br}:(om T).length=T.length:=by simp[om]
theorem Oj{T:List br}{i:Nat}{s:br}(hi:i<T.length):aQ (om T) i [.pv (.str s)]=om (T.set i s):=by
 unfold om;rw[List.map_set,List.set_eq_take_append_cons_drop,if_pos (by simpa using hi)];simp[aQ]
theorem Ol{T:List br}:((eh (om T)).bind (dK 1 false T.length)).map PV.au=some (.au (T.map .str)):=by
 have:eh (om T)=some (T.map .str):=by
   induction T with
   |nil=>rfl
   |cons x r ih=>simp only[om,List.map_cons,eh,kx]at ih⊢;rw[ih]
 rw[this];simp[dK]
theorem ug{T:List br}:∀v∈om T,∃p,v=AV.pv p:=by
 intro v hv;simp only[om,List.mem_map]at hv;obtain⟨s,_,rfl⟩:=hv;exact⟨_,rfl⟩
theorem T3(hQ:gm AQ){aE:List Ar}{f:Ar→br}{M:Nat}(hA:aE.length≤10)(hM:M≤1000000000000000)(hf:∀x∈aE,(aC AQ).p 248 [x.body.pv]=some [.str (f x)]∧(f x).length≤M∧x.vars.length≤10∧(Lib.join (x.dk::x.vars) [32]).length≤10000) :
   ∀(n i:Nat),aE.length-i=n→i≤aE.length→∀T:List br,T.length=aE.length →
   cl AQ g260L0 ⟨[(3,.aP 0 1 aE.length false),(9,.pv (.au (aE.map Ar.pv))),(10,.pv (vI aE.length)),(11,.pv (vI i))],[],[some (om T)],[]⟩ =
     some (.exit 0,⟨[(3,.aP 0 1 aE.length false),(9,.pv (.au (aE.map Ar.pv))),(10,.pv (vI aE.length)),(11,.pv (vI aE.length)),(12,.pv (.bool false))],[],[some (om (T.take i++(aE.drop i).map (jv f)))],[]⟩)
 |0,i,hn,hi,T,hT=>by
   have:i=aE.length:=by omega
   subst this;rw[List.take_of_length_le (by omega),List.drop_length];have hq:∀aI ts,a9 aI ts [some (om T)]=([some (om T)],aI,ts):=(aL.one ug).norm;simp only[List.map_nil,List.append_nil];generalize om T=X at *;rw[g260L0e];simp[g260B0,hq]
 |n+1,i,hn,hi,T,hT=>by
   have hi:i<aE.length:=(by omega);obtain⟨x,hx⟩:=aV hi;obtain⟨cb,lb,lv,lj⟩:=hf x (aR hx);have cj:=c269 hQ (xs:=x.dk::x.vars) (sep:=[32]) (by simp;omega) (by omega);have ih:=T3 hQ hA hM hf n (i+1) (by omega) (by omega) (T.set i (jv f x)) (by simpa using hT)
   have e1:(T.set i (jv f x)).take (i+1)++(aE.drop (i+1)).map (jv f)=T.take i++(aE.drop i).map (jv f):=by
     rw[List.set_eq_take_append_cons_drop,if_pos (by omega),bh hx,List.take_append,List.take_of_length_le (by simp;omega)];have:i+1-(T.take i).length=1:=by simp;omega
     rw[this];simp
   rw[e1]at ih;have hset:=Oj (T:=T) (i:=i) (s:=jv f x) (by omega);have hq:∀aI ts,a9 aI ts [some (om T)]=([some (om T)],aI,ts):=(aL.one ug).norm;have hq1:∀aI ts,a9 aI ts [some (om (T.set i (jv f x)))]=([some (om (T.set i (jv f x)))],aI,ts):=(aL.one ug).norm;have hB:bU (om T)=false:=bH ug;have hlen:(om T).length=aE.length:=by rw[Fm,hT]
   have hb:(x.vars.length+1)*16≤140737488355328:=(by omega);have hb2:(1+x.vars.length)*16≤140737488355328:=(by omega);clear e1;generalize om (T.set i (jv f x))=X1 at *;generalize om T=X at *;generalize om (T.take i++(aE.drop i).map (jv f))=X2 at *;unfold jv at hset;generalize Lib.join (x.dk::x.vars) [32]=J at *;rw[g260L0e]at ih⊢;simp at cb ih cj;simp at hset;have hle:i+1≤aE.length:=(by omega);have hqL:∀aI ts,bj aI ts X1=(X1,aI,ts):=fun aI ts=>by have:=hq1 aI ts;simp[a9]at this;exact Prod.ext this.1 (Prod.ext this.2.1 this.2.2)
   try simp only[hqL]at ih
   by_cases hv:x.vars=[]
   ·simp[hv]at cj;simp (disch:=first|omega|(simp only[List.length_append,List.length_cons,List.length_nil];omega)) [-d0,gG,-getElem?_pos,g260B0,hq,hi,hx,cb,cj,hv,hB,hlen,hle,hset,ah];rw[g260L0e];simp[hqL,ih]
   ·simp (disch:=first|omega|(simp only[List.length_append,List.length_cons,List.length_nil];omega)) [-d0,gG,-getElem?_pos,g260B0,hq,hi,hx,cb,cj,hv,hb,hb2,hB,hlen,hle,hset,ah];rw[g260L0e];simp[hqL,ih]
theorem c260(hQ:gm AQ){aE:List Ar}{f:Ar→br}{M:Nat}(hA:aE.length≤10)(hM:M≤1000000000000000)(hf:∀x∈aE,(aC AQ).p 248 [x.body.pv]=some [.str (f x)]∧(f x).length≤M∧x.vars.length≤10∧(Lib.join (x.dk::x.vars) [32]).length≤10000)
   (hj:(Lib.join (aE.map (jv f)) [32,124,32]).length≤140737488355328):(aC AQ).p 260 [.au (aE.map Ar.pv)]=some [.str (Lib.join (aE.map (jv f)) [32,124,32])]:=by
 have h:=T3 hQ hA hM hf _ 0 rfl (by omega) (List.replicate aE.length []) (by simp);have c:=c269 hQ (xs:=aE.map (jv f)) (sep:=[32,124,32]) (by simp;omega) hj;have hfr:=Ol (T:=aE.map (jv f));have hlen:=Fm (T:=aE.map (jv f))
 have hrep:(List.replicate aE.length [AV.pv (PV.str [])]).flatten=om (List.replicate aE.length []):=by
   simp[om]
 have hb:(aE.length:Int)*16≤140737488355328:=by omega
 have h9:(aE.length:Int)≤9223372036854775807:=by omega
 rw[List.drop_zero,List.take_zero,List.nil_append]at h;rw[List.length_map]at hfr hlen;have hq:∀aI ts,a9 aI ts [some (om (List.replicate aE.length []))]=([some (om (List.replicate aE.length []))],aI,ts):=(aL.one ug).norm;generalize Lib.join (aE.map (jv f)) [32,124,32]=J at *;generalize aE.map (jv f)=Y at *;generalize om Y=Z at *;generalize om (List.replicate aE.length [])=X at *;rw[ae (af:=g260) hQ.VV rfl (by decide)];rw[g260L0e]at h;simp[hq]at h;simp at hfr c hrep;simp[-getElem?_pos,g260,hb,h9,hrep,g260L0e,hq,h,hlen,hfr,c]
end
end Go.Ab.Lw
namespace Go.Ab.Lw
open Ev
theorem join_le{l:List br}{sep:br}{M:Nat}(h:∀x∈l,x.length≤M):(Lib.join l sep).length≤l.length*(M+sep.length):=by
 cases l with
 |nil=>simp[Lib.join_nil]
 |cons x r=>
   rw[Lib.join_cons];have h1:=h x (by simp)
   have:∀r:List br,(∀y∈r,y.length≤M)→(Lib.joinTail sep r).length≤r.length*(M+sep.length):=by
     intro r;induction r with
     |nil=>intro _;simp[Lib.joinTail]
     |cons y r ih=>
       intro hl;have a1:=ih fun z hz=>hl z (by simp[hz])
       have a2:=hl y (by simp);simp only[Lib.joinTail,List.map_cons,List.flatten_cons,List.length_append,List.length_cons,Nat.add_mul]at a1⊢;omega
   have a:=this r fun y hy=>h y (by simp[hy]);simp only[List.length_append,List.length_cons,Nat.add_mul]at a⊢;omega
theorem LQ{α:Type}{l:List α}{f:α→br}{sep:br}{g:α→Nat}(h:∀x∈l,(f x).length+sep.length≤g x):(Lib.join (l.map f) sep).length≤(l.map g).sum:=by
 have tail:∀r:List α,(∀x∈r,(f x).length+sep.length≤g x)→(Lib.joinTail sep (r.map f)).length≤(r.map g).sum:=by
   intro r;induction r with
   |nil=>intro _;simp[Lib.joinTail]
   |cons y r ih=>
     intro hl;have a1:=ih fun z hz=>hl z (by simp[hz])
     have a2:=hl y (by simp);simp only[Lib.joinTail,List.map_cons,List.flatten_cons,List.length_append,List.sum_cons]at a1⊢;omega
 cases l with
 |nil=>simp[Lib.join_nil]
 |cons x r=>
   rw[List.map_cons,Lib.join_cons];have h1:=h x (by simp);have a:=tail r fun y hy=>h y (by simp[hy])
   simp only[List.length_append,List.map_cons,List.sum_cons]at a⊢;omega
theorem qk{e a:Ex}(h:e.kids=[a]):a.sz+1≤e.sz:=by
 rw[e.kh,Ex.ch,h];simp;omega
theorem ql{e a b:Ex}(h:e.kids=[a,b]):a.sz+b.sz+1≤e.sz:=by
 rw[e.kh,Ex.ch,h];simp;omega
def jO:List Ar→Nat
 |[]=>0
 |x::r=>x.body.sz+jO r
theorem oe:∀{l:List Ar} {x:Ar},x∈l→x.body.sz≤jO l
 |y::r,x,h=>by
   simp only[jO];rcases List.mem_cons.1 h with rfl|h
   ·omega
   ·have:=oe h;omega
theorem Fo{e a:Ex}(h:e.kids=[a]):a.sz+jO e.aE+1=e.sz:=by
 have:∀l:List Ar,((l.map cT.body).map Ex.sz).sum=jO l:=by
   intro l;induction l with
   |nil=>rfl
   |cons x r ih=>simp only[List.map_cons,List.sum_cons,jO,ih]
 rw[e.kh,Ex.ch,h,List.map_append,List.sum_append,this];simp only[List.map_cons,List.map_nil,List.sum_cons,List.sum_nil];omega
structure Sl where
 bd:Bool
 ty:Ty
 home:Int
 base:Bool
def Sl.pv(x:Sl):PV:=.agg [.bool x.bd,vI x.ty.kind,.str x.ty.name,vI x.ty.id,vI x.ty.home,.au (x.ty.args.map Ty.pv),vI x.home,.bool x.base]
@[simp] theorem Sl.lZ(x:Sl):x.pv=.agg [.bool x.bd,.int .i64 x.ty.kind,.str x.ty.name,.int .i64 x.ty.id,.int .i64 x.ty.home,.au (x.ty.args.map Ty.pv),.int .i64 x.home,.bool x.base]:=rfl
structure Ch where
 id:Int
 aI:Sl
 nw:Bool
def Ch.pv(x:Ch):PV:=.agg [vI x.id,.bool x.aI.bd,vI x.aI.ty.kind,.str x.aI.ty.name,vI x.aI.ty.id,vI x.aI.ty.home,.au (x.aI.ty.args.map Ty.pv),vI x.aI.home,.bool x.aI.base,.bool x.nw]
@[simp] theorem Ch.lZ(x:Ch):x.pv=.agg [.int .i64 x.id,.bool x.aI.bd,.int .i64 x.aI.ty.kind,.str x.aI.ty.name,.int .i64 x.aI.ty.id,.int .i64 x.aI.ty.home,.au (x.aI.ty.args.map Ty.pv),.int .i64 x.aI.home,.bool x.aI.base,.bool x.nw]:=rfl
structure dJ where
 sl:List Sl
 tr:List Ch
def dJ.pv(s:dJ):PV:=.agg [.au (s.sl.map Sl.pv),.au (s.tr.map Ch.pv)]
@[simp] theorem dJ.lZ(s:dJ):s.pv=.agg [.au (s.sl.map Sl.pv),.au (s.tr.map Ch.pv)]:=rfl
structure dJ.Ok(s:dJ)(n m:Nat):Prop where
 sl:s.sl.length≤n
 tr:s.tr.length≤m
 ty:∀x∈s.sl,x.ty.Ok
theorem Px:El Sl.pv 8 true:=⟨fun _=>rfl,fun _=>rfl⟩
theorem LR:El Ch.pv 10 true:=⟨fun _=>rfl,fun _=>rfl⟩
def iy(s:List Sl)(t:Ty):Option Sl:=if t.kind=1∧0≤t.id then (match s[t.id.toNat]? with|some x=>if x.bd then some x else none|none=>none) else none
theorem gf{s:List Sl}{t:Ty}{x:Sl}(h:iy s t=some x):t.kind=1∧∃i:Nat,t.id=i∧s[i]?=some x∧x.bd=true:=by
 unfold iy at h;split at h
 · rename_i q;refine⟨q.1,t.id.toNat,by omega,?_⟩;split at h
   · rename_i y hy;split at h
     ·rename_i hb;cases h;exact⟨hy,hb⟩
     ·cases h
   ·cases h
 ·cases h
theorem c392{s:dJ}{t:Ty}:(aC AP).p 392 [s.pv,t.pv]=some [.bool (iy s.sl t).isSome]:=by
 rw[ae (af:=g392) rfl rfl (by decide)];unfold iy;by_cases k:t.kind=1
 · by_cases h0:0≤t.id
   · obtain⟨i,hi⟩:∃i:Nat,t.id=i:=⟨t.id.toNat,by omega⟩;by_cases hl:i<s.sl.length
     ·obtain⟨x,hx⟩:=aV hl;simp (disch:=omega) [-getElem?_pos,g392,k,hi,hl,hx];cases x.bd<;>rfl
     ·have hx:s.sl[i]?=none:=(by simp;omega);simp (disch:=omega) [-getElem?_pos,g392,k,hi,hl,hx]
   ·simp (disch:=omega) [g392,k,h0]
 ·simp (disch:=omega) [g392,k]
def wk(s:List Sl):Nat→Ty→Ty
 |0,t=>t
 |n+1,t=>match iy s t with|some x=>wk s n x.ty|none=>t
theorem mg{s:List Sl}(hs:∀x∈s,x.ty.Ok):∀{n:Nat} {t:Ty},t.Ok→(wk s n t).Ok
 |0,t,h=>h
 |n+1,t,h=>by
   unfold wk;split
   ·rename_i x hx;obtain⟨_,i,_,hi,_⟩:=gf hx;exact mg hs (hs x (aR hi))
   ·exact h
def tC(t:Ty):List AV:=[.pv (vI t.kind),.pv (.str t.name),.pv (vI t.id),.pv (vI t.home),.pv (.au (t.args.map Ty.pv))]
def sC(s:dJ):List AV:=[.pv (.au (s.sl.map Sl.pv)),.pv (.au (s.tr.map Ch.pv))]
def zC(k:Nat):List AV:=[.pv (vI 0),.pv (.str []),.pv (vI 0),.pv (vI 0),.own [] k]
theorem T4{s:dJ}(hs:Sm s.sl):∀(n i:Nat),s.sl.length+1-i=n→i≤s.sl.length+1→∀t:Ty,∃(i':Nat),
   cl AP g386L0 ⟨[(2,.az 2 0),(3,.az 3 0),(4,.az 4 0),(5,.pv (vI i))],[(2,sC s),(3,tC t),(4,zC 0)],[],[0]⟩ =
     some (.exit 0,⟨[(2,.az 2 0),(3,.az 3 0),(4,.az 4 0),(5,.pv (vI i')),(15,.pv (.bool false))],[(2,sC s),(3,tC (wk s.sl n t)),(4,zC 0)],[],[0]⟩)
 |0,i,hn,hi,t=>by
   refine⟨i,?_⟩;have h1:¬(i:Int)≤s.sl.length:=by omega
   rw[g386L0e];simp[g386B0,sC,tC,zC,wk,h1]
 |n+1,i,hn,hi,t=>by
   have h1:(i:Int)≤s.sl.length:=(by omega);have k:=c392 (s:=s) (t:=t);unfold Sm at hs;rw[g386L0e];cases hb:iy s.sl t with
   |none=>
     refine⟨i,?_⟩;rw[hb]at k;simp at k;simp[g386B0,sC,tC,zC,wk,h1,hb,k]
   |some x=>
     obtain⟨_,j,hj,hx,_⟩:=gf hb;obtain⟨i',e⟩:=T4 hs n (i+1) (by omega) (by omega) x.ty;refine⟨i',?_⟩;rw[hb]at k;have hl:j<s.sl.length:=by obtain⟨h,_⟩:=List.getElem?_eq_some_iff.1 hx;exact h
     rw[g386L0e]at e;simp[hj]at k;simp[sC,tC,zC]at e;simp (disch:=omega) [-getElem?_pos,g386B0,sC,tC,zC,wk,h1,hb,k,hj,hx,hl,ah];rw[g386L0e];simp[e]
theorem c386{s:dJ}(hs:Sm s.sl){t:Ty}:(aC AP).p 386 [s.pv,t.pv]=some [(wk s.sl (s.sl.length+1) t).pv]:=by
 obtain⟨i',h⟩:=T4 hs _ 0 rfl (by omega) t;rw[ae (af:=g386) rfl rfl (by decide)];rw[g386L0e]at h;simp[sC,tC,zC]at h;simp[g386,g386L0e,h]
def kW(s:List Sl)(t:Ty):Ty:=wk s (s.length+1) t
inductive Tr (s:List Sl):Ty→Nat→Prop
 |mk {t:Ty} (ns:List Nat):ns.length=(kW s t).args.length→(∀(i:Nat) a n,(kW s t).args[i]?=some a→ns[i]?=some n→Tr s a n)→Tr s t (ns.sum+1)
def MS(s:List Sl)(l:List Ty)(ns:List Nat):Prop:=ns.length=l.length∧∀(i:Nat) a n,l[i]?=some a→ns[i]?=some n→Tr s a n
theorem MS.nil{s:List Sl}:MS s [] []:=⟨rfl,by intro i a n h;simp at h⟩
theorem MS.snoc{s:List Sl}{l:List Ty}{ns:List Nat}(h:MS s l ns){a:Ty}{n:Nat}(ha:Tr s a n):MS s (l++[a]) (ns++[n]):=by
 refine⟨by simp[h.1],?_⟩;intro i b m hb hm;have hl:=h.1;by_cases hi:i<l.length
 ·rw[List.getElem?_append_left hi]at hb;rw[List.getElem?_append_left (by omega)]at hm;exact h.2 i b m hb hm
 · rw[List.getElem?_append_right (by omega)]at hb;rw[List.getElem?_append_right (by omega),hl]at hm;by_cases e:i-l.length=0
   ·rw[e]at hb hm;simp at hb hm;rw[←hb,←hm];exact ha
   ·have h1:1≤i-l.length:=(by omega);have:([a]:List Ty)[i-l.length]?=none:=(by simp;omega);rw[this]at hb;cases hb
theorem Tr.inv{s:List Sl}{t:Ty}{r:Nat}(h:Tr s t r):∃ns,MS s (kW s t).args ns∧r=ns.sum+1:=by
 cases h with
 |mk ns h1 h2=>exact⟨ns,⟨h1,h2⟩,rfl⟩
theorem x_:∀{ns:List Nat} {i n:Nat},ns[i]?=some n→n≤ns.sum
 |a::r,0,n,h=>by simp at h;subst h;simp
 |a::r,i+1,n,h=>by simp at h;have:=x_ h;simp;omega
theorem T5{s:dJ}(hs:Sm s.sl)(hO:∀x∈s.sl,x.ty.Ok){m:Nat}(hm:m<1000000)(IH:∀m':Nat,m'<m→∀t,t.Ok→∃r:Nat,(aC AP).p 371 [s.pv,t.pv,vI m']=some [vI r]∧1≤r∧r≤m'+1∧(r≤m'→Tr s.sl t r))
   {x:Ty} (hx:x.Ok):∀(k i n:Nat),x.args.length-i=k→i≤x.args.length→1≤n→n≤m+1→(n≤m→∃ns,MS s.sl (x.args.take i) ns∧n=ns.sum+1)→∃i' n':Nat,
   cl AP g371L0 ⟨[(2,.pv (vI m)),(3,.az 3 0),(4,.az 4 0),(7,.pv (vI n)),(8,.pv (vI i))],[(3,sC s),(4,tC x)],[],[]⟩ =
     some (.exit 0,⟨[(2,.pv (vI m)),(3,.az 3 0),(4,.az 4 0),(7,.pv (vI n')),(8,.pv (vI i')),(21,.pv (.bool false))],[(3,sC s),(4,tC x)],[],[]⟩)∧1≤n'∧n'≤m+1∧(n'≤m→∃ns,MS s.sl x.args ns∧n'=ns.sum+1)
 |0,i,n,hk,hi,h1,h2,h3=>by
   have:i=x.args.length:=by omega
   subst this;refine⟨x.args.length,n,?_,h1,h2,by simpa using h3⟩;rw[g371L0e];simp[g371B0,sC,tC]
 |k+1,i,n,hk,hi,h1,h2,h3=>by
   have hi:i<x.args.length:=(by omega);obtain⟨a,ha⟩:=aV hi;have hsm:=hx.sm;unfold Sm at hsm;by_cases hn:n≤m
   · have g0:m-n<m:=by clear h3;omega
     obtain⟨r,e,r1,r2,r3⟩:=IH (m-n) g0 a (hx.ga a (aR ha));have hsub:((m:Int)-n)=((m-n:Nat):Int):=by clear h3 r3;omega
     have g5:n+r≤m→∃ns,MS s.sl (x.args.take (i+1)) ns∧n+r=ns.sum+1:=by
       intro h;obtain⟨ns,q,e2⟩:=h3 hn;refine⟨ns++[r],?_,by rw[List.sum_append,e2];simp;omega⟩;rw[List.take_add_one,ha];have hr:r≤m-n:=by clear h3;omega
       exact q.snoc (r3 hr)
     clear h3;have g1:x.args.length-(i+1)=k:=by clear g5 r3;omega
     have g2:1≤n+r:=by clear g5 r3;omega
     have g3:n+r≤m+1:=by clear g5 r3;omega
     obtain⟨i',n',e',q1,q2,q3⟩:=T5 hs hO hm IH hx k (i+1) (n+r) g1 hi g2 g3 g5;refine⟨i',n',?_,q1,q2,q3⟩;have hnm:(n:Int)≤m:=by omega
     rw[g371L0e]at e' ⊢;simp at e;simp[sC,tC]at e';simp (disch:=omega) [-getElem?_pos,g371B0,sC,tC,hi,ha,hnm,ah,hsub,e];rw[g371L0e];simp[e']
   · refine⟨i,n,?_,h1,h2,fun h=>absurd h hn⟩;clear h3;have hnm:¬(n:Int)≤m:=by omega
     rw[g371L0e];simp (disch:=omega) [-getElem?_pos,g371B0,sC,tC,hi,hnm]
theorem c371{s:dJ}(hs:Sm s.sl)(hO:∀x∈s.sl,x.ty.Ok)(m:Nat)(hm:m<1000000):∀t:Ty,t.Ok→∃r:Nat,(aC AP).p 371 [s.pv,t.pv,vI m]=some [vI r]∧1≤r∧r≤m+1∧(r≤m→Tr s.sl t r):=by
 induction m using Nat.strongRecOn with
 |ind m ih=>
   intro t ht;have k:=c386 hs (t:=t);have hw:(wk s.sl (s.sl.length+1) t).Ok:=mg hO ht;obtain⟨i',n',e,q1,q2,q3⟩:=T5 hs hO hm (fun m' h t ht=>ih m' h (by omega) t ht) hw _ 0 1 rfl (by omega) (by omega) (by omega) (fun _=>⟨[],by simpa using MS.nil,rfl⟩);refine⟨min n' (m+1),?_,by clear q3;omega,by clear q3;omega,?_⟩
   · rw[ae (af:=g371) rfl rfl (by decide)];rw[g371L0e]at e;have hmin:min (n':Int) ((m:Int)+1)=((min n' (m+1):Nat):Int):=by omega
     generalize wk s.sl (s.sl.length+1) t=x at *;simp at k;simp[sC,tC]at e;simp (disch:=omega) [g371,k,g371L0e,e,ah,hmin];omega
   · intro h;have hq:n'≤m:=by clear q3;omega
     obtain⟨ns,a,b⟩:=q3 hq;have:min n' (m+1)=ns.sum+1:=by omega
     rw[this];exact .mk ns a.1 a.2
def uC(x:Ty)(acc:List Ty)(k:Nat):List AV:=[.pv (vI x.kind),.pv (.str x.name),.pv (vI x.id),.pv (vI x.home),.own (acc.map Ty.pv) k]
theorem T6{s:dJ}{x:Ty}(hx:x.Ok){ns:List Nat}(hns:ns.length=x.args.length)(IH:∀(i:Nat) a n,x.args[i]?=some a→ns[i]?=some n→∃u:Ty,(aC AP).p 373 [s.pv,a.pv]=some [u.pv]∧u.Ok∧u.nodes.length=n):∀(k i:Nat),x.args.length-i=k→i≤x.args.length→∀acc:List Ty,acc.length=i→(∀u∈acc,u.Ok)→(acc.flatMap Ty.nodes).length=(ns.take i).sum→∃us:List Ty,
   cl AP g373L0 ⟨[(2,.az 2 0),(3,.az 3 0),(4,.az 4 0),(5,.az 5 0),(6,.pv (vI i))],[(2,sC s),(3,tC x),(4,zC 0),(5,uC x acc 1)],[],[0,acc.length]⟩ =
     some (.exit 0,⟨[(2,.az 2 0),(3,.az 3 0),(4,.az 4 0),(5,.az 5 0),(6,.pv (vI x.args.length)),(16,.pv (.bool false))],[(2,sC s),(3,tC x),(4,zC 0),(5,uC x us 1)],[],[0,us.length]⟩)∧us.length=x.args.length∧(∀u∈us,u.Ok)∧(us.flatMap Ty.nodes).length=ns.sum
 |0,i,hk,hi,acc,ha,hu,hc=>by
   have:i=x.args.length:=by omega
   subst this;refine⟨acc,?_,ha,hu,by rw[hc,←hns,List.take_length]⟩;rw[g373L0e];simp[g373B0,sC,tC,zC,uC]
 |k+1,i,hk,hi,acc,ha,hu,hc=>by
   have hi:i<x.args.length:=(by omega);obtain⟨a,hax⟩:=aV hi;obtain⟨n,hn⟩:=aV (l:=ns) (i:=i) (by omega);have hsm:=hx.sm;unfold Sm at hsm;obtain⟨u,e,hO,hnn⟩:=IH i a n hax hn
   obtain⟨us,e',h1,h2,h3⟩:=T6 hx hns IH k (i+1) (by omega) (by omega) (acc++[u]) (by simp;omega) (by
     intro y hy;simp at hy;rcases hy with hy|rfl
     ·exact hu y hy
     ·exact hO) (by rw[List.take_add_one,hn,List.flatMap_append,List.length_append,hc];simp[hnn])
   refine⟨us,?_,h1,h2,h3⟩;have hb:(acc.length+1)*64≤140737488355328:=by omega
   rw[g373L0e]at e' ⊢;simp at e;simp[sC,tC,zC,uC]at e';simp (disch:=omega) [-getElem?_pos,g373B0,sC,tC,zC,uC,hi,hax,ah,e,hb];rw[g373L0e];simp[e']
theorem c373{s:dJ}(hs:Sm s.sl)(hO:∀x∈s.sl,x.ty.Ok)(r:Nat):∀t:Ty,Tr s.sl t r→t.Ok→∃u:Ty,(aC AP).p 373 [s.pv,t.pv]=some [u.pv]∧u.Ok∧u.nodes.length=r:=by
 induction r using Nat.strongRecOn with
 |ind r ih=>
   intro t ht hto;have k:=c386 hs (t:=t);have hw:(wk s.sl (s.sl.length+1) t).Ok:=mg hO hto;obtain⟨ns,hn,hr⟩:=ht.inv;unfold kW at hn
   obtain⟨us,e,h1,h2,h3⟩:=T6 (s:=s) hw hn.1 (fun i a n hi hni=>by
     have:=x_ hni;exact ih n (by omega) a (hn.2 i a n hi hni) (hw.ga a (aR hi))) _ 0 rfl (by omega) [] rfl (by simp) rfl
   refine⟨⟨(wk s.sl (s.sl.length+1) t).kind,(wk s.sl (s.sl.length+1) t).name,(wk s.sl (s.sl.length+1) t).id,(wk s.sl (s.sl.length+1) t).home,us⟩,?_,⟨by have:=hw.sm;unfold Sm at *;simp only;omega,h2⟩,by rw[Ty.aM];simp only[List.length_cons];omega⟩;rw[ae (af:=g373) rfl rfl (by decide)];rw[g373L0e]at e;generalize wk s.sl (s.sl.length+1) t=x at *;simp at k;simp[sC,tC,zC,uC]at e;simp[g373,k,g373L0e,e]
theorem c355{s:dJ}(hs:Sm s.sl)(hO:∀x∈s.sl,x.ty.Ok){m:Nat}(hm:m<1000000){t:Ty}(ht:t.Ok):∃r:Nat,(aC AP).p 355 [s.pv,t.pv,vI m]=some [vI r]∧1≤r∧r≤m+1∧(r≤m→Tr s.sl t r):=by
 obtain⟨r,e,h⟩:=c371 hs hO m hm t ht;refine⟨r,?_,h⟩;rw[ae (af:=g355) rfl rfl (by decide)];simp at e;have hmx:max (m:Int) 0=m:=by omega
 simp[g355,hmx,e]
theorem c358{s:dJ}(hs:Sm s.sl)(hO:∀x∈s.sl,x.ty.Ok){t:Ty}(ht:t.Ok):∃(u:Ty) (b:Bool),(aC AP).p 358 [s.pv,t.pv]=some [u.pv,.bool b]∧u.Ok∧u.nodes.length≤4000:=by
 obtain⟨r,e,h1,h2,h3⟩:=c355 hs hO (m:=4000) (by omega) ht;simp at e;by_cases hr:r≤4000
 · obtain⟨u,e2,hu,hnu⟩:=c373 hs hO r t (h3 hr) ht;refine⟨u,true,?_,hu,by omega⟩;simp at e2;have hr':¬(4000:Int)<r:=by omega
   rw[ae (af:=g358) rfl rfl (by decide)];simp[g358,e,hr',e2]
 · refine⟨bp,false,?_,cG rfl,by rw[Ty.aM];simp[bp]⟩;have hr':(4000:Int)<r:=by omega
   rw[ae (af:=g358) rfl rfl (by decide)];simp[g358,e,hr',bp]
theorem c388:(aC AP).p 388 []=some [(dJ.mk [] []).pv]:=by
 rw[ae (af:=g388) rfl rfl (by decide)];simp[g388]
def cU(s:dJ)(home:Int)(b:Bool):dJ:=⟨s.sl++[⟨false,bp,home,b⟩],s.tr++[⟨s.sl.length,⟨false,bp,0,false⟩,true⟩]⟩
theorem c381{s:dJ}{n m:Nat}(hs:s.Ok n m)(hn:n≤1000000)(hm:m≤1000000000)(home:Int)(b:Bool):(aC AP).p 381 [s.pv,vI home,.bool b]=some [(cU s home b).pv,(bM s.sl.length).pv]:=by
 have k:=c63 (n:=s.sl.length);have h1:=hs.sl;have h2:=hs.tr;have b1:s.sl.length*88≤140737488355328:=by omega
 have b2:(s.sl.length+1)*88≤140737488355328:=by omega
 have b3:s.tr.length*104≤140737488355328:=by omega
 have b4:(s.tr.length+1)*104≤140737488355328:=by omega
 have e1:=Px.head s.sl;have e2:=LR.head s.tr;simp at k e1 e2;rw[ae (af:=g381) rfl rfl (by decide)];simp (disch:=omega) [g381,cU,bp,bM,k,b1,b2,b3,b4,e1,e2]
 (repeat' split)<;>simp_all
theorem T7{sz:Nat}{l:List PV}{k:IntKind}{h:Int}(h0:0≤h)(h1:h≤l.length):dE false sz false true false [.pv (.au l),.pv (.int k h)]=some (.pv (.au (l.take h.toNat))):=by
 simp[dE,cH,ez,h0,h1]
theorem T8{sz τ:Nat}{l:List PV}{k:IntKind}{h:Int}(h0:0≤h)(h1:h≤l.length):dE false sz false true false [.own l τ,.pv (.int k h)]=some (.pv (.au (l.take h.toNat))):=by
 simp[dE,cH,ez,h0,h1]
def Sl.cells(x:Sl):List PV:=[.bool x.bd,vI x.ty.kind,.str x.ty.name,vI x.ty.id,vI x.ty.home,.au (x.ty.args.map Ty.pv),vI x.home,.bool x.base]
theorem og:Row Sl.cells 8:=⟨by omega,fun _=>rfl⟩
theorem Rd{l:List Sl}:((eh (aN Sl.cells l)).bind (dK 8 true l.length)).map PV.au=some (.au (l.map Sl.pv)):=mT og
theorem Re{l:List Sl}:((l.map Sl.pv).flatMap aX).map AV.pv=aN Sl.cells l:=mU og
def gM(s:dJ)(i:Nat)(o x:Sl):dJ:=⟨s.sl.set i x,s.tr++[⟨i,o,false⟩]⟩
theorem c393{s:dJ}{n m:Nat}(hs:s.Ok n m)(hn:n≤1000000)(hm:m≤1000000000){i:Nat}{o:Sl}(hi:s.sl[i]?=some o)(x:Sl):(aC AP).p 393 [s.pv,vI i,x.pv]=some [(gM s i o x).pv,.bool true]:=by
 have h1:=hs.sl;have h2:=hs.tr;have hl:i<s.sl.length:=by obtain⟨h,_⟩:=List.getElem?_eq_some_iff.1 hi;exact h
 have b1:s.sl.length*88≤140737488355328:=by omega
 have b3:s.tr.length*104≤140737488355328:=by omega
 have b4:(s.tr.length+1)*104≤140737488355328:=by omega
 have hge:¬s.sl.length≤i:=by omega
 have hle8:i*8+8≤s.sl.length*8:=by omega
 have hf:∀S:Sh,dv S (.az 8 0)=none:=fun _=>rfl;have e1:=Px.head s.sl
 have e2:=LR.head s.tr;have hne:¬s.sl=[]:=by intro h;rw[h]at hl;simp at hl
 have hmp:=Re (l:=s.sl);have hB:bU (aN Sl.cells s.sl)=false:=bH aY;have hB2:bU (aN Sl.cells (s.sl.set i x))=false:=bH aY;have hlen:(aN Sl.cells s.sl).length=s.sl.length*8:=bn og;have hlen2:(aN Sl.cells (s.sl.set i x)).length=s.sl.length*8:=by rw[bn og];simp
 have hle:=Q_ og hl (o:=0) (k:=8) (by omega)
 have hset:=kR og hi (y:=x) (o:=0) (vs:=x.cells) (by rw[og.len];omega) (by
   simp[Sl.cells])
 have hq:∀aI ts,a9 aI ts [some (aN Sl.cells s.sl)]=([some (aN Sl.cells s.sl)],aI,ts):=(aL.one aY).norm;have hq2:∀aI ts,a9 aI ts [some (aN Sl.cells (s.sl.set i x))]=([some (aN Sl.cells (s.sl.set i x))],aI,ts):=(aL.one aY).norm;have hlst:=Rd (l:=s.sl.set i x);rw[List.length_set]at hlst;simp only[Nat.add_zero]at hset hle;generalize aN Sl.cells (s.sl.set i x)=T1 at *;generalize aN Sl.cells s.sl=T at *;simp[Sl.cells]at hset;simp at hlst hmp e1 e2;rw[ae (af:=g393) rfl rfl (by decide)];simp (disch:=omega) [-getElem?_pos,g393,hi,hl,b1,b3,b4,e1,e2,hne,hmp,hB,hB2,hlen,hlen2,hset,hq,hq2,hlst,gM,hge,hle8,hf]
theorem c194g{t:Ty}(ht:t.Ok):∃(a b:Ty) (c:Bool),(aC AP).p 194 [t.pv]=some [a.pv,b.pv,.bool c]∧a.Ok∧b.Ok∧(c=true→t=⟨4,[45,62],t.id,t.home,[a,b]⟩):=by
 by_cases h:t.kind=4∧t.name=[45,62]∧t.args.length=2
 · obtain⟨h1,h2,h3⟩:=h
   match e:t.args,h3 with
   |[a,b],_=>
     refine⟨a,b,true,?_,ht.ga a (by simp[e]),ht.ga b (by simp[e]),?_⟩
     ·rw[ae (af:=g194) rfl rfl (by decide)];simp[g194,h1,h2,e]
     ·intro _;cases t;simp at h1 h2 e⊢;simp[h1,h2,e]
 · refine⟨bp,bp,false,?_,cG rfl,cG rfl,by simp⟩;rw[ae (af:=g194) rfl rfl (by decide)];by_cases h1:t.kind=4
   · by_cases h2:t.name=[45,62]
     · have h3:¬(t.args.length:Int)=2:=by
         intro q;exact h ⟨h1,h2,by omega⟩
       simp[g194,h1,h2,h3,bp]
     ·simp[g194,h1,h2,bp]
   ·simp[g194,h1,bp]
theorem VZ{S:List Ty}{l:List Ty}(hS:Sm l)(hO:∀t∈l,t.Ok)(hk:∀x∈l.flatMap (Ty.eT 3),x∈S):∀(n i:Nat),l.length-i=n→i≤l.length→∀out,fU S out →
   cl AP g59L0 ⟨[(0,.pv (.au (l.map Ty.pv))),(3,.own (out.map Ty.pv) 0),(4,.pv (vI i))],[],[],[out.length]⟩ =
     some (.exit 0,⟨[(0,.pv (.au (l.map Ty.pv))),(3,.own ((((l.drop i).flatMap (Ty.eT 3)).foldl gL out).map Ty.pv) 0),(4,.pv (vI l.length)),(8,.pv (.bool false))],[],[],[(((l.drop i).flatMap (Ty.eT 3)).foldl gL out).length]⟩)
 |0,i,hn,hi,out,hc=>by
   have:i=l.length:=by omega
   subst this;rw[g59L0e];simp[g59B0]
 |n+1,i,hn,hi,out,hc=>by
   have hi:i<l.length:=(by omega);obtain⟨x,hx⟩:=aV hi;unfold Sm at hS;have hkx:∀y∈x.eT 3,y∈S:=fun y hy=>hk y (by simp only[List.mem_flatMap];exact⟨x,aR hx,hy⟩)
   have k:=c99 (kd:=3) (hO x (aR hx)) hkx out hc;have ih:=VZ hS hO hk n (i+1) (by omega) (by omega) _ (hc.fold hkx);rw[g59L0e]at ih⊢;rw[bh hx];simp at k ih;simp (disch:=omega) [-getElem?_pos,g59B0,hx,hi,k,ah];rw[g59L0e];simp[ih]
theorem c59{S:List Ty}(hf:S.length<1099511627776)(hSo:∀x∈S,x.Ok){l:List Ty}(hS:Sm l)(hO:∀t∈l,t.Ok)(hk:∀x∈l.flatMap (Ty.eT 3),x∈S):∃r:List Ty,(aC AP).p 59 [.au (l.map Ty.pv)]=some [.au (r.map Ty.pv)]∧Sm r∧∀x∈r,x∈S:=by
 have c0:fU S []:=⟨by simp,by simp,hf,hSo⟩;have h:=VZ hS hO hk _ 0 rfl (by omega) [] c0;have hc:=c0.fold hk;refine⟨_,?_,hc.len,hc.sub⟩;rw[ae (af:=g59) rfl rfl (by decide)];rw[g59L0e]at h;simp at h;simp[g59,g59L0e,h]
def nu(s:List Sl)(t:Ty):Bool:=decide (t.kind=1∧0≤t.id∧t.id<s.length)
theorem c396{s:dJ}{t:Ty}:(aC AP).p 396 [s.pv,t.pv]=some [.bool (nu s.sl t)]:=by
 rw[ae (af:=g396) rfl rfl (by decide)];by_cases h1:t.kind=1
 · by_cases h2:0≤t.id
   · by_cases h3:t.id<s.sl.length
     ·simp[g396,nu,h1,h2,h3]
     ·simp[g396,nu,h1,h2,h3]
   ·simp[g396,nu,h1,h2]
 ·simp[g396,nu,h1]
inductive ij:Ty→Int→Prop
 |var {t:Ty}:t.kind=1→ij t t.id
 |arg {t a:Ty} {v:Int}:t.kind≠1→a∈t.args→ij a v→ij t v
def Edge(s:List Sl)(i v:Int):Prop:=∃(k:Nat) (x:Sl),i=k∧s[k]?=some x∧x.bd=true∧ij x.ty v
inductive Fp (s:List Sl):Int→Int→Prop
 |refl (i:Int):Fp s i i
 |step {i j k:Int}:Edge s i j→Fp s j k→Fp s i k
def Jc(s:List Sl):Prop:=∃rk:Int→Nat,∀i v,Edge s i v→rk v<rk i
theorem Jc.of{s s':List Sl}(h:Jc s)(he:∀i v,Edge s' i v→Edge s i v):Jc s':=by
 obtain⟨rk,hr⟩:=h;exact⟨rk,fun i v e=>hr i v (he i v e)⟩
theorem ij.bound(rk:Int→Nat)(t:Ty):∃M,∀v,ij t v→rk v<M:=by
 refine Ty.dH (p:=fun t=>∃M,∀v,ij t v→rk v<M) ?_ t;intro t ih;by_cases k:t.kind=1
 · refine⟨rk t.id+1,?_⟩;intro v h;cases h with
   |var _=>omega
   |arg q _ _=>exact absurd k q
 · have key:∀l:List Ty,(∀a∈l,∃M,∀v,ij a v→rk v<M)→∃M,∀a∈l,∀v,ij a v→rk v<M:=by
     intro l;induction l with
     |nil=>intro _;exact⟨0,by simp⟩
     |cons a r ihr=>
       intro h;obtain⟨M,hM⟩:=h a (by simp);obtain⟨N,hN⟩:=ihr fun b hb=>h b (by simp[hb]);refine⟨M+N,?_⟩;intro b hb v hv;simp at hb;rcases hb with rfl|hb
       ·have:=hM v hv;omega
       ·have:=hN b hb v hv;omega
   obtain⟨M,hM⟩:=key t.args ih;refine⟨M,?_⟩;intro v h;cases h with
   |var q=>exact absurd q k
   |arg _ ha h=>exact hM _ ha v h
theorem A4{s:List Sl}{k:Nat}{x:Sl}{i v:Int}(h:Edge (s.set k x) i v):(i=k∧x.bd=true∧ij x.ty v)∨(i≠k∧Edge s i v):=by
 obtain⟨j,y,rfl,hy,hb,ho⟩:=h;rw[List.getElem?_set]at hy;by_cases e:k=j
 · subst e;by_cases hl:k<s.length
   ·simp[hl]at hy;subst hy;exact .inl ⟨rfl,hb,ho⟩
   ·simp[hl]at hy
 ·simp[e]at hy;exact .inr ⟨by omega,j,y,rfl,hy,hb,ho⟩
theorem A5{s:List Sl}{k:Nat}{o x:Sl}(h:Jc s)(hk:s[k]?=some o)(hb:x.bd=o.bd)(ht:x.ty=o.ty):Jc (s.set k x):=by
 refine h.of ?_;intro i v e;rcases A4 e with⟨rfl,b,oc⟩|⟨_,e⟩
 ·exact⟨k,o,rfl,hk,by rw[←hb];exact b,by rw[←ht];exact oc⟩
 ·exact e
theorem A6{s:List Sl}{k:Nat}{x:Sl}(h:Jc s)(hn:∀v,ij x.ty v→¬Fp s v k):Jc (s.set k x):=by
 classical
 obtain⟨rk,hr⟩:=h;obtain⟨M,hM⟩:=ij.bound rk x.ty;refine⟨fun j=>if Fp s j k then rk j+M else rk j,?_⟩;intro i v e;show (if Fp s v k then rk v+M else rk v)<(if Fp s i k then rk i+M else rk i);rcases A4 e with⟨rfl,b,oc⟩|⟨_,e⟩
 ·have h1:=hM v oc;rw[if_neg (hn v oc),if_pos (.refl _)];omega
 · have h1:=hr i v e;by_cases q:Fp s v k
   ·rw[if_pos q,if_pos (.step e q)];omega
   ·rw[if_neg q];split<;>omega
theorem LS{s:List Sl}{x:Sl}(h:Jc s)(hb:x.bd=false):Jc (s++[x]):=by
 refine h.of ?_
 rintro i v ⟨k,y,rfl,hy,b,o⟩
 by_cases hl:k<s.length
 ·rw[List.getElem?_append_left hl]at hy;exact⟨k,y,rfl,hy,b,o⟩
 · rw[List.getElem?_append_right (by omega)]at hy;by_cases e:k-s.length=0
   ·rw[e]at hy;simp at hy;subst hy;rw[hb]at b;cases b
   · have:([x]:List Sl)[k-s.length]?=none:=by simp;omega
     rw[this]at hy;cases hy
def ub(s:List Sl):Nat:=s.countP fun x=>!x.bd
theorem r5:∀{s:List Sl} {k:Nat} {o x:Sl},s[k]?=some o→x.bd=o.bd→ub (s.set k x)=ub s
 |[],k,o,x,h,_=>by simp at h
 |a::r,0,o,x,h,hb=>by simp at h;subst h;simp[ub,List.countP_cons,hb]
 |a::r,k+1,o,x,h,hb=>by
   simp at h;have:=r5 h hb;simp only[ub]at this;simp[ub,List.countP_cons,this]
theorem ya:∀{s:List Sl} {k:Nat} {o x:Sl},s[k]?=some o→o.bd=false→x.bd=true→ub (s.set k x)+1=ub s
 |[],k,o,x,h,_,_=>by simp at h
 |a::r,0,o,x,h,hb,hx=>by simp at h;subst h;simp[ub,List.countP_cons,hb,hx]
 |a::r,k+1,o,x,h,hb,hx=>by
   simp at h;have:=ya h hb hx;simp only[ub]at this;simp[ub,List.countP_cons];omega
def bT(dn:List Bool):List AV:=dn.map fun b=>.pv (.bool b)
def fX(s:dJ)(T:List AV)(n:Nat)(out:List Int):Sh:=[some T,some [.pv (.au (s.sl.map Sl.pv)),.pv (.au (s.tr.map Ch.pv)),.own (out.map vI) 0,.aP 0 1 n false]]
structure Py(T:List AV):Prop where
 norm:∀aI ts,bj aI ts T=(T,aI,ts)
 mp:bU T=false
 sh:∀k,T.map (cZ k)=T
theorem T9{s:dJ}{S out:List Int}{t:Ty}(hk:t.kind=1)(hb:iy s.sl t=none)(hc:lD S out){T:List AV}(hT:Py T){n:Nat} :
   (aC AP).i 387 [.aW 1 0,.pv t.pv] (fX s T n out) [out.length]=some ([],fX s T n (if t.id∈out then out else out++[t.id]),[(if t.id∈out then out else out++[t.id]).length]):=by
 have k1:=c392 (s:=s) (t:=t);have hl:=hc.len;have k2:=c95 hl (y:=t.id);unfold Sm at hl;have hbb:(out.length+1)*8≤140737488355328:=by omega
 have hh:bf 1 (out.map vI)=true:=nV.head out;have hn:=hT.norm;rw[hb]at k1;simp[hk]at k1;rw[aD (af:=g387) rfl (by simp[g387])];by_cases e2:t.id∈out
 ·rw[decide_eq_true e2]at k2;simp[g387,fX,hk,k1,k2,e2,hn]
 ·rw[decide_eq_false e2]at k2;simp[g387,fX,hk,k1,k2,e2,hn,hbb,hh]
theorem T_{s:dJ}{out:List Int}{t:Ty}{x:Sl}{i:Nat}(hi:t.id=i)(hk:t.kind=1)(hx:s.sl[i]?=some x)(hb:iy s.sl t=some x){T:List AV}(hT:Py T){n:Nat}(hn:T.length=n)(hin:i<n)(hd:T[i]?=some (.pv (.bool true))) :
   (aC AP).i 387 [.aW 1 0,.pv t.pv] (fX s T n out) [out.length]=some ([],fX s T n out,[out.length]):=by
 have k1:=c392 (s:=s) (t:=t);have hnm:=hT.norm;have hmp:=hT.mp;have hsh:=hT.sh;have hle:i+1≤T.length:=by omega
 rw[hb]at k1;simp[hk,hi]at k1;rw[aD (af:=g387) rfl (by simp[g387])];simp (disch:=omega) [-getElem?_pos,g387,fX,hk,hi,k1,hnm,hin,hd,hmp,hle,bQ]
theorem Ua{s:dJ}{out out':List Int}{t:Ty}{x:Sl}{i:Nat}(hi:t.id=i)(hk:t.kind=1)(hx:s.sl[i]?=some x)(hb:iy s.sl t=some x){T T1 T2:List AV}(hT:Py T)(hT1:Py T1)(hT2:Py T2){n:Nat}(hn:T.length=n)(hin:i<n)(hd:T[i]?=some (.pv (.bool false)))
   (hs:aQ T i [.pv (.bool true)]=T1) (e:(aC AP).i 387 [.aW 1 0,.pv x.ty.pv] (fX s T1 n out) [out.length]=some ([],fX s T2 n out',[out'.length])) :
   (aC AP).i 387 [.aW 1 0,.pv t.pv] (fX s T n out) [out.length]=some ([],fX s T2 n out',[out'.length]):=by
 have k1:=c392 (s:=s) (t:=t);have hnm:=hT.norm;have hnm1:=hT1.norm;have hnm2:=hT2.norm;have hsh1:=hT1.sh;have hsh2:=hT2.sh;have hmp:=hT.mp;have hsh:=hT.sh;have hl:i<s.sl.length:=by obtain⟨h,_⟩:=List.getElem?_eq_some_iff.1 hx;exact h
 have hle:i+1≤T.length:=by omega
 rw[hb]at k1;simp[hk,hi]at k1;simp[fX]at e;simp at hs;rw[aD (af:=g387) rfl (by simp[g387])];simp (disch:=omega) [-getElem?_pos,g387,fX,hk,hi,k1,hnm,hnm1,hnm2,hin,hd,hx,hl,hmp,hs,hle,e,bQ,hsh,hsh1,hsh2]
def Rf(s:dJ)(n:Nat)(t:Ty)(T:List AV)(out:List Int)(T':List AV)(out':List Int):Prop:=(aC AP).i 387 [.aW 1 0,.pv t.pv] (fX s T n out) [out.length]=some ([],fX s T' n out',[out'.length])
theorem Ub{s:dJ}{n:Nat}{t:Ty}(ht:t.Ok)(J:Nat→List AV→List Int→Prop)(hP:∀i T out,J i T out→Py T)
   (hJ:∀i a,t.args[i]?=some a→∀T out,J i T out→∃T' out',Rf s n a T out T' out'∧J (i+1) T' out'):∀(k i:Nat),t.args.length-i=k→i≤t.args.length→∀T out,J i T out→∃T' out',
   cl AP g387L0 ⟨[(0,.aW 1 0),(3,.az 3 0),(4,.pv (vI i))],[(3,tC t)],fX s T n out,[out.length]⟩ =
     some (.exit 1,⟨[(0,.aW 1 0),(3,.az 3 0),(4,.pv (vI t.args.length)),(68,.pv (.bool false))],[(3,tC t)],fX s T' n out',[out'.length]⟩)∧J t.args.length T' out'
 |0,i,hk,hi,T,out,h=>by
   have:i=t.args.length:=by omega
   subst this;refine⟨T,out,?_,h⟩;have hn:=(hP _ _ _ h).norm;rw[g387L0e];simp[g387B0,tC,fX,hn]
 |k+1,i,hk,hi,T,out,h=>by
   have hi:i<t.args.length:=(by omega);obtain⟨a,ha⟩:=aV hi;have hsm:=ht.sm;unfold Sm at hsm;obtain⟨T1,out1,e,h1⟩:=hJ i a ha T out h;obtain⟨T',out',e',h2⟩:=Ub ht J hP hJ k (i+1) (by omega) (by omega) T1 out1 h1;refine⟨T',out',?_,h2⟩;have hn:=(hP _ _ _ h).norm;have hn1:=(hP _ _ _ h1).norm;have hs:=(hP _ _ _ h).sh;have hs1:=(hP _ _ _ h1).sh;unfold Rf at e;rw[g387L0e]at e' ⊢;simp[fX]at e;simp[tC,fX,hn1]at e';simp (disch:=omega) [-getElem?_pos,g387B0,tC,fX,hi,ha,hn,hn1,hs,hs1,ah,e];rw[g387L0e];simp[e',hn1]
theorem Uc{s:dJ}{n:Nat}{t:Ty}(ht:t.Ok)(hk:t.kind≠1)(J:Nat→List AV→List Int→Prop)(hP:∀i T out,J i T out→Py T)
   (hJ:∀i a,t.args[i]?=some a→∀T out,J i T out→∃T' out',Rf s n a T out T' out'∧J (i+1) T' out') {T:List AV} {out:List Int} (h:J 0 T out):∃T' out',Rf s n t T out T' out'∧J t.args.length T' out':=by
 obtain⟨T',out',e,h1⟩:=Ub (s:=s) (n:=n) ht J hP hJ _ 0 rfl (by omega) T out h;refine⟨T',out',?_,h1⟩;have hn:=(hP _ _ _ h).norm;have hn1:=(hP _ _ _ h1).norm;have hs1:=(hP _ _ _ h1).sh;unfold Rf;rw[aD (af:=g387) rfl (by simp[g387])];rw[g387L0e]at e;simp[tC,fX,hn]at e;simp[g387,fX,hk,hn,hn1,hs1,g387L0e,e]
def qm(s:List Sl)(v:Int):Prop:=∃(k:Nat) (x:Sl),v=k∧s[k]?=some x∧x.bd=true
theorem jq{s:List Sl}{t:Ty}(hk:t.kind=1)(h:iy s t=none):¬qm s t.id:=by
 rintro⟨k,x,e,hx,hb⟩
 unfold iy at h;have:0≤t.id:=by omega
 rw[if_pos ⟨hk,this⟩]at h;have hn:t.id.toNat=k:=by omega
 rw[hn,hx]at h;simp[hb]at h
theorem LU{s:List Sl}{i v:Int}(h:Edge s i v):qm s i:=by
 obtain⟨k,x,e,hx,hb,_⟩:=h;exact⟨k,x,e,hx,hb⟩
theorem uh{s:List Sl}{i v:Int}(h:Fp s i v)(hb:¬qm s i):v=i:=by
 cases h with
 |refl=>rfl
 |step e _=>exact absurd (LU e) hb
theorem jG{t:Ty}{w:Int}(hk:t.kind=1)(h:ij t w):w=t.id:=by
 cases h with
 |var _=>rfl
 |arg q _ _=>exact absurd hk q
theorem Rg{s:List Sl}{rk:Int→Nat}(hr:∀i v,Edge s i v→rk v<rk i){i v:Int}(h:Fp s i v):rk v≤rk i:=by
 induction h with
 |refl=>omega
 |step e _ ih=>have:=hr _ _ e;omega
def Pz(s:List Sl)(j:Int)(out:List Int):Prop:=∀v,Fp s j v→¬qm s v→v∈out
def RT(s:List Sl)(t:Ty)(v:Int):Prop:=∃w,ij t w∧Fp s w v
theorem Pz.mono{s:List Sl}{j:Int}{out out':List Int}(h:Pz s j out)(ho:∀v∈out,v∈out'):Pz s j out':=fun v hv hb=>ho v (h v hv hb)
theorem LV{dn:List Bool}:∀v∈bT dn,∃p,v=AV.pv p:=by
 intro v hv;simp only[bT,List.mem_map]at hv;obtain⟨b,_,rfl⟩:=hv;exact⟨_,rfl⟩
theorem mh{dn:List Bool}:Py (bT dn):=⟨fun _ _=>l3 LV,bH LV,fun _=>qe LV⟩
theorem Rh{dn:List Bool}{i:Nat}(hi:i<dn.length)(b:Bool):aQ (bT dn) i [.pv (.bool b)]=bT (dn.set i b):=by
 have:(bT dn).length=dn.length:=by simp[bT]
 simp only[aQ,bT,List.length_cons,List.length_nil,Nat.zero_add];rw[←List.map_take,←List.map_drop,List.set_eq_take_append_cons_drop,if_pos hi];simp
theorem LW{dn:List Bool}{i j:Nat}(h:dn[j]?=some true):(dn.set i true)[j]?=some true:=by
 rw[List.getElem?_set];have hj:j<dn.length:=by obtain⟨h,_⟩:=List.getElem?_eq_some_iff.1 h;exact h
 by_cases e:i=j
 ·subst e;simp[hj]
 ·simp[e,h]
theorem A7{dn:List Bool}{i j:Nat}(h:(dn.set i true)[j]?=some true):i=j∨dn[j]?=some true:=by
 rw[List.getElem?_set]at h;by_cases e:i=j
 ·exact .inl e
 ·simp[e]at h;exact .inr h
structure Ud(s:dJ)(S:List Int)(t:Ty)(dn:List Bool)(out:List Int)(dn':List Bool)(out':List Int):Prop where
 yx:Rf s s.sl.length t (bT dn) out (bT dn') out'
 len:dn'.length=s.sl.length
 IG:lD S out'
 sub:∀v∈out,v∈out'
 mono:∀j:Nat,dn[j]?=some true→dn'[j]?=some true
 all:∀v,RT s.sl t v→¬qm s.sl v→v∈out'
 new:∀j:Nat,dn'[j]?=some true→dn[j]?=some true∨Pz s.sl j out'
structure WJ(s:dJ)(S:List Int)(t:Ty)(dn:List Bool)(out:List Int)(i:Nat)(dn':List Bool)(out':List Int):Prop where
 len:dn'.length=s.sl.length
 IG:lD S out'
 sub:∀v∈out,v∈out'
 mono:∀j:Nat,dn[j]?=some true→dn'[j]?=some true
 all:∀a∈t.args.take i,∀v,RT s.sl a v→¬qm s.sl v→v∈out'
 new:∀j:Nat,dn'[j]?=some true→dn[j]?=some true∨Pz s.sl j out'
theorem La{s:dJ}{S:List Int}{rk:Int→Nat}(hr:∀i v,Edge s.sl i v→rk v<rk i)(hO:∀x∈s.sl,x.ty.Ok)(hS:∀x∈s.sl,∀w,ij x.ty w→w∈S)(N:Nat) :
   ∀t:Ty,t.Ok→(∀w,ij t w→rk w<N)→(∀w,ij t w→w∈S)→∀(dn:List Bool) (out:List Int),dn.length=s.sl.length→lD S out→(∀j:Nat,dn[j]?=some true→RT s.sl t j→Pz s.sl j out) →
     ∃dn' out',Ud s S t dn out dn' out':=by
 induction N using Nat.strongRecOn with
 |ind N IH=>
   intro t
   refine Ty.dH (p:=fun t=>t.Ok→(∀w,ij t w→rk w<N)→(∀w,ij t w→w∈S)→∀(dn:List Bool) (out:List Int),dn.length=s.sl.length→lD S out→(∀j:Nat,dn[j]?=some true→RT s.sl t j→Pz s.sl j out) →
     ∃dn' out',Ud s S t dn out dn' out') ?_ t
   intro t ih ht hN hw dn out hd hc hpre;by_cases hk:t.kind=1
   · have oc:ij t t.id:=.var hk;cases hb:iy s.sl t with
     |none=>
       have hf:=jq hk hb;have e:=T9 (n:=s.sl.length) hk hb hc (mh (dn:=dn))
       have ea:(if t.id∈out then out else out++[t.id])=ej out t:=by
         unfold ej;by_cases q:t.id∈out<;>simp[q,hk]
       rw[ea]at e
       have hs:∀v∈out,v∈ej out t:=by
         intro v hv;unfold ej;split
         ·simp[hv]
         ·exact hv
       refine⟨dn,ej out t,e,hd,hc.add (fun _=>hw _ oc),hs,fun _ h=>h,?_,fun _ h=>.inl h⟩
       rintro v ⟨w,ho,hv⟩ _
       have h1:=jG hk ho;subst h1;rw[uh hv hf];unfold ej;by_cases q:t.id∈out<;>simp[q,hk]
     |some x=>
       obtain⟨_,i,hi,hx,hbd⟩:=gf hb;have hl:i<s.sl.length:=by obtain⟨h,_⟩:=List.getElem?_eq_some_iff.1 hx;exact h
       have hTl:(bT dn).length=s.sl.length:=(by simp[bT,hd]);obtain⟨b,hdb⟩:=aV (l:=dn) (i:=i) (by omega);have hTd:(bT dn)[i]?=some (.pv (.bool b)):=(by simp[bT,hdb]);have II:∀w,ij x.ty w→Edge s.sl t.id w:=fun w ho=>⟨i,x,hi,hx,hbd,ho⟩
       cases b with
       |true=>
         have e:=T_ (out:=out) hi hk hx hb (mh (dn:=dn)) hTl hl hTd;refine⟨dn,out,e,hd,hc,fun _ h=>h,fun _ h=>h,?_,fun _ h=>.inl h⟩
         rintro v ⟨w,ho,hv⟩ hnb
         have h1:=jG hk ho;subst h1;have:=hpre i hdb ⟨t.id,oc,by rw[hi];exact .refl _⟩;rw[hi]at hv;exact this v hv hnb
       |false=>
         have hlt:rk t.id<N:=hN _ oc
         obtain⟨dn',out',P⟩:=IH (rk t.id) hlt x.ty (hO x (aR hx)) (fun w ho=>hr _ _ (II w ho)) (hS x (aR hx)) (dn.set i true) out (by simp[hd]) hc (by
           intro j hj ⟨w,ho,hv⟩;have hlt2:rk j<rk t.id:=by have:=Rg hr hv;have:=hr _ _ (II w ho);omega
           rcases A7 hj with rfl|hj
           ·rw[hi]at hlt2;omega
           ·exact hpre j hj ⟨t.id,oc,.step (II w ho) hv⟩)
         have e:=Ua hi hk hx hb (mh (dn:=dn)) (mh (dn:=dn.set i true)) (mh (dn:=dn')) hTl hl hTd (Rh (by omega) true) P.yx
         have fin:Pz s.sl t.id out':=by
           intro v hv hnb;cases hv with
           |refl=>exact absurd ⟨i,x,hi,hx,hbd⟩ hnb
           |step e2 hv=>
             obtain⟨k,y,e3,hy,_,ho⟩:=e2;have:k=i:=by omega
             subst this;rw[hx]at hy;cases hy;exact P.all v ⟨_,ho,hv⟩ hnb
         refine⟨dn',out',e,P.len,P.IG,P.sub,fun j h=>P.mono j (LW h),?_,?_⟩
         · rintro v ⟨w,ho,hv⟩ hnb
           have h1:=jG hk ho;subst h1;exact fin v hv hnb
         · intro j hj;rcases P.new j hj with h|h
           · rcases A7 h with rfl|h
             ·exact .inr (by rw[←hi];exact fin)
             ·exact .inl h
           ·exact .inr h
   · obtain⟨T',out',e,dn',rfl,h⟩:=Uc (s:=s) (n:=s.sl.length) ht hk (fun i T o=>∃d,T=bT d∧WJ s S t dn out i d o) (by rintro i T o ⟨d,rfl,_⟩;exact mh) (by
       rintro i a ha T o ⟨d,rfl,h⟩
       have hm:=aR ha
       obtain⟨d',o',P⟩:=ih a hm (ht.ga a hm) (fun w ho=>hN w (.arg hk hm ho)) (fun w ho=>hw w (.arg hk hm ho)) d o h.len h.IG (by
         intro j hj ⟨w,ho,hv⟩;rcases h.new j hj with hj|hj
         ·exact (hpre j hj ⟨w,.arg hk hm ho,hv⟩).mono h.sub
         ·exact hj)
       refine⟨bT d',o',P.yx,d',rfl,P.len,P.IG,fun v hv=>P.sub v (h.sub v hv),fun j hj=>P.mono j (h.mono j hj),?_,?_⟩
       · intro b hb v hv hnb;rw[List.take_add_one,ha]at hb;simp at hb;rcases hb with hb|rfl
         ·exact P.sub v (h.all b hb v hv hnb)
         ·exact P.all v hv hnb
       · intro j hj;rcases P.new j hj with hj|hj
         · rcases h.new j hj with hj|hj
           ·exact .inl hj
           ·exact .inr (hj.mono P.sub)
         ·exact .inr hj) ⟨dn,rfl,hd,hc,fun _ h=>h,fun _ h=>h,by simp,fun _ h=>.inl h⟩
     refine⟨dn',out',e,h.len,h.IG,h.sub,h.mono,?_,h.new⟩
     rintro v ⟨w,ho,hv⟩ hnb
     cases ho with
     |var q=>exact absurd q hk
     |arg _ ha ho=>exact h.all _ (by simpa using ha) v ⟨w,ho,hv⟩ hnb
def ev:List Ar→List Ex→List Ar
 |a::as,x::xs=>⟨a.pos,a.dk,a.vars,x⟩::ev as xs
 |as,_=>as
theorem ko:∀{as:List Ar} {xs:List Ex},(ev as xs).length=as.length
 |[],xs=>by cases xs<;>rfl
 |a::as,[]=>rfl
 |a::as,x::xs=>by simp[ev,ko (as:=as) (xs:=xs)]
def Ex.oo(e:Ex)(c:List Ex):Ex:=if c.length=e.kids.length+e.aE.length then ⟨e.kind,e.pos,e.name,e.num,c.take e.kids.length,ev e.aE (c.drop e.kids.length),e.ty⟩ else e
theorem Ea{l:List Ar}:((eh (aN Ar.cells l)).bind (dK 14 true l.length)).map PV.au=some (.au (l.map Ar.pv)):=mT fF
theorem LX{l:List Ar}:((l.map Ar.pv).flatMap aX).map AV.pv=aN Ar.cells l:=mU fF
theorem LY{xs:List Ex}:ev [] xs=[]:=by cases xs<;>rfl
def Eb(cs:List df)(s:br):Option Nat:=bP (fun c=>decide (c.name=s)) cs
def iR:List Dt→br→Nat→Option (Nat×Nat)
 |[],_,_=>none
 |d::r,s,i=>match Eb d.cons s with
   |some k=>some (i,k)
   |none=>iR r s (i+1)
def rF:Option (Nat×Nat)→List PV
 |some (i,k)=>[vI i,vI k,.bool true]
 |none=>[vI 0,vI 0,.bool false]
theorem PA{ds:List Dt}{s:br}{i:Nat}{cs:List df}(hS:Sm cs):∀(n k:Nat),cs.length-k=n→k≤cs.length →
   cl AP g190L1 ⟨[(1,.pv (.str s)),(7,.pv (vI i)),(11,.pv (.au (ds.map Dt.pv))),(12,.pv (vI ds.length)),(13,.pv (vI i)),(19,.pv (.au (cs.map df.pv))),(20,.pv (vI cs.length)),(21,.pv (vI k))],[],[],[]⟩ =
     match bP (fun c=>decide (c.name=s)) (cs.drop k) with
     |some j=>some (.ret,⟨[(4,.pv (vI i)),(5,.pv (vI (k+j:Nat))),(6,.pv (.bool true))],[],[],[]⟩)
     |none=>some (.exit 2,⟨[(1,.pv (.str s)),(7,.pv (vI i)),(11,.pv (.au (ds.map Dt.pv))),(12,.pv (vI ds.length)),(13,.pv (vI i)),(19,.pv (.au (cs.map df.pv))),(20,.pv (vI cs.length)),(21,.pv (vI cs.length)),(22,.pv (.bool false))],[],[],[]⟩)
 |0,k,hn,hk=>by
   have:k=cs.length:=by omega
   subst this;rw[g190L1e];simp[g190B1,bP]
 |n+1,k,hn,hk=>by
   have hk:k<cs.length:=(by omega);obtain⟨x,hx⟩:=aV hk;unfold Sm at hS;have ih:=PA (ds:=ds) (s:=s) (i:=i) hS n (k+1) (by omega) (by omega);rw[g190L1e]at ih⊢;rw[bh hx];simp at ih;by_cases e:x.name=s
   ·simp (disch:=omega) [-getElem?_pos,g190B1,hx,hk,e,bP]
   · simp (disch:=omega) [-getElem?_pos,g190B1,hx,hk,e,bP,ah];rw[g190L1e];simp[ih];cases bP (fun c=>decide (c.name=s)) (cs.drop (k+1)) with
     |none=>rfl
     |some j=>simp;omega
theorem Ue{ds:List Dt}(hS:Sm ds)(hc:∀d∈ds,Sm d.cons)(s:br):∀(n i:Nat),ds.length-i=n→i≤ds.length →
   cl AP g190L0 ⟨[(1,.pv (.str s)),(11,.pv (.au (ds.map Dt.pv))),(12,.pv (vI ds.length)),(13,.pv (vI i))],[],[],[]⟩ =
     match iR (ds.drop i) s i with
     |some q=>some (.ret,⟨[(4,.pv (vI q.1)),(5,.pv (vI q.2)),(6,.pv (.bool true))],[],[],[]⟩)
     |none=>some (.exit 0,⟨[(1,.pv (.str s)),(11,.pv (.au (ds.map Dt.pv))),(12,.pv (vI ds.length)),(13,.pv (vI ds.length)),(14,.pv (.bool false))],[],[],[]⟩)
 |0,i,hn,hi=>by
   have:i=ds.length:=by omega
   subst this;rw[g190L0e];simp[g190B0,iR]
 |n+1,i,hn,hi=>by
   have hi:i<ds.length:=(by omega);obtain⟨d,hd⟩:=aV hi;unfold Sm at hS;have ih:=Ue hS hc s n (i+1) (by omega) (by omega);have h:=PA (ds:=ds) (s:=s) (i:=i) (hc d (aR hd)) _ 0 rfl (by omega);rw[g190L1e]at h;rw[g190L0e]at ih⊢;rw[bh hd];simp at ih h;cases e:bP (fun c=>decide (c.name=s)) d.cons with
   |some k=>
     rw[e]at h;simp at h;simp (disch:=omega) [-getElem?_pos,g190B0,hd,hi,iR,Eb,e,g190L1e,h]
   |none=>
     rw[e]at h;simp at h;simp (disch:=omega) [-getElem?_pos,g190B0,hd,hi,iR,Eb,e,g190L1e,h,ah];rw[g190L0e];simp[ih]
theorem c190{ds:List Dt}(hS:Sm ds)(hc:∀d∈ds,Sm d.cons){s:br}:(aC AP).p 190 [.au (ds.map Dt.pv),.str s]=some (rF (iR ds s 0)):=by
 have h:=Ue hS hc s _ 0 rfl (by omega);rw[ae (af:=g190) rfl rfl (by decide)];rw[g190L0e]at h;simp at h;cases e:iR ds s 0 with
 |none=>rw[e]at h;simp at h;simp[g190,g190L0e,h,rF]
 |some q=>rw[e]at h;simp at h;simp[g190,g190L0e,h,rF]
theorem PB{ds:List Dt}{s:br}{i:Nat}{d:Dt}(hd:ds[i]?=some d)(hS:Sm d.cons):∀(n k:Nat),d.cons.length-k=n→k≤d.cons.length →
   cl AP g191L1 ⟨[(0,.pv (.au (ds.map Dt.pv))),(1,.pv (.str s)),(7,.pv (vI i)),(8,.pv (vI k))],[],[],[]⟩ =
     match bP (fun c=>decide (c.name=s)) (d.cons.drop k) with
     |some j=>some (.ret,⟨[(4,.pv (vI i)),(5,.pv (vI (k+j:Nat))),(6,.pv (.bool true))],[],[],[]⟩)
     |none=>some (.exit 2,⟨[(0,.pv (.au (ds.map Dt.pv))),(1,.pv (.str s)),(7,.pv (vI i)),(8,.pv (vI d.cons.length)),(22,.pv (.bool false))],[],[],[]⟩)
 |0,k,hn,hk=>by
   have:k=d.cons.length:=by omega
   subst this;rw[g191L1e];simp[-getElem?_pos,g191B1,bP,hd]
 |n+1,k,hn,hk=>by
   have hk:k<d.cons.length:=(by omega);obtain⟨x,hx⟩:=aV hk;unfold Sm at hS;have ih:=PB (s:=s) hd hS n (k+1) (by omega) (by omega);rw[g191L1e]at ih⊢;rw[bh hx];simp at ih;by_cases e:x.name=s
   ·simp (disch:=omega) [-getElem?_pos,g191B1,hd,hx,hk,e,bP]
   · simp (disch:=omega) [-getElem?_pos,g191B1,hd,hx,hk,e,bP,ah];rw[g191L1e];simp[ih];cases bP (fun c=>decide (c.name=s)) (d.cons.drop (k+1)) with
     |none=>rfl
     |some j=>simp;omega
theorem Uf{ds:List Dt}(hS:Sm ds)(hc:∀d∈ds,Sm d.cons)(s:br):∀(n i:Nat),ds.length-i=n→i≤ds.length →
   cl AP g191L0 ⟨[(0,.pv (.au (ds.map Dt.pv))),(1,.pv (.str s)),(7,.pv (vI i))],[],[],[]⟩ =
     match iR (ds.drop i) s i with
     |some q=>some (.ret,⟨[(4,.pv (vI q.1)),(5,.pv (vI q.2)),(6,.pv (.bool true))],[],[],[]⟩)
     |none=>some (.exit 0,⟨[(0,.pv (.au (ds.map Dt.pv))),(1,.pv (.str s)),(7,.pv (vI ds.length)),(12,.pv (.bool false))],[],[],[]⟩)
 |0,i,hn,hi=>by
   have:i=ds.length:=by omega
   subst this;rw[g191L0e];simp[g191B0,iR]
 |n+1,i,hn,hi=>by
   have hi:i<ds.length:=(by omega);obtain⟨d,hd⟩:=aV hi;unfold Sm at hS;have ih:=Uf hS hc s n (i+1) (by omega) (by omega);have h:=PB (s:=s) hd (hc d (aR hd)) _ 0 rfl (by omega);rw[g191L1e]at h;rw[g191L0e]at ih⊢;rw[bh hd];simp at ih h;cases e:bP (fun c=>decide (c.name=s)) d.cons with
   |some k=>
     rw[e]at h;simp at h;simp (disch:=omega) [-getElem?_pos,g191B0,hd,hi,iR,Eb,e,g191L1e,h]
   |none=>
     rw[e]at h;simp at h;simp (disch:=omega) [-getElem?_pos,g191B0,hd,hi,iR,Eb,e,g191L1e,h,ah];rw[g191L0e];simp[ih]
theorem c191{ds:List Dt}(hS:Sm ds)(hc:∀d∈ds,Sm d.cons){s:br}:(aC AP).p 191 [.au (ds.map Dt.pv),.str s]=some (rF (iR ds s 0)):=by
 have h:=Uf hS hc s _ 0 rfl (by omega);rw[ae (af:=g191) rfl rfl (by decide)];rw[g191L0e]at h;simp at h;cases e:iR ds s 0 with
 |none=>rw[e]at h;simp at h;simp[g191,g191L0e,h,rF]
 |some q=>rw[e]at h;simp at h;simp[g191,g191L0e,h,rF]
theorem Om{cs:List df}{s:br}{k:Nat}(h:Eb cs s=some k):∃c,cs[k]?=some c∧c.name=s:=by
 unfold Eb at h;induction cs generalizing k with
 |nil=>simp[bP]at h
 |cons a r ih=>
   simp only[bP]at h;split at h
   ·rename_i e;cases h;exact⟨a,rfl,by simpa using e⟩
   ·simp only[Option.map_eq_some_iff]at h;obtain⟨j,hj,rfl⟩:=h;obtain⟨c,h1,h2⟩:=ih hj;exact⟨c,by simpa using h1,h2⟩
theorem yc{s:br}:∀{ds:List Dt} {n:Nat} {q:Nat×Nat},iR ds s n=some q→n≤q.1∧∃d c,ds[q.1-n]?=some d∧d.cons[q.2]?=some c∧c.name=s
 |[],n,q,h=>by simp[iR]at h
 |d::r,n,q,h=>by
   simp only[iR]at h;split at h
   ·rename_i k e;cases h;obtain⟨c,h1,h2⟩:=Om e;exact⟨Nat.le_refl _,d,c,by simp,h1,h2⟩
   ·obtain⟨h1,d',c,h2,h3,h4⟩:=yc h;refine⟨by omega,d',c,?_,h3,h4⟩;rw[show q.1-n=(q.1-(n+1))+1 from by omega];simpa using h2
def po(d:Dt)(as:List Ar):Bool:=decide (d.cons.map df.name=as.map cT.dk)
def ui(ds:List Dt)(as:List Ar):Option Nat:=bP (fun d=>po d as) ds
def A8:Option Nat→List PV
 |some i=>[vI i,.bool true]
 |none=>[vI 0,.bool false]
theorem On:R4 df.pv (fun c:df=>[vI c.pos,.str c.name,.au (c.fields.map Ty.pv)]) 3:=⟨fun _=>rfl,fun _=>rfl,fun _=>by simp⟩
theorem Ri:R4 Ar.pv Ar.cells 14:=⟨fun _=>rfl,fun x=>fF.len x,fun x=>by simp[Ar.cells,Ex.bm]⟩
theorem uj:∀{cs:List df} {as:List Ar},lC (fun (c:df) (a:Ar)=>decide (c.name=a.dk)) cs as=decide (cs.map df.name=as.map cT.dk)
 |[],[]=>by simp[lC]
 |c::cs,a::as=>by simp only[lC,uj (cs:=cs) (as:=as),List.map_cons,List.cons.injEq,Bool.decide_and]
 |[],_::_=>by simp[lC]
 |_::_,[]=>by simp[lC]
theorem Rj{sh:Sh}(hq:aL sh){cs:List df}:Lr (.fn 419 []) sh (fun c:df=>[vI c.pos,.str c.name,.au (c.fields.map Ty.pv)]) Ar.cells (fun (c:df) (a:Ar)=>decide (c.name=a.dk)) cs:=by
 intro x _ y
 have c:(aC AP).i 419 [.pv x.pv,.pv (Ar.pv y)] sh []=some ([.pv (.bool (decide (x.name=y.dk)))],sh,[]):=by
   rw[aD (af:=g419) rfl (by simp[g419])];by_cases e:x.name=y.dk<;>simp[g419,hq.norm,e]
 simp at c;simp[Ar.cells,Ex.bm,hq.norm,hq.shift,c]
theorem c418{sh:Sh}(hq:aL sh){cs:List df}(hS:Sm cs){as:List Ar}:(aC AP).i 418 [.pv (.au (cs.map df.pv)),.pv (.au (as.map Ar.pv)),.fn 419 []] sh []=some ([.pv (.bool (decide (cs.map df.name=as.map cT.dk)))],sh,[]):=by
 rw[←uj];exact WG On Ri (z1:=[vI 0,.str [],.au []]) (z2:=[vI 0,.str [],.au [],vI 0,vI 0,.str [],vI 0,.au [],.au [],vI 0,.str [],vI 0,vI 0,.au []]) rfl rfl (m:=418) rfl hS hq rfl (Rj hq)
theorem Rk{sh:Sh}(hq:aL sh){as:List Ar}{b:Nat}(hb:sh[b]?=some (some [.pv (.au (as.map Ar.pv))])){ds:List Dt}(hc:∀d∈ds,Sm d.cons):x5 (.fn 417 [.aW b 0]) sh Dt.pv (fun d=>po d as) ds:=by
 intro d hd;have k:=c418 hq (hc d hd) (as:=as)
 have c:(aC AP).i 417 [.pv d.pv,.aW b 0] sh []=some ([.pv (.bool (po d as))],sh,[]):=by
   rw[aD (af:=g417) rfl (by simp[g417])];simp[-getElem?_pos,g417,hq.norm,hq.shift,hb,k,po]
 simp at c;simp[hq.norm,hq.shift,c]
theorem c407{ds:List Dt}(hS:Sm ds)(hc:∀d∈ds,Sm d.cons){as:List Ar}:(aC AP).p 407 [.au (ds.map Dt.pv),.au (as.map Ar.pv)]=some (A8 (ui ds as)):=by
 have hq:aL [some [AV.pv (.au (as.map Ar.pv))]]:=aL.one (by intro v hv;simp at hv;exact⟨_,hv⟩);have k:=Ti Tg (k:=416) rfl hS hq (g:=417) (cap:=[.aW 0 0]) rfl (Rk hq (b:=0) rfl hc);rw[ae (af:=g407) rfl rfl (by decide)];unfold ui;cases e:bP (fun d=>po d as) ds with
 |none=>rw[e]at k;simp[jN]at k;simp[g407,k,A8]
 |some i=>rw[e]at k;simp[jN]at k;simp[g407,k,A8]
abbrev IJ:=Int×Int
def fP(f:IJ):PV:=.agg [vI f.1,vI f.2]
@[simp] theorem KP(f:IJ):fP f=.agg [vI f.1,vI f.2]:=rfl
def findF(ds:List Dt):List Ar→Option IJ
 |[]=>none
 |a::r=>match iR ds a.dk 0 with
   |none=>some (9,a.pos)
   |some _=>findF ds r
noncomputable def uk:List br→List br→Bool
 |_,[]=>false
 |p,x::r=>decide (x∈p) || uk (p++[x]) r
noncomputable def Jd:List df→List Ar→IJ
 |c::cs,a::as=>if a.vars.length≠c.fields.length then (8,a.pos) else if uk [] a.vars=true then (6,a.pos) else Jd cs as
 |_,_=>(0,0)
noncomputable def um(ds:List Dt)(e:Ex):IJ:=match findF ds e.aE with
 |some f=>f
 |none=>match ui ds e.aE with
   |none=>(10,e.pos)
   |some i=>match ds[i]? with
     |some d=>Jd d.cons e.aE
     |none=>(0,0)
abbrev m2(f:IJ):List AV:=[.pv (vI f.1),.pv (vI f.2)]
theorem LZ{ds:List Dt}{as:List Ar}{i:Nat}(h:ui ds as=some i):∃d,ds[i]?=some d∧as.length=d.cons.length:=by
 unfold ui at h
 have key:∀{l:List Dt} {k:Nat},bP (fun d=>po d as) l=some k→∃d,l[k]?=some d∧po d as=true:=by
   intro l;induction l with
   |nil=>intro k h;simp[bP]at h
   |cons x r ih=>
     intro k h;simp only[bP]at h;split at h
     ·rename_i e;cases h;exact⟨x,rfl,e⟩
     · cases h':bP (fun d=>po d as) r with
       |none=>rw[h']at h;simp at h
       |some k'=>rw[h']at h;simp at h;subst h;simpa using ih h'
 obtain⟨d,h1,h2⟩:=key h;refine⟨d,h1,?_⟩;unfold po at h2;have:=congrArg List.length (of_decide_eq_true h2);simpa using this.symm
theorem uo:∀{cs:List df} {as:List Ar},(Jd cs as).1=0→Jd cs as=(0,0)
 |[],_,_=>by simp[Jd]
 |_::_,[],_=>by simp[Jd]
 |c::cs,a::as,h=>by
   simp only[Jd]at h⊢;split at h
   ·simp at h
   · rename_i h1;rw[if_neg h1];split at h
     ·simp at h
     ·rename_i h2;rw[if_neg h2];exact uo h
theorem PC{ds:List Dt}(hS:Sm ds)(hc:∀d∈ds,Sm d.cons){e:Ex}(hA:e.aE.length≤1000):∀(n i:Nat),e.aE.length-i=n→i≤e.aE.length →
   cl AP g415L0 ⟨[(0,.pv (.au (ds.map Dt.pv))),(3,.az 3 0),(4,.az 4 0),(17,.pv (.au (e.aE.map Ar.pv))),(18,.pv (vI e.aE.length)),(19,.pv (vI i))],[(3,e.cl),(4,m2 (0,0))],[],[]⟩ =
     match findF ds (e.aE.drop i) with
     |some f=>some (.ret,⟨[(4,.az 4 0)],[(4,m2 f)],[],[]⟩)
     |none=>some (.exit 0,⟨[(0,.pv (.au (ds.map Dt.pv))),(3,.az 3 0),(4,.az 4 0),(17,.pv (.au (e.aE.map Ar.pv))),(18,.pv (vI e.aE.length)),(19,.pv (vI e.aE.length)),(20,.pv (.bool false))],[(3,e.cl),(4,m2 (0,0))],[],[]⟩)
 |0,i,hn,hi=>by
   have:i=e.aE.length:=by omega
   subst this;rw[g415L0e];simp[g415B0,findF]
 |n+1,i,hn,hi=>by
   have hi:i<e.aE.length:=(by omega);obtain⟨a,ha⟩:=aV hi;have ih:=PC hS hc hA n (i+1) (by omega) (by omega);have k:=c190 hS hc (s:=a.dk);rw[g415L0e]at ih⊢;rw[bh ha];simp only[findF];simp at ih;cases q:iR ds a.dk 0 with
   |none=>
     rw[q]at k;simp[rF]at k;simp (disch:=omega) [-getElem?_pos,g415B0,hi,ha,k]
   |some r=>
     rw[q]at k;simp[rF]at k;simp (disch:=omega) [-getElem?_pos,g415B0,hi,ha,k,ah];rw[g415L0e];simp[ih]
@[simp] def Ar.cl(a:Ar):List AV:=.pv (vI a.pos)::.pv (.str a.dk)::.pv (.au (a.vars.map .str))::a.body.cl
theorem PD{ds:List Dt}{BC i:Nat}{as:List Ar}{a:Ar}(hv:a.vars.length≤1000):∀(n k:Nat),a.vars.length-k=n→k≤a.vars.length →
   cl AP g415L2 ⟨[(0,.pv (.au (ds.map Dt.pv))),(4,.az 4 0),(10,.pv (vI BC)),(13,.az 13 0),(50,.pv (.au (as.map Ar.pv))),(51,.pv (vI as.length)),(52,.pv (vI i)),(75,.pv (.au (a.vars.map .str))),(76,.pv (vI a.vars.length)),(77,.pv (vI k))],[(4,m2 (0,0)),(13,Ar.cl a)],[],[]⟩ =
     if uk (a.vars.take k) (a.vars.drop k)=true then some (.ret,⟨[(4,.az 4 0)],[(4,m2 (6,a.pos))],[],[]⟩)
     else some (.exit 4,⟨[(0,.pv (.au (ds.map Dt.pv))),(4,.az 4 0),(10,.pv (vI BC)),(13,.az 13 0),(50,.pv (.au (as.map Ar.pv))),(51,.pv (vI as.length)),(52,.pv (vI i)),(75,.pv (.au (a.vars.map .str))),(76,.pv (vI a.vars.length)),(77,.pv (vI a.vars.length)),(78,.pv (.bool false))],[(4,m2 (0,0)),(13,Ar.cl a)],[],[]⟩)
 |0,k,hn,hk=>by
   have:k=a.vars.length:=by omega
   subst this;rw[g415L2e];simp[g415B2,uk]
 |n+1,k,hn,hk=>by
   have hk:k<a.vars.length:=(by omega);obtain⟨x,hx⟩:=aV hk;have ih:=PD (ds:=ds) (BC:=BC) (i:=i) (as:=as) hv n (k+1) (by omega) (by omega);have k1:=c214 (s:=a.vars.take k) (by unfold Sm;simp;omega) (y:=x);have hsl:=T7 (sz:=1) (l:=a.vars.map PV.str) (k:=.i64) (h:=k) (by omega) (by simp;omega);simp at hsl;rw[List.map_take]at k1;rw[List.take_add_one,hx]at ih;simp only[Option.toList_some]at ih;rw[g415L2e]at ih⊢;rw[bh hx];simp at ih;by_cases q:x∈a.vars.take k
   ·have hq:uk (a.vars.take k) (x::a.vars.drop (k+1))=true:=(by simp[uk,q]);rw[hq];rw[decide_eq_true q]at k1;simp (disch:=omega) [-getElem?_pos,g415B2,hk,hx,hsl,k1]
   ·have hq:uk (a.vars.take k) (x::a.vars.drop (k+1))=uk (a.vars.take k++[x]) (a.vars.drop (k+1)):=(by simp[uk,q]);rw[hq];rw[decide_eq_false q]at k1;simp (disch:=omega) [-getElem?_pos,g415B2,hk,hx,hsl,k1,ah];rw[g415L2e];simp[ih];by_cases q3:uk (a.vars.take k++[x]) (a.vars.drop (k+1))=true<;>simp[q3]
theorem PE{ds:List Dt}{BC:Nat}{d:Dt}(hd:ds[BC]?=some d){as:List Ar}(hA:as.length≤1000)(hv:∀a∈as,a.vars.length≤1000)(hl:as.length=d.cons.length):∀(n i:Nat),as.length-i=n→i≤as.length →
   cl AP g415L1 ⟨[(0,.pv (.au (ds.map Dt.pv))),(4,.az 4 0),(10,.pv (vI BC)),(50,.pv (.au (as.map Ar.pv))),(51,.pv (vI as.length)),(52,.pv (vI i))],[(4,m2 (0,0))],[],[]⟩ =
     if (Jd (d.cons.drop i) (as.drop i)).1≠0 then some (.ret,⟨[(4,.az 4 0)],[(4,m2 (Jd (d.cons.drop i) (as.drop i)))],[],[]⟩)
     else some (.exit 2,⟨[(0,.pv (.au (ds.map Dt.pv))),(4,.az 4 0),(10,.pv (vI BC)),(50,.pv (.au (as.map Ar.pv))),(51,.pv (vI as.length)),(52,.pv (vI as.length)),(53,.pv (.bool false))],[(4,m2 (0,0))],[],[]⟩)
 |0,i,hn,hi=>by
   have:i=as.length:=by omega
   subst this;rw[g415L1e,l0 (l:=d.cons) (by omega),l0 (l:=as) (by omega)];simp[g415B1,Jd]
 |n+1,i,hn,hi=>by
   have hi:i<as.length:=(by omega);have hi2:i<d.cons.length:=(by omega);have hil:=(List.getElem?_eq_some_iff.1 hd).1;obtain⟨a,ha⟩:=aV hi;obtain⟨c,hc⟩:=aV hi2;have ih:=PE hd hA hv hl n (i+1) (by omega) (by omega);have h:=PD (ds:=ds) (BC:=BC) (i:=i) (as:=as) (hv a (aR ha)) _ 0 rfl (by omega);rw[List.take_zero,List.drop_zero]at h;rw[g415L2e]at h;rw[g415L1e]at ih⊢;rw[bh ha,bh hc];simp only[Jd];simp at ih h;by_cases q:a.vars.length=c.fields.length
   · by_cases q2:uk [] a.vars=true
     ·simp[q2,q]at h;simp (disch:=omega) [-getElem?_pos,g415B1,hi,hi2,hil,ha,hc,hd,q,q2,g415L2e,h]
     ·simp[q2,q]at h;simp (disch:=omega) [-getElem?_pos,g415B1,hi,hi2,hil,ha,hc,hd,q,q2,g415L2e,h,ah];rw[g415L1e];simp[ih]
   ·have q':¬(a.vars.length:Int)=c.fields.length:=(by omega);simp (disch:=omega) [-getElem?_pos,g415B1,hi,hi2,hil,ha,hc,hd,q,q']
theorem c415{ds:List Dt}(hS:Sm ds)(hc:∀d∈ds,Sm d.cons){e:Ex}(hO:e.Ok):(aC AP).p 415 [.au (ds.map Dt.pv),e.pv]=some [fP (um ds e)]:=by
 have hA:=hO.a;have h:=PC hS hc hA _ 0 rfl (by omega);rw[ae (af:=g415) rfl rfl (by decide)];unfold um;rw[List.drop_zero]at h;cases q:findF ds e.aE with
 |some f=>
   rw[q]at h;simp at h;simp[g415,h]
 |none=>
   rw[q]at h;simp at h;have k:=c407 hS hc (as:=e.aE);cases q2:ui ds e.aE with
   |none=>
     rw[q2]at k;simp[A8]at k;simp[g415,h,k]
   |some i=>
     rw[q2]at k;simp[A8]at k;obtain⟨d,hd,hl⟩:=LZ q2;have h2:=PE hd hA hO.v hl _ 0 rfl (by omega);rw[List.drop_zero,List.drop_zero]at h2;simp only[hd];by_cases q3:(Jd d.cons e.aE).1=0
     ·have:=uo q3;rw[this]at h2⊢;simp at h2;simp[g415,h,k,h2]
     ·simp[q3]at h2;simp[g415,h,k,h2]
theorem c409{a b:List br}(h:a.length+b.length≤1000000000000):(aC AP).p 409 [.au (a.map .str),.au (b.map .str)]=some [.au ((a++b).map .str)]:=by
 rw[ae (af:=g409) rfl rfl (by decide)];have h1:a.length*16≤140737488355328:=by omega
 have h2:(a.length+b.length)*16≤140737488355328:=by omega
 have h3:b.length*16≤140737488355328:=by omega
 by_cases ha:a=[]
 · subst ha;by_cases hb:b=[]
   ·subst hb;simp[g409]
   ·simp[g409,hb,h3]
 · by_cases hb:b=[]
   ·subst hb;simp[g409,ha,h1]
   ·simp[g409,ha,hb,h1,h2]
inductive Ex.Je (P:Ex→Prop):Ex→Prop
 |mk {e:Ex}:P e→(∀x∈e.ch,Ex.Je P x)→Ex.Je P e
theorem Ex.Je.h{P:Ex→Prop}{e:Ex}(h:e.Je P):P e:=by cases h;assumption
theorem Ex.Je.c{P:Ex→Prop}{e:Ex}(h:e.Je P):∀x∈e.ch,x.Je P:=by cases h;assumption
inductive Ex.uq:Nat→Ex→Prop
 |mk {n:Nat} {e:Ex}:(∀x∈e.ch,Ex.uq n x)→Ex.uq (n+1) e
theorem Ex.uq.c{n:Nat}{e:Ex}(h:Ex.uq (n+1) e):∀x∈e.ch,Ex.uq n x:=by cases h;assumption
noncomputable def kq(ds:List Dt)(names:List br)(e:Ex):IJ:=
 if e.kind=1 then (if e.name∈names then (0,0) else (9,e.pos))
 else if e.kind=2 then (if (iR ds e.name 0).isSome then (0,0) else (9,e.pos))
 else if e.kind=8 then um ds e
 else if e.kind=9 then (if e.ty.formed ds []=0 then (0,0) else (e.ty.formed ds [],e.pos))
 else (0,0)
def yy(f:Nat→Ex→IJ):Nat→List Ex→IJ
 |_,[]=>(0,0)
 |i,x::r=>if (f i x).1≠0 then f i x else yy f (i+1) r
theorem v_{f g:Nat→Ex→IJ}:∀{l:List Ex} {i:Nat},(∀i,∀x∈l,f i x=g i x)→yy f i l=yy g i l
 |[],_,_=>rfl
 |x::r,i,h=>by
   simp only[yy];rw[h i x (by simp),v_ (l:=r) fun i y hy=>h i y (by simp[hy])]
theorem Ex.Oo{e x:Ex}(h:x∈e.ch):SizeOf.sizeOf x<SizeOf.sizeOf e:=by
 rw[Ex.ch,List.mem_append,List.mem_map]at h;cases e;rcases h with h|⟨a,ha,rfl⟩
 ·have:=_root_.List.sizeOf_lt_of_mem h;simp at *;omega
 ·have:=_root_.List.sizeOf_lt_of_mem ha;have:=cT.qh a;simp at *;omega
open Classical in
noncomputable def Ex.aN(ds:List Dt)(e:Ex)(names:List br):IJ:=
 if (kq ds names e).1≠0 then kq ds names e
 else yy (fun i x=>if _h:x∈e.ch then Ex.aN ds x (names++ia e i) else (0,0)) 0 e.ch
termination_by e
decreasing_by exact Ex.Oo _h
theorem Ex.L0(ds:List Dt)(e:Ex)(names:List br):e.aN ds names=if (kq ds names e).1≠0 then kq ds names e else yy (fun i x=>x.aN ds (names++ia e i)) 0 e.ch:=by
 rw[Ex.aN];split
 ·rfl
 ·exact v_ fun i x hx=>by rw[dif_pos hx]
theorem Ec{ds:List Dt}{e:Ex}(h:(um ds e).1=0):um ds e=(0,0):=by
 unfold um at h⊢
 have hf:∀{as:List Ar} {f:IJ},findF ds as=some f→f.1=9:=by
   intro as;induction as with
   |nil=>intro f h;simp[findF]at h
   |cons a r ih=>
     intro f h;simp only[findF]at h;split at h
     ·cases h;rfl
     ·exact ih h
 cases q:findF ds e.aE with
 |some f=>rw[q]at h;simp only at h;rw[hf q]at h;cases h
 |none=>
   rw[q]at h;simp only at h⊢;cases q2:ui ds e.aE with
   |none=>rw[q2]at h;simp at h
   |some i=>
     rw[q2]at h;simp only at h⊢;cases q3:ds[i]? with
     |none=>rfl
     |some d=>rw[q3]at h;exact uo h
theorem A9{f:Nat→Ex→IJ}(hf:∀i x,(f i x).1=0→f i x=(0,0)):∀{l:List Ex} {i:Nat},(yy f i l).1=0→yy f i l=(0,0)
 |[],_,_=>rfl
 |x::r,i,h=>by
   simp only[yy]at h⊢;split
   ·rename_i h1;rw[if_pos h1]at h;exact absurd h h1
   ·rename_i h1;rw[if_neg h1]at h;exact A9 hf h
theorem L1{ds:List Dt}:∀{e:Ex} {names:List br},(e.aN ds names).1=0→e.aN ds names=(0,0):=by
 intro e;refine Ex.recC (p:=fun e=>∀{names:List br},(e.aN ds names).1=0→e.aN ds names=(0,0)) ?_ e;intro e ih names h;rw[Ex.L0]at h⊢;split
 ·rename_i h1;rw[if_pos h1]at h;exact absurd h h1
 · rename_i h1;rw[if_neg h1]at h
   have key:∀{l:List Ex} {i:Nat},(∀x∈l,x∈e.ch)→(yy (fun i x=>x.aN ds (names++ia e i)) i l).1=0→yy (fun i x=>x.aN ds (names++ia e i)) i l=(0,0):=by
     intro l;induction l with
     |nil=>intro i _ _;rfl
     |cons x r ihr=>
       intro i hl h;simp only[yy]at h⊢;split
       ·rename_i h1;rw[if_pos h1]at h;exact absurd h h1
       ·rename_i h1;rw[if_neg h1]at h;exact ihr (fun y hy=>hl y (by simp[hy])) h
   exact key (fun x hx=>hx) h
structure wc(e:Ex):Prop where
 ok:e.Ok
 one:e.One
 cw:e.Je fun x=>x.ty.Cw
theorem wc.c{e x:Ex}(h:wc e)(hx:x∈e.ch):wc x:=⟨h.ok.c x hx,h.one.c x hx,h.cw.c x hx⟩
theorem Ug{ds:List Dt}{names:List br}{e:Ex}(he:wc e)(hn:names.length≤900000000)
   (ih:∀i,∀x∈e.ch,(aC AP).p 405 [.au (ds.map Dt.pv),.au ((names++ia e i).map .str),x.pv]=some [fP (x.aN ds (names++ia e i))]):∀(n i:Nat),e.ch.length-i=n→i≤e.ch.length →
   cl AP g405L0 ⟨[(0,.pv (.au (ds.map Dt.pv))),(1,.pv (.au (names.map .str))),(5,.az 5 0),(6,.az 6 0),(64,.pv (.au (e.ch.map Ex.pv))),(65,.pv (vI e.ch.length)),(66,.pv (vI i))],[(5,e.cl),(6,m2 (0,0))],[],[]⟩ =
     if (yy (fun i x=>x.aN ds (names++ia e i)) i (e.ch.drop i)).1≠0 then some (.ret,⟨[(6,.az 6 0)],[(6,m2 (yy (fun i x=>x.aN ds (names++ia e i)) i (e.ch.drop i)))],[],[]⟩)
     else some (.exit 1,⟨[(0,.pv (.au (ds.map Dt.pv))),(1,.pv (.au (names.map .str))),(5,.az 5 0),(6,.az 6 0),(64,.pv (.au (e.ch.map Ex.pv))),(65,.pv (vI e.ch.length)),(66,.pv (vI e.ch.length)),(67,.pv (.bool false))],[(5,e.cl),(6,m2 (0,0))],[],[]⟩)
 |0,i,hk,hi=>by
   have:i=e.ch.length:=by omega
   subst this;rw[List.drop_length];generalize e.ch=C;rw[g405L0e];simp[g405B0,yy]
 |n+1,i,hk,hi=>by
   have hi:i<e.ch.length:=(by omega);obtain⟨x,hx⟩:=aV hi;have hlen:=Ex.et (e:=e);have hk1:=he.ok.k;have hk2:=he.ok.a;have hr:=Ug he hn ih n (i+1) (by omega) (by omega);have k1:=c411 hi he.one.h he.ok;have hbl:=pk he.ok (i:=i);have k2:=c409 (a:=names) (b:=ia e i) (by omega);have k3:=ih i x (aR hx);rw[bh hx];simp only[yy];generalize hN:names++ia e i=N at *;generalize hF:x.aN ds N=F at *;generalize hG:yy (fun i x=>x.aN ds (names++ia e i)) (i+1) (e.ch.drop (i+1))=G at *;clear ih;generalize ia e i=B at *;generalize e.ch=C at *;rw[g405L0e]at hr⊢;simp at k1 k2 k3 hr;by_cases q:F.1=0
   ·simp (disch:=omega) [-getElem?_pos,g405B0,hi,hx,k1,k2,k3,q,ah];rw[g405L0e];simp[hr]
   ·simp (disch:=omega) [-getElem?_pos,g405B0,hi,hx,k1,k2,k3,q]
theorem c405{ds:List Dt}(hS:Sm ds)(hc:∀d∈ds,Sm d.cons):∀(n:Nat) {e:Ex},wc e→e.uq n→∀names:List br,names.length+1000*n≤900000000→(aC AP).p 405 [.au (ds.map Dt.pv),.au (names.map .str),e.pv]=some [fP (e.aN ds names)]
 |0,e,_,hh,_,_=>by cases hh
 |n+1,e,he,hh,names,hl=>by
   have ih:∀i,∀x∈e.ch,(aC AP).p 405 [.au (ds.map Dt.pv),.au ((names++ia e i).map .str),x.pv]=some [fP (x.aN ds (names++ia e i))]:=fun i x hx=>
     c405 hS hc n (he.c hx) (hh.c x hx) _ (by have:=pk he.ok (i:=i);simp;omega)
   have h:=Ug he (by omega) ih _ 0 rfl (by omega);have k1:=c414 he.ok;rw[List.drop_zero]at h;rw[Ex.L0];have hz:=A9 (f:=fun i x=>x.aN ds (names++ia e i)) (fun i x h=>L1 h) (l:=e.ch) (i:=0);clear ih;have k2:=c214 (s:=names) (by unfold Sm;omega) (y:=e.name);have k3:=c190 hS hc (s:=e.name);have k4:=c415 hS hc he.ok;have k5:=c185 hS (l:=[]) (by simp[Sm]) he.ok.t;generalize yy (fun i x=>x.aN ds (names++ia e i)) 0 e.ch=G at *;generalize e.ch=C at *;rw[ae (af:=g405) rfl rfl (by decide)];simp at k1 k2 k3 k4 k5
   have hG:(G=(0,0)∧G.1=0)∨(¬G.1=0):=by
     by_cases q:G.1=0
     ·exact .inl ⟨hz q,q⟩
     ·exact .inr q
   clear hz;generalize hQ:um ds e=Q at *;generalize hT:e.ty.formed ds []=T at *;by_cases q1:e.kind=1
   · simp only[q1]at k1;by_cases q2:e.name∈names
     ·rcases hG with⟨rfl,hG⟩|hG<;>simp[hG,q1]at h<;>simp[q2]at k2<;>simp[g405,kq,q1,q2,k1,k2,h,hG]
     ·simp[q2]at k2;simp[g405,kq,q1,q2,k2]
   · by_cases q3:e.kind=2
     · simp only[q3]at k1;cases q4:iR ds e.name 0 with
       |none=>
         rw[q4]at k3;simp[rF]at k3;simp[g405,kq,q3,q4,k3]
       |some r=>
         rw[q4]at k3;simp[rF]at k3;rcases hG with⟨rfl,hG⟩|hG<;>simp[hG,q3]at h<;>simp[g405,kq,q3,q4,k1,k3,h,hG]
     · by_cases q5:e.kind=8
       · simp only[q5]at k1;by_cases q6:Q.1=0
         · have:Q=(0,0):=by rw[←hQ]at q6⊢;exact Ec q6
           subst this;rcases hG with⟨rfl,hG⟩|hG<;>simp[hG,q5]at h<;>simp[q5]at k4<;>simp[g405,kq,q5,hQ,k1,k4,h,hG]
         ·simp[q5]at k4;simp[g405,kq,q5,hQ,k4,q6]
       · by_cases q7:e.kind=9
         · simp only[q7]at k1;by_cases q8:T=0
           ·subst q8;rcases hG with⟨rfl,hG⟩|hG<;>simp[hG,q7]at h<;>simp[g405,kq,q7,hT,k1,k5,h,hG]
           ·simp[g405,kq,q7,hT,k5,q8]
         ·rcases hG with⟨rfl,hG⟩|hG<;>simp[hG]at h<;>simp[g405,kq,q1,q3,q5,q7,k1,h,hG]
inductive Lk:Ex→Ex→Prop
 |mk {e f:Ex}:f.kind=e.kind→f.name=e.name→f.num=e.num→f.ty=e.ty→f.kids.length=e.kids.length→f.aE.map (fun a=>(a.dk,a.vars))=e.aE.map (fun a=>(a.dk,a.vars)) →
     (∀(i:Nat) (x y:Ex),e.ch[i]?=some x→f.ch[i]?=some y→Lk x y)→Lk e f
def pq(b:Nat):List AV:=[.pv (vI 0),.pv (vI 0),.pv (.str []),.pv (vI 0),.own [] b,.own [] (b+1),.pv (vI 0),.pv (.str []),.pv (vI 0),.pv (vI 0),.own [] (b+2)]
theorem mi:∀{as:List Ar} {xs:List Ex},xs.length=as.length→(ev as xs).map cT.body=xs
 |[],[],_=>rfl
 |[],_::_,h=>by simp at h
 |_::_,[],h=>by simp at h
 |a::as,x::xs,h=>by simp only[ev,List.map_cons,mi (as:=as) (xs:=xs) (by simpa using h)]
theorem yd:∀{as:List Ar} {xs:List Ex},(ev as xs).map (fun a=>(a.dk,a.vars))=as.map (fun a=>(a.dk,a.vars))
 |[],xs=>by cases xs<;>rfl
 |a::as,[]=>rfl
 |a::as,x::xs=>by simp only[ev,List.map_cons,yd (as:=as) (xs:=xs)]
theorem ye{e:Ex}{c:List Ex}(h:c.length=e.kids.length+e.aE.length):(e.oo c).ch=c:=by
 unfold Ex.oo;rw[if_pos h];simp only[Ex.ch];rw[mi (by simp;omega),List.take_append_drop]
theorem IK{sz n:Nat}{ag:Bool}:Nu sz n ag none=none:=rfl
theorem Oq{o:Option (List PV)}:oU none o=none:=rfl
theorem Ot{p:PV}:oU (some p) none=none:=rfl
theorem c372{s:dJ}{S:List Int}(hs:s.sl.length≤1000000)(ha:Jc s.sl)(hO:∀x∈s.sl,x.ty.Ok)(hS:∀x∈s.sl,∀w,ij x.ty w→w∈S)(hf:S.length<1099511627776){t:Ty}(ht:t.Ok)(hw:∀w,ij t w→w∈S) :
   ∃out,(aC AP).p 372 [s.pv,.au [t.pv]]=some [.au (out.map vI)]∧lD S out∧∀v,RT s.sl t v→¬qm s.sl v→v∈out:=by
 obtain⟨rk,hr⟩:=ha;obtain⟨N,hN⟩:=ij.bound rk t
 obtain⟨dn',out,P⟩:=La hr hO hS N t ht hN hw (List.replicate s.sl.length false) [] (by simp) (t8 hf) (by
   intro j hj;exfalso;by_cases q:j<s.sl.length
   ·simp[List.getElem?_replicate,q]at hj
   ·simp[List.getElem?_replicate,q]at hj)
 refine⟨out,?_,P.IG,P.all⟩;have e:=P.yx;have hb:bT (List.replicate s.sl.length false)=List.replicate s.sl.length (.pv (.bool false)):=by simp[bT]
 have hp:=mh (dn:=List.replicate s.sl.length false);have hp':=mh (dn:=dn');unfold Rf at e;rw[hb]at e hp;have b1:(s.sl.length:Int)≤9223372036854775807:=by omega
 have b2:(s.sl.length:Int)≤140737488355328:=by omega
 have hn:=hp.norm;have hn':=hp'.norm;have hh:=hp.sh;have hh':=hp'.sh;have hm:=hp.mp;generalize bT dn'=T' at *
 have hfl:(List.replicate s.sl.length [AV.pv (.bool false)]).flatten=List.replicate s.sl.length (.pv (.bool false)):=by
   generalize s.sl.length=n;induction n with
   |zero=>rfl
   |succ n ih=>rw[List.replicate_succ,List.flatten_cons,ih,List.replicate_succ];rfl
 generalize List.replicate s.sl.length (AV.pv (.bool false))=T at *;simp[fX]at e;rw[ae (af:=g372) rfl rfl (by decide)];simp (disch:=omega) [g372,b1,b2,hn,hn',hh,hh',hm,hfl,g372L0e,g372B0,e,ah,IK,Oq,Ot,tF]
theorem pw{k:Int}{t:Ty}:(t.eT k).length≤t.nodes.length:=by
 refine Ty.dH (p:=fun t=>(t.eT k).length≤t.nodes.length) ?_ t;intro t ih;rw[Ty.l7,Ty.aM];split
 ·simp
 · have key:∀l:List Ty,(∀a∈l,(a.eT k).length≤a.nodes.length)→(l.flatMap (Ty.eT k)).length≤(l.flatMap Ty.nodes).length:=by
     intro l;induction l with
     |nil=>intro _;simp
     |cons a r ihr=>
       intro h;have h1:=h a (by simp);have h2:=ihr fun b hb=>h b (by simp[hb])
       simp only[List.flatMap_cons,List.length_append];omega
   have:=key t.args ih;simp only[List.length_cons];omega
theorem mj{k:Int}{t:Ty}:∀x∈t.eT k,x.args=[]:=by
 refine Ty.dH (p:=fun t=>∀x∈t.eT k,x.args=[]) ?_ t;intro t ih x hx;rw[Ty.l7]at hx;split at hx
 ·rename_i q;simp at hx;subst hx;exact List.length_eq_zero_iff.1 q.2
 ·simp only[List.mem_flatMap]at hx;obtain⟨a,ha,hx⟩:=hx;exact ih a ha x hx
theorem c59t{u:Ty}(hu:u.Ok)(hn:u.nodes.length≤4000):∃r:List Ty,(aC AP).p 59 [.au [u.pv]]=some [.au (r.map Ty.pv)]∧Sm r:=by
 have hl:=pw (k:=3) (t:=u);obtain⟨r,e,h,_⟩:=c59 (S:=u.eT 3) (by omega) (fun x hx=>cG (mj x hx)) (l:=[u]) (by simp[Sm]) (by simpa using hu) (by simp);exact⟨r,e,h⟩
structure Inv(n M:Nat)(S:List Int)(s:dJ):Prop where
 len:s.sl.length=n
 MT:s.tr.length+(n+2)*ub s.sl≤M
 ok:∀x∈s.sl,x.ty.Ok
 mY:∀x∈s.sl,∀w,ij x.ty w→w∈S
 L2:Jc s.sl
 wf:∀x∈s.sl,x.ty.Kw
theorem mem_set{α:Type}{l:List α}{k:Nat}{x y:α}(h:y∈l.set k x):y=x∨y∈l:=by
 rcases List.mem_or_eq_of_mem_set h with h|h
 ·exact .inr h
 ·exact .inl h
theorem bW{s:dJ}{i:Nat}{o x:Sl}:(gM s i o x).sl=s.sl.set i x:=rfl
theorem mZ{s:dJ}{i:Nat}{o x:Sl}:(gM s i o x).tr.length=s.tr.length+1:=by simp[gM]
theorem yg{s:List Sl}{k:Nat}{o:Sl}(hk:s[k]?=some o)(h:¬qm s (k:Int)):o.bd=false:=by
 cases e:o.bd with
 |false=>rfl
 |true=>exact absurd ⟨k,o,rfl,hk,e⟩ h
theorem L3{n M:Nat}{S:List Int}{s:dJ}(I:Inv n M S s){i j:Nat}{l h l' h':Sl}(hl:s.sl[i]?=some l)(hh:s.sl[j]?=some h)(hij:i≠j)(fi:¬qm s.sl (i:Int))(fj:¬qm s.sl (j:Int))
   (hl1:l'.bd=l.bd) (hl2:l'.ty=l.ty) (hh1:h'.bd=true) (hh2:h'.ty=bM i) (hi:(i:Int)∈S) :
   Inv n M S (gM (gM s i l l') j h h')∧ub (gM (gM s i l l') j h h').sl<ub s.sl:=by
 have hj':(gM s i l l').sl[j]?=some h:=by
   rw[bW,List.getElem?_set,if_neg hij,hh]
 have u1:=r5 hl hl1;have u2:=ya hj' (yg hh fj) hh1;rw[bW]at u2;have hp:=I.MT;refine⟨⟨by simp[gM,I.len],?_,?_,?_,?_,?_⟩,?_⟩
 · rw[mZ,mZ];simp only[bW];have:(n+2)*ub s.sl=(n+2)*ub ((s.sl.set i l').set j h')+(n+2):=by rw[←u1,←u2,Nat.mul_add,Nat.mul_one]
   omega
 · intro x hx;simp only[bW]at hx;rcases mem_set hx with rfl|hx
   ·rw[hh2];exact cG rfl
   · rcases mem_set hx with rfl|hx
     ·rw[hl2];exact I.ok l (aR hl)
     ·exact I.ok x hx
 · intro x hx w ho;simp only[bW]at hx;rcases mem_set hx with rfl|hx
   ·rw[hh2]at ho;rw[jG (t:=bM i) rfl ho];exact hi
   · rcases mem_set hx with rfl|hx
     ·rw[hl2]at ho;exact I.mY l (aR hl) w ho
     ·exact I.mY x hx w ho
 · simp only[bW];refine A6 (A5 I.L2 hl hl1 hl2) ?_;intro v ho hv;rw[hh2]at ho;have e:=jG (t:=bM i) rfl ho;have e2:v=(i:Int):=e;subst e2
   have fi':¬qm (s.sl.set i l') (i:Int):=by
     rintro⟨k,x,q,hx,hb⟩
     have:k=i:=by omega
     subst this;have hlt:k<s.sl.length:=by obtain⟨h,_⟩:=List.getElem?_eq_some_iff.1 hl;exact h
     rw[List.getElem?_set,if_pos rfl,if_pos hlt]at hx;cases hx;rw[hl1,yg hl fi]at hb;cases hb
   have:=uh hv fi';omega
 · intro x hx;simp only[bW]at hx;rcases mem_set hx with rfl|hx
   ·rw[hh2];exact⟨by simp[bM],by simp[bM],by simp[bM]⟩
   · rcases mem_set hx with rfl|hx
     ·rw[hl2];exact I.wf l (aR hl)
     ·exact I.wf x hx
 ·simp only[bW];omega
theorem Inv.MU{n M:Nat}{S:List Int}{s:dJ}(I:Inv n M S s):s.Ok n (M+10):=⟨by rw[I.len];omega,by have:=I.MT;have:0≤(n+2)*ub s.sl:=Nat.zero_le _;omega,I.ok⟩
theorem Inv.V0{n M:Nat}{S:List Int}{s:dJ}(I:Inv n M S s){i:Nat}{o x:Sl}(hx:x.ty.Ok):(gM s i o x).Ok n (M+10):=⟨by rw[bW,List.length_set,I.len];omega,by rw[mZ];have:=I.MT;have:0≤(n+2)*ub s.sl:=Nat.zero_le _;omega,by
 intro y hy;rw[bW]at hy;rcases mem_set hy with rfl|hy
 ·exact hx
 ·exact I.ok y hy⟩
theorem c397{n M:Nat}{S:List Int}{s:dJ}(I:Inv n M S s)(hn:n≤1000000)(hM:M≤100000000){x y:Ty}{i j:Nat}(hxi:x.id=i)(hyj:y.id=j)(hi:i<n)(hj:j<n)(fi:¬qm s.sl (i:Int))(fj:¬qm s.sl (j:Int))(hiS:(i:Int)∈S)(hjS:(j:Int)∈S) :
   ∃s',(aC AP).p 397 [s.pv,x.pv,y.pv]=some [s'.pv]∧Inv n M S s'∧(s'=s∨ub s'.sl<ub s.sl):=by
 by_cases hij:i=j
 · refine⟨s,?_,I,.inl rfl⟩;have h2:x.id=y.id:=by rw[hxi,hyj,hij]
   rw[ae (af:=g397) rfl rfl (by decide)];simp[g397,h2]
 · have hne:¬(i:Int)=j:=(by omega);obtain⟨a,ha⟩:=aV (l:=s.sl) (i:=min i j) (by rw[I.len];omega);obtain⟨b,hb⟩:=aV (l:=s.sl) (i:=max i j) (by rw[I.len];omega);have hab:min i j≠max i j:=by omega
   have fa:¬qm s.sl ((min i j:Nat):Int):=by
     by_cases q:i≤j
     ·rw[Nat.min_eq_left q];exact fi
     ·rw[Nat.min_eq_right (by omega)];exact fj
   have fb:¬qm s.sl ((max i j:Nat):Int):=by
     by_cases q:i≤j
     ·rw[Nat.max_eq_right q];exact fj
     ·rw[Nat.max_eq_left (by omega)];exact fi
   have haS:((min i j:Nat):Int)∈S:=by
     by_cases q:i≤j
     ·rw[Nat.min_eq_left q];exact hiS
     ·rw[Nat.min_eq_right (by omega)];exact hjS
   have hmin:(if j<i then (j:Int) else (i:Int))=((min i j:Nat):Int):=by split<;>omega
   have hmax:(if i<j then (j:Int) else (i:Int))=((max i j:Nat):Int):=by split<;>omega
   have hlo:min i j<s.sl.length:=(by rw[I.len];omega);have hhi:max i j<s.sl.length:=(by rw[I.len];omega);generalize min i j=p at *;generalize max i j=q at *;have k0:=c63 (n:=p);let a':Sl:=⟨a.bd,a.ty,if b.home<a.home then b.home else a.home,a.base || b.base⟩;let b':Sl:=⟨true,bM p,b.home,b.base⟩;have aO:a'.ty.Ok:=I.ok a (aR ha);have k1:=c393 I.MU (by omega) (by omega) ha a';have hb1:(gM s p a a').sl[q]?=some b:=(by rw[bW,List.getElem?_set,if_neg hab,hb]);have k2:=c393 (I.V0 (i:=p) (o:=a) aO) (by omega) (by omega) hb1 b';obtain⟨J,hu⟩:=L3 I (l':=a') (h':=b') ha hb hab fa fb rfl rfl rfl rfl haS;refine⟨gM (gM s p a a') q b b',?_,J,.inr hu⟩;generalize gM (gM s p a a') q b b'=s2 at *;generalize gM s p a a'=s1 at *;simp[a',b',bM]at k0 k1 k2;rw[ae (af:=g397) rfl rfl (by decide)];cases hab1:a.base
   ·simp[hab1]at k1;simp (disch:=omega) [-getElem?_pos,g397,hxi,hyj,hne,hmin,hmax,ha,hb,hlo,hhi,k0,k1,k2,hab1]
   ·simp[hab1]at k1;simp (disch:=omega) [-getElem?_pos,g397,hxi,hyj,hne,hmin,hmax,ha,hb,hlo,hhi,k0,k1,k2,hab1]
end Go.Ab.Lw
