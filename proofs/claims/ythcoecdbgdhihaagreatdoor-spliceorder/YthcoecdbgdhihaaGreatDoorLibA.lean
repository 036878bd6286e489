import Derived.Test.YthcoecdbgdhihaaGreatDoorCodeA
import Derived.KernelRfl
/-
  The program's data.
  The makers: what their functions JX.
  The makers: what their functions JX.
  The data declarations that programs are made of: what the reader makes of their text.
  The makers: data declarations, chosen by bits.
  The makers: types and substitutions off the tape.
  Types and substitutions: what replaces variables.
  Types: rebuilding with new leaves.
  Types and substitutions: the program's replacing, finding, composing.
  Substitutions: composing; equality of types and of substitutions.
  The order of types.
  Chapter 13: the plain laws, and the law that composition composes.
  Chapter 13: equality of substitutions; the laws SubstAssociates and SubstEqual.
  Functions of package slices over any elements.
  Names, and which types are valid.
  Names of the program, and which types are valid.
  Which types are valid.
  Contexts: their entries; looking names up.
  slices.EqualFunc and slices.Clip over any elements.
  What the pure data of a parameter looks Q7.
  Chapter 3: what its laws make; the laws TypesValid and TypesEqual.
  The variables of types, by the program and by the reference.
  The reference's variables of types; they are the program's.
  Contexts: schemes, adding, hidden entries; what law 19 makes.
  Law 19 makes contexts; the law EnvironLooks.
  The maker of types over any list of data types.
  Correct types in declarations.
  Expressions.
  slices.DeleteFunc over an array of texts that may be written.
  Arrays of structs in shared memory: their cells one behind the other.
  Expressions: children, the part at a path, and the names that are bound.
  Chapter 3: opening.
  Contexts: their free variables; the law EnvironSeen.
  Types by the kinds of their nodes.
  How many nodes an expression has; expressions whose texts are known.
  slices.DeleteFunc over an array of texts that may be written: all of it.
  scope.Visible: one step inward.
  The names that are visible at a path.
  The holes of an expression.
  The holes of an expression, by the reference; the same of programs.
  Raw expressions: what the maker gives.
  The maker of raw expressions.
  Texts of types, by the program (over any table of functions that knows the package show) and by the reference.
  The maker of raw expressions: cases; all depths.
  Texts of expressions: the parts.
  Texts of expressions: all of them.
  The reference's store of type variables: what it looks Q7, bound variables, walks.
  The reference's store: sizes and resolved types.
  The reference's store: resolving, new variables, changes.
  Chapter 13: valid and idempotent substitutions.
  The reference's store: a slot is set.
  The reference's unifier: arrows, rigid constants, variables of a store, joining.
  The reference's store: acyclic stores.
  The reference's store: a finder LW.
  The reference's store: a finder finds every variable that is reached and not bound.
  Expressions: other children.
  Chapter 9: where a constructor is.
  Scopes: to which declaration aD belong.
  Scopes: the errors of a case itself, by the reference.
  Scopes: the errors of a case itself, by the program.
  Scopes: the first error of an expression.
  Positions are numbered.
  The reference's store: the variables of a type.
  The reference's unifier: joining two variables.
  The reference's unifier: joining two variables, the walk.
-/
set_option linter.unusedVariables false
set_option linter.unusedSimpArgs false
set_option linter.unnecessarySimpa false
set_option maxRecDepth 100000
set_option maxHeartbeats 8000000
namespace Go.Ab.Lw
structure Ty where
 kind:Int
 name:List UInt8
 id:Int
 home:Int
 args:List Ty
 deriving Inhabited
noncomputable instance:DecidableEq Ty:=fun _ _=>Classical.propDecidable _
mutual
def Ty.pv:Ty→PV
 |⟨k,n,i,h,as⟩=>.agg [.int .i64 k,.str n,.int .i64 i,.int .i64 h,.au (Ty.cW as)]
def Ty.cW:List Ty→List PV
 |[]=>[]
 |a::r=>a.pv::Ty.cW r
end
theorem Ty.pE:∀l:List Ty,Ty.cW l=l.map Ty.pv
 |[]=>by simp[Ty.cW]
 |a::r=>by simp[Ty.cW,Ty.pE r]
@[simp] theorem Ty.ml(t:Ty):t.pv=.agg [.int .i64 t.kind,.str t.name,.int .i64 t.id,.int .i64 t.home,.au (t.args.map Ty.pv)]:=by
 cases t;simp only[Ty.pv,Ty.pE]
theorem Ty.dF{p:Ty→Prop}(h:∀t:Ty,(∀x∈t.args,p x)→p t):∀t,p t
 |⟨k,n,i,hm,as⟩=>h _ (fun x _hx=>Ty.dF h x)
termination_by t=>SizeOf.sizeOf t
decreasing_by have:=_root_.List.sizeOf_lt_of_mem _hx;simp at *;omega
structure cR where
 pos:Int
 name:List UInt8
 fields:List Ty
 deriving Inhabited
structure Dt where
 pos:Int
 name:List UInt8
 params:List (List UInt8)
 cons:List cR
 deriving Inhabited
def cR.pv(c:cR):PV:=.agg [.int .i64 c.pos,.str c.name,.au (c.fields.map Ty.pv)]
def Dt.pv(d:Dt):PV:=.agg [.int .i64 d.pos,.str d.name,.au (d.params.map .str),.au (d.cons.map cR.pv)]
@[simp] theorem cR.ml(c:cR):c.pv=.agg [.int .i64 c.pos,.str c.name,.au (c.fields.map Ty.pv)]:=rfl
@[simp] theorem Dt.ml(d:Dt):d.pv=.agg [.int .i64 d.pos,.str d.name,.au (d.params.map .str),.au (d.cons.map cR.pv)]:=rfl
structure As where
 id:Int
 ty:Ty
 deriving Inhabited
def As.pv(a:As):PV:=.agg [.int .i64 a.id,.int .i64 a.ty.kind,.str a.ty.name,.int .i64 a.ty.id,.int .i64 a.ty.home,.au (a.ty.args.map Ty.pv)]
@[simp] theorem As.ml(a:As):a.pv=.agg [.int .i64 a.id,.int .i64 a.ty.kind,.str a.ty.name,.int .i64 a.ty.id,.int .i64 a.ty.home,.au (a.ty.args.map Ty.pv)]:=rfl
@[simp] theorem As.eta(t:As):As.mk t.id t.ty=t:=rfl
abbrev vI(n:Int):PV:=.int .i64 n
def tp(L:List Int)(i:Int):Sh:=[some [.pv (.au (L.map vI)),.pv (vI i)]]
@[simp] theorem WY(L:List Int)(i:Int):tp L i=[some [.pv (.au (L.map vI)),.pv (vI i)]]:=rfl
def Sm{α:Type}(l:List α):Prop:=l.length<1099511627776
def zd{α:Type}(l:List α):Prop:=l.length≤9223372036854775807
@[simp] theorem Wu(n:Nat):((n:Int)<0)↔False:=by simp
@[simp] theorem VX(n:Nat):((n:Int)+1<0)↔False:=by simp;omega
theorem bj{α:Type}{l:List α}{i:Nat}{x:α}(h:l[i]?=some x):l.drop i=x::l.drop (i+1):=by
 obtain⟨hi,rfl⟩:=List.getElem?_eq_some_iff.1 h;exact List.drop_eq_getElem_cons hi
theorem aV{α:Type}{l:List α}{i:Nat}(h:i<l.length):∃x,l[i]?=some x:=⟨_,List.getElem?_eq_getElem h⟩
theorem aR{α:Type}{l:List α}{i:Nat}{x:α}(h:l[i]?=some x):x∈l:=List.mem_of_getElem? h
theorem mm{α:Type}{l:List α}{i:Nat}(h:l.length≤i):l.drop i=[]:=List.drop_eq_nil_of_le h
open Ev
theorem c26{n m:Int}(h1:1≤m)(h2:m<4611686018427387904):∃r,(aC AP).p 26 [vI n,vI m]=some [vI r]∧0≤r∧r<m:=by
 rw[ae (af:=g26) rfl rfl (by decide)];have a1:=Int.tmod_lt_of_pos n (show 0<m by omega);have a2:=Int.lt_tmod_of_pos n (show 0<m by omega);have e1:¬m<1:=by omega
 have e2:¬m=0:=by omega
 by_cases h:n.tmod m<0
 ·refine⟨n.tmod m+m,?_,by omega,by omega⟩;simp (disch:=omega) [g26,e1,e2,h,ah]
 ·refine⟨n.tmod m,?_,by omega,by omega⟩;simp[g26,e1,e2,h]
theorem c63{n:Int}:(aC AP).p 63 [vI n]=some [(Ty.mk 1 [] n 0 []).pv]:=by
 rw[ae (af:=g63) rfl rfl (by decide)];simp[g63]
theorem c71{n m:Int}:(aC AP).p 71 [vI n,vI m]=some [(Ty.mk 3 [] m n []).pv]:=by
 rw[ae (af:=g71) rfl rfl (by decide)];simp[g71]
theorem c72{n:Int}:(aC AP).p 72 [vI n]=some [(Ty.mk 2 [] n 0 []).pv]:=by
 rw[ae (af:=g72) rfl rfl (by decide)];simp[g72]
theorem c62{s:List UInt8}{l:List Ty}(h:Sm l):(aC AP).p 62 [.str s,.au (l.map Ty.pv)]=some [(Ty.mk 4 s 0 0 l).pv]:=by
 unfold Sm at h;rw[ae (af:=g62) rfl rfl (by decide)];cases l with
 |nil=>simp[g62]
 |cons a r=>
   have:(r.length+1)*64≤140737488355328:=by simp at h;omega
   simp[g62,this]
theorem c34:(aC AP).p 34 []=some [(Ty.mk 4 [73,110,116] 0 0 []).pv]:=by
 rw[ae (af:=g34) rfl rfl (by decide)];have h:=c62 (s:=[73,110,116]) (l:=[]) (by simp[Sm]);simp at h;simp[g34,h]
theorem c69{a b:Ty}:(aC AP).p 69 [a.pv,b.pv]=some [(Ty.mk 4 [45,62] 0 0 [a,b]).pv]:=by
 rw[ae (af:=g69) rfl rfl (by decide)];have h:=c62 (s:=[45,62]) (l:=[a,b]) (by simp[Sm]);simp at h;simp[g69,h]
theorem c15{l:List Int}:(aC AP).p 15 [.au (l.map vI)]=some [.bool (decide (l.length≤60))]:=by
 rw[ae (af:=g15) rfl rfl (by decide)];simp[g15];omega
def bO(n:Int):Ty:=⟨1,[],n,0,[]⟩
def ll(h n:Int):Ty:=⟨3,[],n,h,[]⟩
def cy(n:Int):Ty:=⟨2,[],n,0,[]⟩
def a0:Ty:=⟨4,[73,110,116],0,0,[]⟩
def T7:List UInt8:=[100,97,116,97,32,66,111,111,108,32,61,32,84,114,117,101,32,124,32,70,97,108,115,101,59,32,100,97,116,97,32,79,112,116,105,111,110,32,97,32,61,32,78,111,110,101,32,124,32,83,111,109,101,32,97,59,32,100,97,116,97,32,76,105,115,116,32,97,32,61,32,78,105,108,32,124,32,67,111,110,115,32,97,32,40,76,105,115,116,32,97,41,59,100,97,116,97,32,80,97,105,114,32,97,32,98,32,61,32,80,97,105,114,32,97,32,98,59,32,100,97,116,97,32,78,97,116,32,61,32,90,101,114,111,32,124,32,83,117,99,99,32,78,97,116,59,32,100,97,116,97,32,70,117,110,32,97,32,98,32,61,32,70,117,110,32,40,97,32,45,62,32,98,41,59,32,100,97,116,97,32,84,119,111,32,97,32,61,32,66,111,116,104,32,97,32,97,32,124,32,79,110,101,32,40,79,112,116,105,111,110,32,97,41,59]
def P_:List PV:=[.au [.agg [.int .i64 4,.str [100,97,116,97],.int .i64 0],.agg [.int .i64 2,.str [66,111,111,108],.int .i64 5],.agg [.int .i64 5,.str [61],.int .i64 10],.agg [.int .i64 2,.str [84,114,117,101],.int .i64 12],.agg [.int .i64 5,.str [124],.int .i64 17],.agg [.int .i64 2,.str [70,97,108,115,101],.int .i64 19],.agg [.int .i64 5,.str [59],.int .i64 24],.agg [.int .i64 4,.str [100,97,116,97],.int .i64 26],.agg [.int .i64 2,.str [79,112,116,105,111,110],.int .i64 31],.agg [.int .i64 1,.str [97],.int .i64 38],.agg [.int .i64 5,.str [61],.int .i64 40],.agg [.int .i64 2,.str [78,111,110,101],.int .i64 42],.agg [.int .i64 5,.str [124],.int .i64 47],.agg [.int .i64 2,.str [83,111,109,101],.int .i64 49],.agg [.int .i64 1,.str [97],.int .i64 54],.agg [.int .i64 5,.str [59],.int .i64 55],.agg [.int .i64 4,.str [100,97,116,97],.int .i64 57],.agg [.int .i64 2,.str [76,105,115,116],.int .i64 62],.agg [.int .i64 1,.str [97],.int .i64 67],.agg [.int .i64 5,.str [61],.int .i64 69],.agg [.int .i64 2,.str [78,105,108],.int .i64 71],.agg [.int .i64 5,.str [124],.int .i64 75],.agg [.int .i64 2,.str [67,111,110,115],.int .i64 77],.agg [.int .i64 1,.str [97],.int .i64 82],.agg [.int .i64 5,.str [40],.int .i64 84],.agg [.int .i64 2,.str [76,105,115,116],.int .i64 85],.agg [.int .i64 1,.str [97],.int .i64 90],.agg [.int .i64 5,.str [41],.int .i64 91],.agg [.int .i64 5,.str [59],.int .i64 92],.agg [.int .i64 4,.str [100,97,116,97],.int .i64 93],.agg [.int .i64 2,.str [80,97,105,114],.int .i64 98],.agg [.int .i64 1,.str [97],.int .i64 103],.agg [.int .i64 1,.str [98],.int .i64 105],.agg [.int .i64 5,.str [61],.int .i64 107],.agg [.int .i64 2,.str [80,97,105,114],.int .i64 109],.agg [.int .i64 1,.str [97],.int .i64 114],.agg [.int .i64 1,.str [98],.int .i64 116],.agg [.int .i64 5,.str [59],.int .i64 117],.agg [.int .i64 4,.str [100,97,116,97],.int .i64 119],.agg [.int .i64 2,.str [78,97,116],.int .i64 124],.agg [.int .i64 5,.str [61],.int .i64 128],.agg [.int .i64 2,.str [90,101,114,111],.int .i64 130],.agg [.int .i64 5,.str [124],.int .i64 135],.agg [.int .i64 2,.str [83,117,99,99],.int .i64 137],.agg [.int .i64 2,.str [78,97,116],.int .i64 142],.agg [.int .i64 5,.str [59],.int .i64 145],.agg [.int .i64 4,.str [100,97,116,97],.int .i64 147],.agg [.int .i64 2,.str [70,117,110],.int .i64 152],.agg [.int .i64 1,.str [97],.int .i64 156],.agg [.int .i64 1,.str [98],.int .i64 158],.agg [.int .i64 5,.str [61],.int .i64 160],.agg [.int .i64 2,.str [70,117,110],.int .i64 162],.agg [.int .i64 5,.str [40],.int .i64 166],.agg [.int .i64 1,.str [97],.int .i64 167],.agg [.int .i64 5,.str [45,62],.int .i64 169],.agg [.int .i64 1,.str [98],.int .i64 172],.agg [.int .i64 5,.str [41],.int .i64 173],.agg [.int .i64 5,.str [59],.int .i64 174],.agg [.int .i64 4,.str [100,97,116,97],.int .i64 176],.agg [.int .i64 2,.str [84,119,111],.int .i64 181],.agg [.int .i64 1,.str [97],.int .i64 185],.agg [.int .i64 5,.str [61],.int .i64 187],.agg [.int .i64 2,.str [66,111,116,104],.int .i64 189],.agg [.int .i64 1,.str [97],.int .i64 194],.agg [.int .i64 1,.str [97],.int .i64 196],.agg [.int .i64 5,.str [124],.int .i64 198],.agg [.int .i64 2,.str [79,110,101],.int .i64 200],.agg [.int .i64 5,.str [40],.int .i64 204],.agg [.int .i64 2,.str [79,112,116,105,111,110],.int .i64 205],.agg [.int .i64 1,.str [97],.int .i64 212],.agg [.int .i64 5,.str [41],.int .i64 213],.agg [.int .i64 5,.str [59],.int .i64 214]],.agg [.int .i64 0,.int .i64 0]]
def bz:List Dt:=[⟨0,[66,111,111,108],[],[⟨12,[84,114,117,101],[]⟩,⟨19,[70,97,108,115,101],[]⟩]⟩,
 ⟨26,[79,112,116,105,111,110],[[97]],[⟨42,[78,111,110,101],[]⟩,⟨49,[83,111,109,101],[⟨5,[97],0,0,[]⟩]⟩]⟩,
 ⟨57,[76,105,115,116],[[97]],[⟨71,[78,105,108],[]⟩,⟨77,[67,111,110,115],[⟨5,[97],0,0,[]⟩,⟨4,[76,105,115,116],0,0,[⟨5,[97],0,0,[]⟩]⟩]⟩]⟩,
 ⟨93,[80,97,105,114],[[97],[98]],[⟨109,[80,97,105,114],[⟨5,[97],0,0,[]⟩,⟨5,[98],0,0,[]⟩]⟩]⟩,
 ⟨119,[78,97,116],[],[⟨130,[90,101,114,111],[]⟩,⟨137,[83,117,99,99],[⟨4,[78,97,116],0,0,[]⟩]⟩]⟩,
 ⟨147,[70,117,110],[[97],[98]],[⟨162,[70,117,110],[⟨4,[45,62],0,0,[⟨5,[97],0,0,[]⟩,⟨5,[98],0,0,[]⟩]⟩]⟩]⟩,
 ⟨176,[84,119,111],[[97]],[⟨189,[66,111,116,104],[⟨5,[97],0,0,[]⟩,⟨5,[97],0,0,[]⟩]⟩,⟨200,[79,110,101],[⟨4,[79,112,116,105,111,110],0,0,[⟨5,[97],0,0,[]⟩]⟩]⟩]⟩]
theorem T8:(aC AP).p 118 [.str T7]=some P_:=Fc.OQ (k:=400) (n:=20) (by kernel_rfl)
def WZ(g:Nat)(x:List PV):Option (List PV):=match g,x with
 |118,[.str s]=>if s=T7 then some P_ else none
 |_,_=>none
theorem RE:∀g x r,WZ g x=some r→(aC AP).p g x=some r:=by
 intro g x r h;unfold WZ at h;split at h
 · split at h
   ·rename_i e;subst e;cases h;exact T8
   ·cases h
 ·cases h
theorem c79:(aC AP).p 79 []=some [.au (bz.map Dt.pv)]:=Fc.P7 (k:=400) (n:=40) RE (by kernel_rfl)
@[simp] theorem SK{l:List Dt}:bf 4 (l.map Dt.pv)=true:=by cases l<;>simp
@[simp] theorem SL{l:List Ty}:bf 5 (l.map Ty.pv)=true:=by cases l<;>simp
@[simp] theorem SM{l:List As}:bf 6 (l.map As.pv)=true:=by cases l<;>simp
theorem LX{n:Int}(h1:0≤n)(h2:n<18446744073709551616):IntKind.u64.wrap n=n:=by
 simp[IntKind.wrap,IntKind.bits,IntKind.signed];omega
def T9(bits:Int)(ds:List Dt):Option (bg×St):=
 some (.exit 0,⟨[(0,.pv (vI bits)),(3,.pv (.au (bz.map Dt.pv))),(4,.own (ds.map Dt.pv) 0),(5,.pv (vI 7)),(24,.pv (.bool false))],[],[],[ds.length]⟩)
theorem VY(bits:Int):∀(n i:Nat),7-i=n→i≤7→∀acc:List Dt,(∀d∈acc,d∈bz)→acc.length≤1+i →
   ∃ds:List Dt,cl AP g32L0 ⟨[(0,.pv (vI bits)),(3,.pv (.au (bz.map Dt.pv))),(4,.own (acc.map Dt.pv) 0),(5,.pv (vI i))],[],[],[acc.length]⟩=T9 bits ds ∧
     (∀d∈ds,d∈bz)∧ds.length≤8
 |0,i,hn,hi,acc,ha,hl=>by
   have:i=7:=by omega
   subst this;refine⟨acc,?_,ha,by omega⟩;rw[g32L0e];have h7:bz.length=7:=rfl;simp[g32B0,h7,T9]
 |n+1,i,hn,hi,acc,ha,hl=>by
   have h7:bz.length=7:=rfl;have hi:i<7:=(by omega);obtain⟨x,hx⟩:=aV (l:=bz) (i:=i) (by omega);have hb:(acc.length+1)*72≤140737488355328:=by omega
   obtain⟨d1,e1,m1,l1⟩:=VY bits n (i+1) (by omega) (by omega) (acc++[x]) (by
     intro d hd;simp at hd;rcases hd with hd|rfl
     ·exact ha d hd
     ·exact aR hx) (by simp;omega)
   obtain⟨d2,e2,m2,l2⟩:=VY bits n (i+1) (by omega) (by omega) acc ha (by omega);simp at e1 e2;have hi':(i:Int)<7:=by omega
   have key:∀S,S=cl AP g32L0 ⟨[(0,.pv (vI bits)),(3,.pv (.au (bz.map Dt.pv))),(4,.own (acc.map Dt.pv) 0),(5,.pv (vI i))],[],[],[acc.length]⟩→S=T9 bits d1∨S=T9 bits d2:=by
     intro S hS;rw[g32L0e]at hS;simp (disch:=omega) [-getElem?_pos,g32B0,h7,hi',hx,ah,LX,hb,e1,e2]at hS;subst hS
     (repeat' split)<;>simp
   rcases key _ rfl with h|h
   ·exact⟨d1,h,m1,l1⟩
   ·exact⟨d2,h,m2,l2⟩
theorem c32(bits:Int):∃ds:List Dt,(aC AP).p 32 [vI bits]=some [.au (ds.map Dt.pv)]∧(∀d∈ds,d∈bz)∧ds.length≤8:=by
 have hp:=c79;have h7:bz.length=7:=rfl;obtain⟨x,hx⟩:=aV (l:=bz) (i:=1) (by decide);obtain⟨d1,e1,m1,l1⟩:=VY bits 7 0 rfl (by omega) [x] (by intro d hd;simp at hd;subst hd;exact aR hx) (by simp);obtain⟨d2,e2,m2,l2⟩:=VY bits 7 0 rfl (by omega) [] (by simp) (by simp);rw[g32L0e]at e1 e2;simp at e1 e2
 have key:∀S,S=(aC AP).p 32 [vI bits]→S=some [.au (d1.map Dt.pv)]∨S=some [.au (d2.map Dt.pv)]:=by
   intro S hS;rw[ae (af:=g32) rfl rfl (by decide)]at hS;simp[-getElem?_pos,g32,hp,g32L0e,hx,e1,e2,T9]at hS;subst hS
   (repeat' split)<;>simp
 rcases key _ rfl with h|h
 ·exact⟨d1,h,m1,l1⟩
 ·exact⟨d2,h,m2,l2⟩
inductive Made (lv:Ty→Prop):Ty→Prop
 |leaf {t:Ty}:lv t→Made lv t
 |int:Made lv a0
 |cZ {d:Dt} {args:List Ty}:d∈bz→args.length=d.params.length→(∀x∈args,Made lv x)→Made lv ⟨4,d.name,0,0,args⟩
 |arrow {a b:Ty}:Made lv a→Made lv b→Made lv ⟨4,[45,62],0,0,[a,b]⟩
def Ty.av(t:Ty):AV:=.agg [.pv (vI t.kind),.pv (.str t.name),.pv (vI t.id),.pv (vI t.home),.pv (.au (t.args.map Ty.pv))]
@[simp] theorem Ty.W0(t:Ty):t.av=.agg [.pv (vI t.kind),.pv (.str t.name),.pv (vI t.id),.pv (vI t.home),.pv (.au (t.args.map Ty.pv))]:=rfl
def zF(L:List Int)(ds:List Dt)(lv:List Ty)(dep:Nat):Prop:=∀i:Nat,i≤L.length→∃(t:Ty) (j:Nat),
 (aC AP).i 27 [.aW 0 0,.pv (.au (ds.map Dt.pv)),.pv (.au (lv.map Ty.pv)),.pv (vI dep)] (tp L i) []=some ([t.av],tp L j,[])∧Made (·∈lv) t∧j≤L.length
theorem pF{r:Int}{n:Nat}(h0:0≤r)(h1:r<n):∃m:Nat,r=m∧m<n:=⟨r.toNat,by omega,by omega⟩
inductive Ty.Ok:Ty→Prop
 |mk {t:Ty}:Sm t.args→(∀x∈t.args,Ty.Ok x)→Ty.Ok t
theorem Ty.Ok.sm{t:Ty}(h:t.Ok):Sm t.args:=by cases h;assumption
theorem Ty.Ok.gw{t:Ty}(h:t.Ok):∀x∈t.args,x.Ok:=by cases h;assumption
inductive Ty.Wf:Ty→Prop
 |mk {t:Ty}:(t.kind=1→t.args=[])→(∀x∈t.args,Ty.Wf x)→Ty.Wf t
theorem Ty.Wf.var{t:Ty}(h:t.Wf):t.kind=1→t.args=[]:=by cases h;assumption
theorem Ty.Wf.gw{t:Ty}(h:t.Wf):∀x∈t.args,x.Wf:=by cases h;assumption
def lp:List As→Int→Option Ty
 |[],_=>none
 |a::r,id=>if a.id=id then some a.ty else lp r id
mutual
def Ty.sub(s:List As):Ty→Ty
 |⟨k,n,i,h,as⟩=>if k=1 then (lp s i).getD ⟨k,n,i,h,as⟩ else ⟨k,n,i,h,Ty.LY s as⟩
def Ty.LY(s:List As):List Ty→List Ty
 |[]=>[]
 |a::r=>a.sub s::Ty.LY s r
end
theorem Ty.Bw(s:List As):∀l:List Ty,Ty.LY s l=l.map (Ty.sub s)
 |[]=>by simp[Ty.LY]
 |a::r=>by simp[Ty.LY,Ty.Bw s r]
theorem Ty.sub_eq(s:List As)(t:Ty):t.sub s=if t.kind=1 then (lp s t.id).getD t else ⟨t.kind,t.name,t.id,t.home,t.args.map (Ty.sub s)⟩:=by
 cases t;simp only[Ty.sub,Ty.Bw]
def LZ(s:List As)(t:Ty):Option Ty→Option (bg×St)
 |some a=>some (.ret,⟨[(4,.az 4 0)],[(4,[.pv (vI a.kind),.pv (.str a.name),.pv (vI a.id),.pv (vI a.home),.pv (.au (a.args.map Ty.pv))])],[],[0]⟩)
 |none=>some (.exit 0,⟨[(1,.pv (.au (s.map As.pv))),(2,.az 2 0),(4,.az 4 0),(5,.pv (vI s.length)),(14,.pv (.bool false))],
     [(2,[.pv (vI t.kind),.pv (.str t.name),.pv (vI t.id),.pv (vI t.home),.pv (.au (t.args.map Ty.pv))]),(4,[.pv (vI 0),.pv (.str []),.pv (vI 0),.pv (vI 0),.own [] 0])],[],[0]⟩)
theorem T_{s:List As}(hS:Sm s)(t:Ty):∀(n i:Nat),s.length-i=n→i≤s.length →
   cl AP g46L0 ⟨[(1,.pv (.au (s.map As.pv))),(2,.az 2 0),(4,.az 4 0),(5,.pv (vI i))],
     [(2,[.pv (vI t.kind),.pv (.str t.name),.pv (vI t.id),.pv (vI t.home),.pv (.au (t.args.map Ty.pv))]),(4,[.pv (vI 0),.pv (.str []),.pv (vI 0),.pv (vI 0),.own [] 0])],[],[0]⟩=LZ s t (lp (s.drop i) t.id)
 |0,i,hn,hi=>by
   have:i=s.length:=by omega
   subst this;rw[g46L0e];simp[g46B0,lp,LZ]
 |n+1,i,hn,hi=>by
   have hi:i<s.length:=(by omega);obtain⟨x,hx⟩:=aV hi;unfold Sm at hS;have ih:=T_ hS t n (i+1) (by omega) (by omega);simp at ih;rw[g46L0e,bj hx];by_cases e:x.id=t.id
   ·simp (disch:=omega) [-getElem?_pos,g46B0,hx,hi,e,lp,LZ]
   ·simp (disch:=omega) [-getElem?_pos,g46B0,hx,hi,e,lp,ah,ih]
theorem Ua{s:List As}{t:Ty}(hS:Sm t.args)(h:∀x∈t.args,(aC AP).p 46 [x.pv,.au (s.map As.pv)]=some [(x.sub s).pv]):∀(n i:Nat),t.args.length-i=n→i≤t.args.length→∀acc:List Ty,acc=(t.args.take i).map (Ty.sub s) →
   cl AP g46L1 ⟨[(1,.pv (.au (s.map As.pv))),(2,.az 2 0),(4,.az 4 0),(6,.az 6 0),(7,.pv (vI i))],
     [(2,[.pv (vI t.kind),.pv (.str t.name),.pv (vI t.id),.pv (vI t.home),.pv (.au (t.args.map Ty.pv))]),(4,[.pv (vI 0),.pv (.str []),.pv (vI 0),.pv (vI 0),.own [] 0]),
       (6,[.pv (vI t.kind),.pv (.str t.name),.pv (vI t.id),.pv (vI t.home),.own (acc.map Ty.pv) 1])],[],[0,acc.length]⟩ =
     some (.exit 2,⟨[(1,.pv (.au (s.map As.pv))),(2,.az 2 0),(4,.az 4 0),(6,.az 6 0),(7,.pv (vI t.args.length)),(37,.pv (.bool false))],
     [(2,[.pv (vI t.kind),.pv (.str t.name),.pv (vI t.id),.pv (vI t.home),.pv (.au (t.args.map Ty.pv))]),(4,[.pv (vI 0),.pv (.str []),.pv (vI 0),.pv (vI 0),.own [] 0]),
       (6,[.pv (vI t.kind),.pv (.str t.name),.pv (vI t.id),.pv (vI t.home),.own ((t.args.map (Ty.sub s)).map Ty.pv) 1])],[],[0,t.args.length]⟩)
 |0,i,hn,hi,acc,ha=>by
   have:i=t.args.length:=by omega
   subst this;subst ha;rw[g46L1e];simp[g46B1]
 |n+1,i,hn,hi,acc,ha=>by
   have hi:i<t.args.length:=(by omega);obtain⟨x,hx⟩:=aV hi;unfold Sm at hS;have hb:(acc.length+1)*64≤140737488355328:=by subst ha;simp;omega
   have hc:=h x (aR hx);have ih:=Ua hS h n (i+1) (by omega) (by omega) (acc++[x.sub s]) (by rw[List.take_add_one,hx,ha];simp);rw[g46L1e]at ih⊢;simp at ih hc;simp (disch:=omega) [-getElem?_pos,g46B1,hx,hi,hc,hb,ah];rw[g46L1e];simp[ih]
theorem c46{s:List As}(hS:Sm s){t:Ty}(hO:t.Ok):(aC AP).p 46 [t.pv,.au (s.map As.pv)]=some [(t.sub s).pv]:=by
 revert hO
 refine Ty.dF (p:=fun t=>t.Ok→(aC AP).p 46 [t.pv,.au (s.map As.pv)]=some [(t.sub s).pv]) ?_ t;intro t ih hO;rw[ae (af:=g46) rfl rfl (by decide)];by_cases hk:t.kind=1
 · have h:=T_ hS t _ 0 rfl (by omega);rw[g46L0e]at h;simp at h;cases hf:lp s t.id with
   |none=>
     rw[hf]at h;simp[LZ,hk]at h;simp[g46,hk,g46L0e,h,Ty.sub_eq,hf]
   |some a=>
     rw[hf]at h;simp[LZ,hk]at h;simp[g46,hk,g46L0e,h,Ty.sub_eq,hf]
 ·have h:=Ua (s:=s) hO.sm (fun x hx=>ih x hx (hO.gw x hx)) _ 0 rfl (by omega) [] (by simp);rw[g46L1e]at h;simp at h;simp[g46,hk,g46L1e,h,Ty.sub_eq]
def aL(sh:Sh):Prop:=∀cs,some cs∈sh→∀v∈cs,∃p,v=AV.pv p
theorem mo{aI ts:aG}:∀{cs:List AV},(∀v∈cs,∃p,v=AV.pv p)→bh aI ts cs=(cs,aI,ts)
 |[],_=>rfl
 |v::r,h=>by
   obtain⟨p,rfl⟩:=h v (by simp);simp only[ud,AS,mo (cs:=r) (fun v hv=>h v (by simp[hv]))]
theorem aL.norm:∀{sh:Sh},aL sh→∀aI ts,a9 aI ts sh=(sh,aI,ts)
 |[],_,_,_=>rfl
 |none::sh,h,aI,ts=>by
   simp only[ue,aL.norm (sh:=sh) (fun cs hc=>h cs (by simp[hc]))]
 |some cs::sh,h,aI,ts=>by
   simp only[uf,mo (h cs (by simp)),aL.norm (sh:=sh) (fun cs hc=>h cs (by simp[hc]))]
theorem qB{n:Nat}:∀{cs:List AV},(∀v∈cs,∃p,v=AV.pv p)→cs.map (da n)=cs
 |[],_=>rfl
 |v::r,h=>by
   obtain⟨p,rfl⟩:=h v (by simp);simp only[List.map_cons,wv,qB (cs:=r) (fun v hv=>h v (by simp[hv]))]
theorem aL.shift:∀{sh:Sh},aL sh→∀n,ej n sh=sh
 |[],_,_=>rfl
 |none::sh,h,n=>by
   simp only[rL,aL.shift (sh:=sh) (fun cs hc=>h cs (by simp[hc]))]
 |some cs::sh,h,n=>by
   simp only[rM,qB (h cs (by simp)),aL.shift (sh:=sh) (fun cs hc=>h cs (by simp[hc]))]
theorem aL.app{a b:Sh}(ha:aL a)(hb:aL b):aL (a++b):=by
 intro cs hc;simp only[List.mem_append]at hc;rcases hc with hc|hc
 ·exact ha cs hc
 ·exact hb cs hc
theorem aL.one{cs:List AV}(h:∀v∈cs,∃p,v=AV.pv p):aL [some cs]:=by
 intro cs' hc;simp at hc;subst hc;exact h
@[simp] theorem Wv{α:Type}{l:List α}{x:α}:(l++[x])[l.length]?=some x:=by simp
def Ty.cl(t:Ty):List AV:=[.pv (vI t.kind),.pv (.str t.name),.pv (vI t.id),.pv (vI t.home),.pv (.au (t.args.map Ty.pv))]
def VZ:List AV:=[.pv (vI 0),.pv (.str []),.pv (vI 0),.pv (vI 0),.pv (.au [])]
def j_(d:List Ty)(m:Nat):List AV:=d.flatMap Ty.cl++(List.replicate m VZ).flatten
theorem L0{d:List Ty}:(d.flatMap Ty.cl).length=d.length*5:=by
 induction d with
 |nil=>rfl
 |cons a r ih=>simp[ih,Ty.cl,Nat.add_mul]
theorem OW{m:Nat}:((List.replicate m VZ).flatten).length=m*5:=by
 simp[VZ]
theorem Bx{d:List Ty}{m:Nat}:(j_ d m).length=(d.length+m)*5:=by
 simp only[j_,List.length_append,L0,OW,Nat.add_mul]
theorem yG{d:List Ty}{m:Nat}:∀v∈j_ d m,∃p,v=AV.pv p:=by
 intro v hv;simp only[j_,List.mem_append,List.mem_flatMap,List.mem_flatten,List.mem_replicate]at hv;rcases hv with⟨t,_,hv⟩|⟨l,⟨_,rfl⟩,hv⟩
 ·simp[Ty.cl]at hv;rcases hv with rfl|rfl|rfl|rfl|rfl<;>exact⟨_,rfl⟩
 ·simp[VZ]at hv;rcases hv with rfl|rfl|rfl|rfl|rfl<;>exact⟨_,rfl⟩
theorem bI{l:List AV}(h:∀v∈l,∃p,v=.pv p):bV l=false:=by
 cases l with
 |nil=>rfl
 |cons c r=>obtain⟨p,rfl⟩:=h c (by simp);rfl
@[simp] theorem SN{d:List Ty}{m:Nat}:bV (j_ d m)=false:=bI yG
theorem L1{a b:List AV}{x y:List PV}(ha:eA a=some x)(hb:eA b=some y):eA (a++b)=some (x++y):=by
 induction a generalizing x with
 |nil=>simp at ha;subst ha;exact hb
 |cons v r ih=>
   simp only[qp]at ha;simp only[List.cons_append,qp];cases h1:kM v with
   |none=>rw[h1]at ha;cases ha
   |some p=>
     cases h2:eA r with
     |none=>rw[h1,h2]at ha;cases ha
     |some q=>
       rw[h1,h2]at ha;simp at ha;subst ha;rw[ih h2];rfl
theorem L2:∀{d:List Ty},((eA (j_ d 0)).bind (dP 5 true d.length)).map PV.au=some (.au (d.map Ty.pv)):=by
 have key:∀d:List Ty,∃ps,eA (d.flatMap Ty.cl)=some ps∧(chunk 5 d.length ps).map PV.agg=d.map Ty.pv:=by
   intro d;induction d with
   |nil=>exact⟨[],rfl,rfl⟩
   |cons t r ih=>
     obtain⟨ps,h1,h2⟩:=ih;refine⟨[vI t.kind,.str t.name,vI t.id,vI t.home,.au (t.args.map Ty.pv)]++ps,?_,?_⟩
     ·rw[List.flatMap_cons];exact L1 (by simp[Ty.cl]) h1
     ·simp only[List.length_cons,chunk];simp[h2]
 intro d;obtain⟨ps,h1,h2⟩:=key d;have:j_ d 0=d.flatMap Ty.cl:=by simp[j_]
 rw[this,h1];simp only[Option.bind_some,dP,if_true,Option.map_some,h2]
theorem c22{s:List As}(hS:Sm s){t:Ty}(hO:t.Ok):(aC AP).p 22 [.au (s.map As.pv),t.pv]=some [(t.sub s).pv]:=by
 have h:=c46 hS hO;simp at h;rw[ae (af:=g22) rfl rfl (by decide)];simp[g22,h]
noncomputable instance:DecidableEq As:=fun _ _=>Classical.propDecidable _
theorem W9{as bs:List Ty}(hS:Sm as)(hl:as.length=bs.length)(h:∀x∈as,∀y,(aC AP).p 20 [x.pv,y.pv]=some [.bool (decide (x=y))]):∀(n i:Nat),as.length-i=n→i≤as.length →
   cl AP g57L0 ⟨[(0,.pv (.au (as.map Ty.pv))),(1,.pv (.au (bs.map Ty.pv))),(5,.pv (.int .i64 i))],[],[],[]⟩ =
     if as.drop i=bs.drop i then some (.exit 0,⟨[(0,.pv (.au (as.map Ty.pv))),(1,.pv (.au (bs.map Ty.pv))),(5,.pv (.int .i64 as.length)),(14,.pv (.bool false))],[],[],[]⟩)
     else some (.ret,⟨[(4,.pv (.bool false))],[],[],[]⟩)
 |0,i,hn,hi=>by
   have:i=as.length:=by omega
   subst this;rw[g57L0e];simp[g57B0,hl]
 |n+1,i,hn,hi=>by
   have hi:i<as.length:=(by omega);obtain⟨x,hx⟩:=aV hi;obtain⟨y,hy⟩:=aV (hl ▸ hi);have hc:=h x (aR hx) y;simp at hc;rw[g57L0e,bj hx,bj hy];unfold Sm at hS;have ih:=W9 hS hl h n (i+1) (by omega) (by omega);simp at ih;simp (disch:=omega) [-getElem?_pos,g57B0,hx,hy,hi,hc,ah,ih];by_cases e:x=y<;>simp[e]
theorem c57{as bs:List Ty}(hS:Sm as)(h:∀x∈as,∀y,(aC AP).p 20 [x.pv,y.pv]=some [.bool (decide (x=y))]) :
   (aC AP).p 57 [.au (as.map Ty.pv),.au (bs.map Ty.pv)]=some [.bool (decide (as=bs))]:=by
 rw[ae (af:=g57) rfl rfl (by decide)];by_cases hl:as.length=bs.length
 ·have hL:=W9 hS hl h _ 0 rfl (by omega);simp at hL;simp[g57,hl,hL];by_cases e:as=bs<;>simp[e]
 ·have:¬as=bs:=fun e=>hl (by rw[e]);simp[g57,hl,this];omega
theorem c20{a b:Ty}(hO:a.Ok):(aC AP).p 20 [a.pv,b.pv]=some [.bool (decide (a=b))]:=by
 revert b hO
 refine Ty.dF (p:=fun a=>∀{b:Ty},a.Ok→(aC AP).p 20 [a.pv,b.pv]=some [.bool (decide (a=b))]) ?_ a;intro a ih b hO;have h:=c57 (bs:=b.args) hO.sm (fun x hx y=>ih x hx (hO.gw x hx));rw[ae (af:=g20) rfl rfl (by decide)];simp[g20,h];cases a;cases b;simp
 (repeat' split)<;>simp_all
def iK(a b:Int):Int:=if a<b then -1 else if b<a then 1 else 0
def uF(a b:List UInt8):Int:=if cC.ee a b=true then -1 else if a=b then 0 else 1
def Cn:List Int→Int
 |[]=>0
 |x::r=>if x=0 then Cn r else x
mutual
def nD:Ty→Ty→Int
 |⟨k,n,i,h,as⟩,b=>if Cn [iK k b.kind,uF n b.name,iK i b.id,iK h b.home,iK as.length b.args.length]=0 then pG as b.args
     else Cn [iK k b.kind,uF n b.name,iK i b.id,iK h b.home,iK as.length b.args.length]
def pG:List Ty→List Ty→Int
 |[],[]=>0
 |[],_::_=>-1
 |_::_,[]=>1
 |a::r,b::s=>if nD a b=0 then pG r s else nD a b
end
def yH(a b:Ty):Int:=Cn [iK a.kind b.kind,uF a.name b.name,iK a.id b.id,iK a.home b.home,iK a.args.length b.args.length]
theorem yI(a b:Ty):nD a b=if yH a b=0 then pG a.args b.args else yH a b:=by
 cases a;simp only[nD,yH];rfl
theorem c113{n:Int}:(aC AP).p 113 [vI n]=some [.bool false]:=by
 rw[ae (af:=g113) rfl rfl (by decide)];simp[g113]
theorem c114{n:List UInt8}:(aC AP).p 114 [.str n]=some [.bool false]:=by
 rw[ae (af:=g114) rfl rfl (by decide)];simp[g114]
theorem c81{a b:Int}:(aC AP).p 81 [vI a,vI b]=some [vI (iK a b)]:=by
 have h1:=c113 (n:=a);have h2:=c113 (n:=b);rw[ae (af:=g81) rfl rfl (by decide)];simp[g81,h1,h2,iK]
 (repeat' split)<;>rfl
theorem c82{a b:List UInt8}:(aC AP).p 82 [.str a,.str b]=some [vI (uF a b)]:=by
 have h1:=c114 (n:=a);have h2:=c114 (n:=b);rw[ae (af:=g82) rfl rfl (by decide)];by_cases e1:cC.ee a b=true
 ·simp[g82,h1,h2,uF,e1]
 · have e1:cC.ee a b=false:=(by simpa using e1);by_cases e2:a=b
   ·subst e2;simp[g82,h1,h2,uF,e1]
   ·simp[g82,h1,h2,uF,e1,e2]
theorem c80{a b c d e:Int}:(aC AP).p 80 [.au [vI a,vI b,vI c,vI d,vI e]]=some [vI (Cn [a,b,c,d,e])]:=by
 rw[ae (af:=g80) rfl rfl (by decide)];by_cases h1:a=0
 · by_cases h2:b=0
   · by_cases h3:c=0
     · by_cases h4:d=0
       · by_cases h5:e=0
         ·simp (disch:=omega) [-getElem?_pos,g80,g80L0e,g80B0,ah,Cn,h1,h2,h3,h4,h5]
         ·simp (disch:=omega) [-getElem?_pos,g80,g80L0e,g80B0,ah,Cn,h1,h2,h3,h4,h5]
       ·simp (disch:=omega) [-getElem?_pos,g80,g80L0e,g80B0,ah,Cn,h1,h2,h3,h4]
     ·simp (disch:=omega) [-getElem?_pos,g80,g80L0e,g80B0,ah,Cn,h1,h2,h3]
   ·simp (disch:=omega) [-getElem?_pos,g80,g80L0e,g80B0,ah,Cn,h1,h2]
 ·simp (disch:=omega) [-getElem?_pos,g80,g80L0e,g80B0,ah,Cn,h1]
def Ub(as bs:List Ty)(sh:Sh)(l:Int)(c:Int)(eq:Bool):Option (bg×St):=
 if eq=true then some (.exit 0,⟨[(0,.pv (.au (as.map Ty.pv))),(1,.pv (.au (bs.map Ty.pv))),(2,.fn 35 []),(11,.pv (.au (as.map Ty.pv))),(12,.pv (vI l)),(13,.pv (vI l)),(14,.pv (.bool false))],[],sh,[]⟩)
 else some (.ret,⟨[(6,.pv (vI c))],[],sh,[]⟩)
theorem W_{as bs:List Ty}(hS:Sm as)(hl:as.length=bs.length)(h:∀x∈as,∀y,(aC AP).i 35 [.pv x.pv,.pv y.pv] [] []=some ([.pv (vI (nD x y))],[],[])):∀(n i:Nat),as.length-i=n→i≤as.length →
   cl AP g83L0 ⟨[(0,.pv (.au (as.map Ty.pv))),(1,.pv (.au (bs.map Ty.pv))),(2,.fn 35 []),(11,.pv (.au (as.map Ty.pv))),(12,.pv (vI as.length)),(13,.pv (vI i))],[],[],[]⟩ =
     Ub as bs [] as.length (pG (as.drop i) (bs.drop i)) (decide (pG (as.drop i) (bs.drop i)=0))
 |0,i,hn,hi=>by
   have:i=as.length:=by omega
   subst this;rw[g83L0e,mm (l:=bs) (by omega)];simp[g83B0,Ub,pG]
 |n+1,i,hn,hi=>by
   have hi:i<as.length:=(by omega);obtain⟨x,hx⟩:=aV hi;obtain⟨y,hy⟩:=aV (hl ▸ hi);have hc:=h x (aR hx) y;have ih:=W_ hS hl h n (i+1) (by omega) (by omega);unfold Sm at hS;have hb:¬bs.length≤i:=(by omega);rw[g83L0e]at ih⊢;rw[bj hx,bj hy];simp at ih hc;by_cases e:nD x y=0
   ·rw[e]at hc;simp (disch:=omega) [-getElem?_pos,g83B0,hx,hy,hi,hb,hc,ah];rw[g83L0e];simp[ih,pG,e]
   ·simp (disch:=omega) [-getElem?_pos,g83B0,hx,hy,hi,hb,hc,ah,e,Ub,pG]
theorem L3{a b:Ty}(h:yH a b=0):a.args.length=b.args.length:=by
 simp only[yH,Cn]at h
 have:iK a.args.length b.args.length=0:=by
   split at h
   · split at h
     · split at h
       · split at h
         · split at h
           ·assumption
           ·contradiction
         ·contradiction
       ·contradiction
     ·contradiction
   ·contradiction
 unfold iK at this;split at this
 ·cases this
 · split at this
   ·cases this
   ·omega
theorem c35_both{a:Ty}(hO:a.Ok):∀b:Ty,(aC AP).p 35 [a.pv,b.pv]=some [vI (nD a b)]∧(aC AP).i 35 [.pv a.pv,.pv b.pv] [] []=some ([.pv (vI (nD a b))],[],[]):=by
 revert hO
 refine Ty.dF (p:=fun a=>a.Ok→∀b:Ty,(aC AP).p 35 [a.pv,b.pv]=some [vI (nD a b)]∧(aC AP).i 35 [.pv a.pv,.pv b.pv] [] []=some ([.pv (vI (nD a b))],[],[])) ?_ a;intro a ih hO b;have k1:=c81 (a:=a.kind) (b:=b.kind);have k2:=c82 (a:=a.name) (b:=b.name);have k3:=c81 (a:=a.id) (b:=b.id);have k4:=c81 (a:=a.home) (b:=b.home);have k5:=c81 (a:=a.args.length) (b:=b.args.length);have k6:=c80 (a:=iK a.kind b.kind) (b:=uF a.name b.name) (c:=iK a.id b.id) (d:=iK a.home b.home) (e:=iK a.args.length b.args.length);have eH:Cn [iK a.kind b.kind,uF a.name b.name,iK a.id b.id,iK a.home b.home,iK a.args.length b.args.length]=yH a b:=rfl;rw[eH]at k6;have hS:=hO.sm;by_cases e:yH a b=0
 · have hl:=L3 e;have h:=W_ hS hl (fun x hx y=>(ih x hx (hO.gw x hx) y).2) _ 0 rfl (by omega);rw[g83L0e]at h;simp at h
   have c83:(aC AP).i 83 [.pv (.au (a.args.map Ty.pv)),.pv (.au (b.args.map Ty.pv)),.fn 35 []] [] []=some ([.pv (vI (pG a.args b.args))],[],[]):=by
     rw[aE (af:=g83) rfl (by simp[g83])];by_cases e2:pG a.args b.args=0
     · simp[Ub,e2]at h;have hlt:¬a.args.length<b.args.length:=by omega
       simp[g83,g83L0e,h,hlt,e2]
     ·simp[Ub,e2]at h;simp[g83,g83L0e,h]
   rw[e]at k6;rw[yI,if_pos e];constructor
   ·rw[ae (af:=g35) rfl rfl (by decide)];simp[g35,k1,k2,k3,k4,k5,k6,c83]
   ·rw[aE (af:=g35) rfl (by simp[g35])];simp[g35,k1,k2,k3,k4,k5,k6,c83]
 · rw[yI,if_neg e];constructor
   ·rw[ae (af:=g35) rfl rfl (by decide)];simp[g35,k1,k2,k3,k4,k5,k6,e]
   ·rw[aE (af:=g35) rfl (by simp[g35])];simp[g35,k1,k2,k3,k4,k5,k6,e]
theorem c35{a b:Ty}(hO:a.Ok):(aC AP).p 35 [a.pv,b.pv]=some [vI (nD a b)]:=(c35_both hO b).1
theorem c33{a b:Ty}(hO:a.Ok):(aC AP).p 33 [a.pv,b.pv]=some [.bool (nD a b == 0)]:=by
 have h:=c35 (b:=b) hO;simp at h;rw[ae (af:=g33) rfl rfl (by decide)];simp[g33,h]
theorem na:∀{s:List As} {id:Int} {t:Ty},lp s id=some t→∃a∈s,a.ty=t
 |a::r,id,t,h=>by
   simp only[lp]at h;split at h
   ·cases h;exact⟨a,by simp,rfl⟩
   ·obtain⟨b,hb,e⟩:=na h;exact⟨b,by simp[hb],e⟩
theorem ES{s:List As}(hs:∀a∈s,a.ty.Ok){t:Ty}(h:t.Ok):(t.sub s).Ok:=by
 revert h
 refine Ty.dF (p:=fun t=>t.Ok→(t.sub s).Ok) ?_ t;intro t ih h;rw[Ty.sub_eq];split
 · cases hf:lp s t.id with
   |none=>simpa using h
   |some a=>obtain⟨b,hb,rfl⟩:=na hf;simpa using hs b hb
 ·refine⟨by have:=h.sm;unfold Sm at *;simpa using this,?_⟩;intro x hx;simp at hx;obtain⟨y,hy,rfl⟩:=hx;exact ih y hy (h.gw y hy)
theorem yJ:∀{a b:List As} {id:Int},lp (a++b) id=(lp a id).or (lp b id)
 |[],b,id=>by simp[lp]
 |x::a,b,id=>by
   simp only[List.cons_append,lp];split
   ·rfl
   ·exact yJ
theorem rT:∀s:List UInt8,cC.ee s s=false
 |[]=>rfl
 |a::r=>by simp[cC.ee,rT r]
theorem Jh{a b:Int}:iK a b=0↔a=b:=by
 unfold iK;split
 · constructor
   ·intro h;cases h
   ·intro h;omega
 · split
   · constructor
     ·intro h;cases h
     ·intro h;omega
   · constructor
     ·intro _;omega
     ·intro _;rfl
theorem Ji{a b:List UInt8}:uF a b=0↔a=b:=by
 unfold uF;split
 · rename_i h;constructor
   ·intro e;cases e
   ·intro e;subst e;rw[rT]at h;cases h
 · split
   ·rename_i h;simp[h]
   ·rename_i h;simp[h]
theorem By:∀{l:List Int},Cn l=0↔∀x∈l,x=0
 |[]=>by simp[Cn]
 |x::r=>by
   simp only[Cn];split
   ·rename_i h;rw[By];simp[h]
   · rename_i h;constructor
     ·intro e;exact absurd e h
     ·intro e;exact e x (by simp)
theorem wM{a b:Ty}:yH a b=0↔a.kind=b.kind∧a.name=b.name∧a.id=b.id∧a.home=b.home∧a.args.length=b.args.length:=by
 unfold yH;rw[By];simp[Jh,Ji]
 intros;omega
theorem wO(a:Ty):∀b,nD a b=0↔a=b:=by
 refine Ty.dF (p:=fun a=>∀b,nD a b=0↔a=b) ?_ a;intro a ih b
 have key:∀(as bs:List Ty),(∀x∈as,∀b,nD x b=0↔x=b)→(pG as bs=0↔as=bs):=by
   intro as;induction as with
   |nil=>intro bs _;cases bs<;>simp[pG]
   |cons x r ih=>
     intro bs h;cases bs with
     |nil=>simp[pG]
     |cons y s=>
       simp only[pG];have hx:=h x (by simp) y;have hr:=ih s (fun z hz=>h z (by simp[hz]));split
       ·rename_i e;rw[hr];simp[hx.1 e]
       · rename_i e;constructor
         ·intro e';exact absurd e' e
         ·intro e';simp at e';exact absurd (hx.2 e'.1) e
 rw[yI];split
 ·rename_i h;rw[key _ _ ih];rw[wM]at h;cases a;cases b;simp at h⊢;simp[h]
 · rename_i h;constructor
   ·intro e;exact absurd e h
   ·intro e;subst e;exact absurd (wM.2 ⟨rfl,rfl,rfl,rfl,rfl⟩) h
theorem L4(a b:Ty):(nD a b == 0)=decide (a=b):=by
 by_cases h:a=b
 ·rw[decide_eq_true h,(wO a b).2 h];rfl
 ·rw[decide_eq_false h];simpa using fun e=>h ((wO a b).1 e)
theorem c33e{a b:Ty}(hO:a.Ok):(aC AP).p 33 [a.pv,b.pv]=some [.bool (decide (a=b))]:=by rw[c33 hO,L4]
def bM{α:Type}(p:α→Bool):List α→Option Nat
 |[]=>none
 |a::r=>if p a=true then some 0 else (bM p r).map (·+1)
theorem ji{α:Type}{p:α→Bool}:∀{l:List α},bM p l=none↔∀x∈l,p x=false
 |[]=>by simp[bM]
 |a::r=>by
   simp only[bM];by_cases h:p a=true
   ·simp[h]
   ·have h:p a=false:=(by simpa using h);simp[h,ji]
theorem sL{α:Type}{p:α→Bool}{l:List α}:(!(l.any fun x=>!p x))=l.all p:=by
 induction l with
 |nil=>rfl
 |cons a r ih=>simp[←ih]
structure El{α:Type}(f:α→PV)(sz:Nat)(ag:Bool):Prop where
 len:∀x,(aX (f x)).length=sz
 of:∀x,cO ag sz (aX (f x))=some (.pv (f x))
theorem El.head{α:Type}{f:α→PV}{sz:Nat}{ag:Bool}(h:El f sz ag)(l:List α):bf sz (l.map f)=true:=by
 cases l with
 |nil=>rfl
 |cons x r=>simp[bf,h.len x]
theorem oB:El vI 1 false:=⟨fun _=>rfl,fun _=>rfl⟩
theorem qC:El PV.str 1 false:=⟨fun _=>rfl,fun _=>rfl⟩
theorem Bz:El Ty.pv 5 true:=⟨fun x=>by simp,fun x=>by simp⟩
theorem Uc:El Dt.pv 4 true:=⟨fun x=>by simp,fun x=>by simp⟩
def yK(sz:Nat)(ag:Bool):aq:=
 (.seq
  (.iN [⟨some 9,none,[.t 8,.t 7],.v (.bin .lss)⟩] [0,1,7,8,9])
  (.seq
   (.cond (.t 9)
    .skip
    (.exit 0))
   (.seq
    (.block 1
     (.seq
      (.iN [⟨some 10,none,[.t 8],.v (.mv)⟩,
        ⟨some 5,none,[.t 10],.v (.mv)⟩] [0,1,5,7,8])
      (.seq
       (.iN [⟨some 11,none,[.t 1],.v (.mv)⟩,
         ⟨some 12,none,[.t 0],.v (.mv)⟩,
         ⟨some 13,none,[.t 5],.v (.mv)⟩,
         ⟨some 14,none,[.t 12,.t 13],.v (.eg sz)⟩,
         ⟨some 15,none,[.t 14],.d7 sz ag⟩,
         ⟨some 16,none,[.t 11,.t 15],.fJ⟩] [0,1,5,7,8,16])
       (.cond (.t 16)
        (.seq
         (.iN [⟨some 17,none,[.t 5],.v (.mv)⟩,
           ⟨some 4,none,[.t 17],.v (.mv)⟩] [4])
         .ret)
        .skip))))
    (.iN [⟨some 18,none,[.t 8,.c (.pv (.int .i64 1))],.v (.bin .add)⟩,
      ⟨some 8,none,[.t 18],.v (.mv)⟩] [0,1,7,8]))))
def L5(sz:Nat)(ag:Bool):aq:=.loop [0,1,7,8] (yK sz ag)
theorem pH{sz:Nat}{ag:Bool}{st:St}:cl AP (L5 sz ag) st=after (cl AP (L5 sz ag)) (cl AP (yK sz ag) (norm (restrict [0,1,7,8] st))):=aH
def sk(sz:Nat)(ag:Bool):aA:=⟨2,19,[.t 4],
 (.seq
  (.iN [⟨some 4,none,[.c (.pv (.int .i64 0))],.v (.mv)⟩] [0,1])
  (.seq
   (.seq
    (.iN [⟨some 6,none,[.t 0],.v (.mv)⟩,
      ⟨some 7,none,[.t 6],.v (.len)⟩,
      ⟨some 8,none,[.c (.pv (.int .i64 0))],.v (.mv)⟩] [0,1,7,8])
    (.block 0
     (L5 sz ag)))
   (.seq
    (.iN [⟨some 4,none,[.c (.pv (.int .i64 (-1)))],.v (.mv)⟩] [4])
    .ret))),none,false⟩
def RF(g:Nat):aA:=⟨2,9,[.t 4],
 (.seq
  (.iN [⟨some 4,none,[.c (.pv (.bool false))],.v (.mv)⟩] [0,1])
  (.seq
   (.iN [⟨some 5,none,[.t 0],.v (.mv)⟩,
     ⟨some 6,none,[.t 1],.v (.mv)⟩,
     ⟨some 7,none,[.t 5,.t 6],.bA g []⟩,
     ⟨some 8,none,[.t 7,.c (.pv (.int .i64 0))],.v (.bin .geq)⟩,
     ⟨some 4,none,[.t 8],.v (.mv)⟩] [4])
   .ret)),none,false⟩
def yL{α:Type}(F:AV)(sh:Sh)(f:α→PV)(p:α→Bool)(s:List α):Prop:=∀x∈s,exec (aC AP) .fJ [F,.pv (f x)] none sh []=some ⟨.pv (.bool (p x)),none,sh,[]⟩
def Jj{α:Type}(f:α→PV)(F:AV)(s:List α)(sh:Sh)(i:Nat):Option Nat→Option (bg×St)
 |some k=>some (.ret,⟨[(4,.pv (vI (i+k:Nat)))],[],sh,[]⟩)
 |none=>some (.exit 0,⟨[(0,.pv (.au (s.map f))),(1,F),(7,.pv (vI s.length)),(8,.pv (vI s.length)),(9,.pv (.bool false))],[],sh,[]⟩)
theorem Ud{α:Type}{f:α→PV}{sz:Nat}{ag:Bool}(he:El f sz ag){s:List α}(hS:Sm s){sh:Sh}(hq:aL sh){g:Nat}{cap:List AV}{p:α→Bool}(hcap:bE.ei cap=true)
   (hf:yL (.fn g cap) sh f p s):∀(n i:Nat),s.length-i=n→i≤s.length →
   cl AP (L5 sz ag) ⟨[(0,.pv (.au (s.map f))),(1,.fn g cap),(7,.pv (vI s.length)),(8,.pv (vI i))],[],sh,[]⟩=Jj f (.fn g cap) s sh i (bM p (s.drop i))
 |0,i,hn,hi=>by
   have:i=s.length:=by omega
   subst this;rw[pH];simp[yK,bM,Jj,hq.norm,hcap]
 |n+1,i,hn,hi=>by
   have hi:i<s.length:=(by omega);obtain⟨x,hx⟩:=aV hi;unfold Sm at hS;have ih:=Ud he hS hq hcap hf n (i+1) (by omega) (by omega);simp at ih;have hc:=hf x (aR hx);rw[pH,bj hx];cases e:p x with
   |true=>
     rw[e]at hc;simp (disch:=omega) [-getElem?_pos,-eG,yK,hx,hi,e,bM,Jj,hq.norm,hc,hcap,he.len,he.of]
   |false=>
     rw[e]at hc;simp (disch:=omega) [-getElem?_pos,-eG,yK,hx,hi,e,bM,ah,hq.norm,hc,ih,hcap,he.len,he.of];cases bM p (s.drop (i+1)) with
     |none=>rfl
     |some k=>simp[Jj];omega
def kb(o:Option Nat):Int:=match o with|some k=>k|none=>-1
theorem Ue{α:Type}{f:α→PV}{sz:Nat}{ag:Bool}(he:El f sz ag){k:Nat}(hk:AP k=some (sk sz ag)){s:List α}(hS:Sm s){sh:Sh}(hq:aL sh){g:Nat}{cap:List AV}{p:α→Bool}(hcap:bE.ei cap=true)
   (hf:yL (.fn g cap) sh f p s):(aC AP).i k [.pv (.au (s.map f)),.fn g cap] sh []=some ([.pv (vI (kb (bM p s)))],sh,[]):=by
 have h:=Ud he hS hq hcap hf _ 0 rfl (by omega);simp at h;rw[aE hk (by simp[sk])];cases hi:bM p s with
 |none=>rw[hi]at h;simp[Jj]at h;simp[sk,h,hq.norm,hcap,kb]
 |some k=>rw[hi]at h;simp[Jj]at h;simp[sk,h,hq.norm,hcap,kb]
theorem uG{α:Type}{p:α→Bool}{s:List α}:decide (0≤kb (bM p s))=s.any p:=by
 cases hi:bM p s with
 |none=>
   have:s.any p=false:=by rw[List.any_eq_false];intro x hx;rw[ji.1 hi x hx];simp
   rw[this];rfl
 |some k=>
   have:s.any p=true:=by
     cases e:s.any p with
     |true=>rfl
     |false=>rw[List.any_eq_false]at e;have:=ji.2 (fun x hx=>by simpa using e x hx);rw[hi]at this;cases this
   rw[this];simp[kb]
theorem L6{α:Type}{f:α→PV}{sz:Nat}{ag:Bool}(he:El f sz ag){m k:Nat}(hm:AP m=some (RF k))(hk:AP k=some (sk sz ag)){s:List α}(hS:Sm s){sh:Sh}(hq:aL sh){g:Nat}{cap:List AV}{p:α→Bool}(hcap:bE.ei cap=true)(hpass:bN.iW cap=true)(hnrm:∀aI ts,bh aI ts cap=(cap,aI,ts))
   (hf:yL (.fn g cap) sh f p s):(aC AP).i m [.pv (.au (s.map f)),.fn g cap] sh []=some ([.pv (.bool (s.any p))],sh,[]):=by
 have h:=Ue he hk hS hq hcap hf;rw[aE hm (by simp[RF])];rw[←uG];simp[RF,h,hq.norm,hq.shift,hcap,hpass,hnrm]
abbrev vC(c:Int):PV:=.int .u8 c
def Uf(c:Int):Bool:=decide (97≤c) && decide (c≤122)
def Ww(c:Int):Bool:=decide (65≤c) && decide (c≤90)
def Ug(c:Int):Bool:=decide (48≤c) && decide (c≤57)
def L7(c:Int):Bool:=Uf c || Ww c || Ug c || (c == 95)
def oC(s:List UInt8):Bool:=s.all fun b=>L7 b.toNat
def L8:List (List UInt8):=[[100,97,116,97],[108,101,116],[114,101,99],[105,110],[99,97,115,101],[111,102],[101,110,100]]
def L9(s:List UInt8):Bool:=L8.contains s
def lK(s:List UInt8)(lo hi:Int):Bool:=match s with
 |[]=>false
 |b::r=>decide (lo≤b.toNat) && decide ((b.toNat:Int)≤hi) && decide ((b::r).length≤12) && oC (b::r) && !L9 (b::r)
theorem BA{b:UInt8}{r:List UInt8}:oC (b::r)=(L7 b.toNat && oC r):=rfl
theorem ET:oC []=true:=rfl
theorem Xa{s:List UInt8}(hS:zd s):∀(n i:Nat),s.length-i=n→i≤s.length →
   cl AP g73L0 ⟨[(0,.pv (.str s)),(31,.pv (vI s.length)),(32,.pv (vI i))],[],[],[]⟩ =
     if oC (s.drop i)=true then some (.exit 0,⟨[(0,.pv (.str s)),(31,.pv (vI s.length)),(32,.pv (vI s.length)),(33,.pv (.bool false))],[],[],[]⟩)
     else some (.ret,⟨[(6,.pv (.bool false))],[],[],[]⟩)
 |0,i,hn,hi=>by
   have:i=s.length:=by omega
   subst this;rw[g73L0e];simp[g73B0,ET]
 |n+1,i,hn,hi=>by
   have hi:i<s.length:=(by omega);obtain⟨x,hx⟩:=aV hi;unfold zd at hS;have ih:=Xa hS n (i+1) (by omega) (by omega);simp at ih;rw[g73L0e,bj hx,BA];have key:L7 x.toNat=((decide (97≤(x.toNat:Int)) && decide ((x.toNat:Int)≤122)) || (decide (65≤(x.toNat:Int)) && decide ((x.toNat:Int)≤90)) || (decide (48≤(x.toNat:Int)) && decide ((x.toNat:Int)≤57)) || ((x.toNat:Int) == 95)):=rfl;rw[key];have hc:∃c:Int,c=x.toNat:=⟨_,rfl⟩;obtain⟨c,hc⟩:=hc;have e97:(97≤(x.toNat:Int))=(97≤c):=(by rw[hc]);rw[←hc]
   have goOn:∀b1 b2 b3 b4 b5 b6 b7:Bool,decide (97≤c)=b1→decide (c≤122)=b2→decide (65≤c)=b3→decide (c≤90)=b4→decide (48≤c)=b5→decide (c≤57)=b6→(c == 95)=b7 →
       after (cl AP g73L0) (cl AP g73B0 (norm (restrict [0,31,32] ⟨[(0,.pv (.str s)),(31,.pv (vI s.length)),(32,.pv (vI i))],[],[],[]⟩))) =
       if (((b1 && b2) || (b3 && b4) || (b5 && b6) || b7) && oC (s.drop (i+1)))=true then some (.exit 0,⟨[(0,.pv (.str s)),(31,.pv (vI s.length)),(32,.pv (vI s.length)),(33,.pv (.bool false))],[],[],[]⟩)
       else some (.ret,⟨[(6,.pv (.bool false))],[],[],[]⟩):=by
     intro b1 b2 b3 b4 b5 b6 b7 h1 h2 h3 h4 h5 h6 h7;have g8:decide (c<48)=!b5:=by rw[←h5,←decide_not];simp[Int.not_le]
     have g9:decide (57<c)=!b6:=by rw[←h6,←decide_not];simp[Int.not_le]
     cases b1<;>cases b3<;>cases b5<;>cases b2<;>cases b4<;>cases b6<;>cases b7 <;>
       (have k1:=h1;have k2:=h2;have k3:=h3;have k4:=h4;have k5:=h5;have k6:=h6;have k7:=h7
        simp only[decide_eq_true_eq,decide_eq_false_iff_not,beq_iff_eq,beq_eq_false_iff_ne,ne_eq]at k1 k2 k3 k4 k5 k6 k7
        first
        |(exfalso;omega)
        |(simp (disch:=omega) [-getElem?_pos,g73B0,hx,hi,←hc,k1,k2,k3,k4,k5,k6,k7,g8,g9,ah,ih];done))
   exact goOn _ _ _ _ _ _ _ rfl rfl rfl rfl rfl rfl rfl
theorem c73{s:List UInt8}(hS:zd s){lo hi:Int}:(aC AP).p 73 [.str s,vC lo,vC hi]=some [.bool (lK s lo hi)]:=by
 have h:=Xa hS _ 0 rfl (by omega);simp at h;rw[ae (af:=g73) rfl rfl (by decide)];cases s with
 |nil=>simp[g73,lK]
 |cons b r=>
   by_cases e3:r.length+1≤12
   · have e3':¬((12:Int)<r.length+1):=(by omega);have e0:¬((r.length:Int)+1<1):=(by omega);by_cases e1:(b.toNat:Int)<lo
     ·have e1':¬(lo≤(b.toNat:Int)):=(by omega);simp[g73,lK,e0,e3',e1,e1']
     · have e1':lo≤(b.toNat:Int):=(by omega);by_cases e2:hi<(b.toNat:Int)
       ·have e2':¬((b.toNat:Int)≤hi):=(by omega);simp[g73,lK,e0,e3',e1,e2,e2']
       · have e2':(b.toNat:Int)≤hi:=(by omega);cases e4:oC (b::r)
         ·simp[e4]at h;simp[g73,lK,e0,e3',e1,e2,e1',e2',h,e4]
         · simp[e4]at h;cases e5:L9 (b::r)
           · have k:∀k∈L8,¬(b::r)=k:=by
               intro k hk e;rw[e]at e5;simp only[L9]at e5;rw[List.contains_eq_mem]at e5;simp at e5;exact e5 hk
             have k1:=k [100,97,116,97] (by simp[L8]);have k2:=k [108,101,116] (by simp[L8]);have k3:=k [114,101,99] (by simp[L8]);have k4:=k [105,110] (by simp[L8]);have k5:=k [99,97,115,101] (by simp[L8]);have k6:=k [111,102] (by simp[L8]);have k7:=k [101,110,100] (by simp[L8]);have b1:((b::r) == [100,97,116,97])=false:=(by simpa using k1);have b2:((b::r) == [108,101,116])=false:=(by simpa using k2);have b3:((b::r) == [114,101,99])=false:=(by simpa using k3);have b4:((b::r) == [105,110])=false:=(by simpa using k4);have b5:((b::r) == [99,97,115,101])=false:=(by simpa using k5);have b6:((b::r) == [111,102])=false:=(by simpa using k6);have b7:((b::r) == [101,110,100])=false:=(by simpa using k7);simp[g73,lK,e0,e3',e1,e2,e1',e2',h,e4,e5,e3,-List.cons_beq_cons,b1,b2,b3,b4,b5,b6,b7]
           · simp only[L9,L8,List.contains_iff_mem,List.mem_cons,List.not_mem_nil,or_false]at e5
             rcases e5 with e|e|e|e|e|e|e<;>(simp only[List.cons.injEq]at e;obtain⟨rfl,rfl⟩:=e) <;>
               simp[lK,L9,L8]<;>(simp at e1 e2 h e1' e2';simp[g73,h,e1,e2])
   ·have e3':(12:Int)<r.length+1:=(by omega);simp[g73,lK,e3',e3]
def Jk(s:List UInt8)(n:Nat):Bool:=if s=[45,62] then decide (n=2) else if s=[73,110,116] then decide (n=0) else lK s 65 90 && decide (n≤4)
theorem c74{s:List UInt8}(hS:zd s){n:Nat}:(aC AP).p 74 [.str s,vI n]=some [.bool (Jk s n)]:=by
 have h:=c73 hS (lo:=65) (hi:=90);rw[ae (af:=g74) rfl rfl (by decide)];by_cases e1:s=[45,62]
 · have:((n:Int) == 2)=decide (n=2):=by rw[Bool.eq_iff_iff];simp;omega
   subst e1;simp[g74,Jk,this]
 · have b1:(s == [45,62])=false:=(by simpa using e1);by_cases e2:s=[73,110,116]
   · have:((n:Int) == 0)=decide (n=0):=by rw[Bool.eq_iff_iff];simp
     subst e2;simp[g74,Jk,this]
   ·have b2:(s == [73,110,116])=false:=(by simpa using e2);have:decide ((n:Int)≤4)=decide (n≤4):=(by rw[Bool.eq_iff_iff];simp;omega);cases e3:lK s 65 90<;>simp[e3]at h<;>simp[g74,Jk,e1,e2,b1,b2,h,e3,this]
mutual
def ir:Ty→Bool
 |⟨k,n,i,h,as⟩=>
   if k=1∨k=2 then decide (n=[]) && decide (as=[]) && decide (0≤i) && decide (i≤1000000) && (h == 0)
   else if k=3 then decide (n=[]) && decide (as=[]) && decide (0≤i) && decide (i≤1000000) && decide (-1≤h) && decide (h≤1000000)
   else if k=5 then decide (as=[]) && (i == 0) && (h == 0) && lK n 97 122
   else if k=4 then (i == 0) && (h == 0) && Jk n as.length && uH as
   else false
def uH:List Ty→Bool
 |[]=>true
 |a::r=>ir a && uH r
end
theorem uI:∀l:List Ty,uH l=l.all ir
 |[]=>by simp[uH]
 |a::r=>by simp[uH,uI r]
theorem Jl(t:Ty):ir t =
   if t.kind=1∨t.kind=2 then decide (t.name=[]) && decide (t.args=[]) && decide (0≤t.id) && decide (t.id≤1000000) && (t.home == 0)
   else if t.kind=3 then decide (t.name=[]) && decide (t.args=[]) && decide (0≤t.id) && decide (t.id≤1000000) && decide (-1≤t.home) && decide (t.home≤1000000)
   else if t.kind=5 then decide (t.args=[]) && (t.id == 0) && (t.home == 0) && lK t.name 97 122
   else if t.kind=4 then (t.id == 0) && (t.home == 0) && Jk t.name t.args.length && t.args.all ir
   else false:=by
 cases t;simp only[ir,uI]
def Jm(F:AV)(s:List Ty)(sh:Sh)(i:Nat):Option Nat→Option (bg×St)
 |some k=>some (.ret,⟨[(4,.pv (vI (i+k:Nat)))],[],sh,[]⟩)
 |none=>some (.exit 0,⟨[(0,.pv (.au (s.map Ty.pv))),(1,F),(7,.pv (vI s.length)),(8,.pv (vI s.length)),(9,.pv (.bool false))],[],sh,[]⟩)
theorem Uh{s:List Ty}(hS:Sm s){sh:Sh}(hq:aL sh){g:Nat}{cap:List AV}{p:Ty→Bool}(hcap:bE.ei cap=true)(hpass:bN.iW cap=true)(harg:dX [] 1 cap=cap)(hnrm:∀aI ts,bh aI ts cap=(cap,aI,ts))(hpo:cap.all bJ=true)
   (hf:∀x∈s,(aC AP).i g (.pv x.pv::cap) sh []=some ([.pv (.bool (p x))],sh,[])):∀(n i:Nat),s.length-i=n→i≤s.length →
   cl AP g107L0 ⟨[(0,.pv (.au (s.map Ty.pv))),(1,.fn g cap),(7,.pv (vI s.length)),(8,.pv (vI i))],[],sh,[]⟩=Jm (.fn g cap) s sh i (bM p (s.drop i))
 |0,i,hn,hi=>by
   have:i=s.length:=by omega
   subst this;rw[g107L0e];simp[g107B0,bM,Jm,hq.norm,hcap]
 |n+1,i,hn,hi=>by
   have hi:i<s.length:=(by omega);obtain⟨x,hx⟩:=aV hi;unfold Sm at hS;have ih:=Uh hS hq hcap hpass harg hnrm hpo hf n (i+1) (by omega) (by omega);simp at ih;have hc:=hf x (aR hx);simp at hc;rw[g107L0e,bj hx];cases e:p x with
   |true=>
     rw[e]at hc;simp (disch:=omega) [-getElem?_pos,g107B0,hx,hi,e,bM,Jm,hq.norm,hq.shift,hc,hcap,hpass,harg,hnrm,hpo]
   |false=>
     rw[e]at hc;simp (disch:=omega) [-getElem?_pos,g107B0,hx,hi,e,bM,ah,hq.norm,hq.shift,hc,ih,hcap,hpass,harg,hnrm,hpo];cases bM p (s.drop (i+1)) with
     |none=>rfl
     |some k=>simp[Jm];omega
theorem c75{s:List Ty}(hS:Sm s){sh:Sh}(hq:aL sh){g:Nat}{cap:List AV}{p:Ty→Bool}(hcap:bE.ei cap=true)(hpass:bN.iW cap=true)(harg:dX [] 1 cap=cap)(hnrm:∀aI ts,bh aI ts cap=(cap,aI,ts))(hpo:cap.all bJ=true)
   (hf:∀x∈s,(aC AP).i g (.pv x.pv::cap) sh []=some ([.pv (.bool (p x))],sh,[])):(aC AP).i 75 [.pv (.au (s.map Ty.pv)),.fn g cap] sh []=some ([.pv (.bool (s.any p))],sh,[]):=by
 have h:=Uh hS hq hcap hpass harg hnrm hpo hf _ 0 rfl (by omega);simp at h
 have c107:(aC AP).i 107 [.pv (.au (s.map Ty.pv)),.fn g cap] sh []=some ([.pv (vI (match bM p s with|some k=>k|none=>-1))],sh,[]):=by
   rw[aE (af:=g107) rfl (by simp[g107])];cases hi:bM p s with
   |none=>rw[hi]at h;simp[Jm]at h;simp[g107,h,hq.norm,hcap]
   |some k=>rw[hi]at h;simp[Jm]at h;simp[g107,h,hq.norm,hcap]
 rw[aE (af:=g75) rfl (by simp[g75])];cases hi:bM p s with
 |none=>
   rw[hi]at c107;have:s.any p=false:=by rw[List.any_eq_false];intro x hx;rw[ji.1 hi x hx];simp
   simp[g75,c107,hq.norm,hq.shift,hcap,hpass,hnrm,this]
 |some k=>
   rw[hi]at c107
   have:s.any p=true:=by
     cases e:s.any p with
     |true=>rfl
     |false=>rw[List.any_eq_false]at e;have:=ji.2 (fun x hx=>by simpa using e x hx);rw[hi]at this;cases this
   simp[g75,c107,hq.norm,hq.shift,hcap,hpass,hnrm,this]
inductive Ty.Nm:Ty→Prop
 |mk {t:Ty}:zd t.name→(∀x∈t.args,Ty.Nm x)→Ty.Nm t
theorem Ty.Nm.sm{t:Ty}(h:t.Nm):zd t.name:=by cases h;assumption
theorem Ty.Nm.gw{t:Ty}(h:t.Nm):∀x∈t.args,x.Nm:=by cases h;assumption
theorem c29{t:Ty}(hO:t.Ok)(hN:t.Nm):(aC AP).p 29 [t.pv]=some [.bool (ir t)]:=by
 revert hO hN
 refine Ty.dF (p:=fun t=>t.Ok→t.Nm→(aC AP).p 29 [t.pv]=some [.bool (ir t)]) ?_ t;intro t ih hO hN;have ht:=c74 hN.sm (n:=t.args.length);have hl:=c73 hN.sm (lo:=97) (hi:=122)
 have hc:=c75 hO.sm (sh:=[]) (by intro cs h;simp at h) (g:=76) (cap:=[]) (p:=fun x=>!ir x) rfl rfl rfl (fun _ _=>rfl) rfl (by
   intro x hx;have hx':=ih x hx (hO.gw x hx) (hN.gw x hx);simp at hx';rw[aE (af:=g76) rfl (by simp[g76])];simp[g76,hx'])
 have hany:=sL (p:=ir) (l:=t.args);rw[ae (af:=g29) rfl rfl (by decide),Jl];have h0:((t.args.length:Int) == 0)=decide (t.args=[]):=by rw[Bool.eq_iff_iff];simp
 by_cases k1:t.kind=1
 · simp[g29,k1,h0]
   (repeat' split)<;>simp_all<;>omega
 · by_cases k2:t.kind=2
   · simp[g29,k2,h0]
     (repeat' split)<;>simp_all<;>omega
   · by_cases k3:t.kind=3
     · simp[g29,k3,h0]
       (repeat' split)<;>simp_all<;>omega
     · by_cases k5:t.kind=5
       · simp[g29,k5,h0,hl]
         (repeat' split)<;>simp_all<;>omega
       · by_cases k4:t.kind=4
         · simp[g29,k4,h0,ht,hc]
           (repeat' split)<;>simp_all<;>omega
         ·simp[g29,k1,k2,k3,k4,k5,h0]
abbrev Sc:=As
structure En where
 name:List UInt8
 sc:Sc
 deriving Inhabited
def En.pv(a:En):PV:=.agg [.str a.name,.int .i64 a.sc.id,.int .i64 a.sc.ty.kind,.str a.sc.ty.name,.int .i64 a.sc.ty.id,.int .i64 a.sc.ty.home,.au (a.sc.ty.args.map Ty.pv)]
@[simp] theorem En.ml(a:En):a.pv=.agg [.str a.name,.int .i64 a.sc.id,.int .i64 a.sc.ty.kind,.str a.sc.ty.name,.int .i64 a.sc.ty.id,.int .i64 a.sc.ty.home,.au (a.sc.ty.args.map Ty.pv)]:=rfl
@[simp] theorem En.eta(t:En):En.mk t.name t.sc=t:=rfl
theorem Ui:El En.pv 7 true:=⟨fun x=>by simp,fun x=>by simp⟩
noncomputable instance:DecidableEq En:=fun _ _=>Classical.propDecidable _
@[simp] theorem SO{l:List En}:bf 7 (l.map En.pv)=true:=Ui.head l
def mq:Sc:=⟨0,⟨0,[],0,0,[]⟩⟩
def FX:List En→List UInt8→Option Sc
 |[],_=>none
 |a::r,s=>match FX r s with
   |some c=>some c
   |none=>if a.name=s then some a.sc else none
theorem L_(l:List En)(a:En)(s:List UInt8):FX (l++[a]) s=if a.name=s then some a.sc else FX l s:=by
 induction l with
 |nil=>simp[FX]
 |cons b r ih=>
   simp only[List.cons_append,FX,ih];by_cases h:a.name=s
   ·simp[h]
   ·simp[h]
def OX(o:Option Sc):List PV:=[(o.getD mq).pv,.bool o.isSome]
theorem Uj{l:List En}(hS:Sm l){s:List UInt8}:∀(k:Nat),k≤l.length →
   cl AP g181L0 ⟨[(0,.pv (.au (l.map En.pv))),(1,.pv (.str s)),(4,.az 4 0),(6,.pv (vI ((k:Int)-1)))],[(4,[.pv (vI 0),.pv (vI 0),.pv (.str []),.pv (vI 0),.pv (vI 0),.own [] 0])],[],[0]⟩ =
     match FX (l.take k) s with
     |some c=>some (.ret,⟨[(4,.az 4 0),(5,.pv (.bool true))],[(4,[.pv (vI c.id),.pv (vI c.ty.kind),.pv (.str c.ty.name),.pv (vI c.ty.id),.pv (vI c.ty.home),.pv (.au (c.ty.args.map Ty.pv))])],[],[0]⟩)
     |none=>some (.exit 0,⟨[(0,.pv (.au (l.map En.pv))),(1,.pv (.str s)),(4,.az 4 0),(6,.pv (vI (-1))),(11,.pv (.bool false))],[(4,[.pv (vI 0),.pv (vI 0),.pv (.str []),.pv (vI 0),.pv (vI 0),.own [] 0])],[],[0]⟩)
 |0,_=>by
   rw[g181L0e];simp[g181B0,FX]
 |k+1,hk=>by
   obtain⟨x,hx⟩:=aV (l:=l) (i:=k) (by omega);have ih:=Uj hS (s:=s) k (by omega);unfold Sm at hS;have e1:((k+1:Nat):Int)-1=k:=by omega
   rw[g181L0e,e1,List.take_add_one,hx];simp only[Option.toList_some,L_];by_cases e:x.name=s
   ·simp (disch:=omega) [-getElem?_pos,g181B0,hx,e]
   ·simp (disch:=omega) [-getElem?_pos,g181B0,hx,e,ah];simpa using ih
theorem c181{l:List En}(hS:Sm l){s:List UInt8}:(aC AP).p 181 [.au (l.map En.pv),.str s]=some (OX (FX l s)):=by
 have h:=Uj hS (s:=s) l.length (Nat.le_refl _);unfold Sm at hS;rw[ae (af:=g181) rfl rfl (by decide)];rw[List.take_length]at h;rw[g181L0e]at h;cases e:FX l s with
 |none=>
   rw[e]at h;simp at h;simp (disch:=omega) [g181,ah,g181L0e,h,OX,mq]
 |some c=>
   rw[e]at h;simp at h;simp (disch:=omega) [g181,ah,g181L0e,h,OX]
structure SP{α:Type}(f:α→PV)(cs:α→List PV)(sz:Nat):Prop where
 eq:∀x,f x=.agg (cs x)
 len:∀x,(cs x).length=sz
 leaf:∀x,((cs x).map AV.pv).all aT=true
def Uk(z1 z2:List PV)(s1 s2:Nat):aq:=
 (.seq
  (.iN [⟨some 18,none,[.t 17,.t 16],.v (.bin .lss)⟩] [1,2,15,16,17,18])
  (.seq
   (.cond (.t 18)
    .skip
    (.exit 0))
   (.seq
    (.block 1
     (.seq
      (.iN [⟨some 19,none,[.t 17],.v (.mv)⟩,
        ⟨some 20,none,[.t 15,.t 17],.v (.eg s1)⟩,
        ⟨some 21,none,[.t 20],.d7 s1 true⟩,
        ⟨some 8,none,[],.alloc 8 z1⟩,
        ⟨some 7,none,[.t 19],.v (.mv)⟩,
        ⟨none,none,[.t 8,.t 21],.bC 8 0 s1⟩] [1,2,7,8,15,16,17])
      (.seq
       (.iN [⟨some 22,none,[.t 1],.v (.mv)⟩,
         ⟨some 23,none,[.t 7],.v (.mv)⟩,
         ⟨some 24,none,[.t 22,.t 23],.v (.eg s2)⟩,
         ⟨some 25,none,[.t 24],.d7 s2 true⟩,
         ⟨some 9,none,[],.alloc 9 z2⟩,
         ⟨none,none,[.t 9,.t 25],.bC 9 0 s2⟩] [1,2,8,9,15,16,17])
       (.seq
        (.iN [⟨some 26,none,[.t 2],.v (.mv)⟩,
          ⟨some 27,none,[.t 8],.bY 8 0 s1 true⟩,
          ⟨some 28,none,[.t 9],.bY 9 0 s2 true⟩,
          ⟨some 29,none,[.t 26,.t 27,.t 28],.fJ⟩,
          ⟨some 30,none,[.t 29],.v (.un .not)⟩] [1,2,15,16,17,30])
        (.cond (.t 30)
         (.seq
          (.iN [⟨some 6,none,[.c (.pv (.bool false))],.v (.mv)⟩] [6])
          .ret)
         .skip)))))
    (.iN [⟨some 31,none,[.t 17,.c (.pv (.int .i64 1))],.v (.bin .add)⟩,
      ⟨some 17,none,[.t 31],.v (.mv)⟩] [1,2,15,16,17]))))
def V0(z1 z2:List PV)(s1 s2:Nat):aq:=.loop [1,2,15,16,17] (Uk z1 z2 s1 s2)
theorem L'{z1 z2:List PV}{s1 s2:Nat}{st:St}:cl AP (V0 z1 z2 s1 s2) st=after (cl AP (V0 z1 z2 s1 s2)) (cl AP (Uk z1 z2 s1 s2) (norm (restrict [1,2,15,16,17] st))):=aH
def Ul(z1 z2:List PV)(s1 s2:Nat):aA:=⟨3,32,[.t 6],
 (.seq
  (.iN [⟨some 6,none,[.c (.pv (.bool false))],.v (.mv)⟩] [0,1,2])
  (.seq
   (.seq
    (.iN [⟨some 10,none,[.t 0],.v (.mv)⟩,
      ⟨some 11,none,[.t 10],.v (.len)⟩,
      ⟨some 12,none,[.t 1],.v (.mv)⟩,
      ⟨some 13,none,[.t 12],.v (.len)⟩,
      ⟨some 14,none,[.t 11,.t 13],.v (.bin .neq)⟩] [0,1,2,14])
    (.cond (.t 14)
     (.seq
      (.iN [⟨some 6,none,[.c (.pv (.bool false))],.v (.mv)⟩] [6])
      .ret)
     .skip))
   (.seq
    (.seq
     (.iN [⟨some 15,none,[.t 0],.v (.mv)⟩,
       ⟨some 16,none,[.t 15],.v (.len)⟩,
       ⟨some 17,none,[.c (.pv (.int .i64 0))],.v (.mv)⟩] [1,2,15,16,17])
     (.block 0
      (V0 z1 z2 s1 s2)))
    (.seq
     (.iN [⟨some 6,none,[.c (.pv (.bool true))],.v (.mv)⟩] [6])
     .ret)))),none,false⟩
def Ma{α β:Type}(F:AV)(sh:Sh)(c:α→List PV)(d:β→List PV)(p:α→β→Bool)(s:List α):Prop:=
 ∀x∈s,∀y,exec (aC AP) .fJ [F,.agg ((c x).map .pv),.agg ((d y).map .pv)] none sh []=some ⟨.pv (.bool (p x y)),none,sh,[]⟩
def lP{α β:Type}(p:α→β→Bool):List α→List β→Bool
 |[],[]=>true
 |x::r,y::t=>p x y && lP p r t
 |_,_=>false
theorem BB{α β:Type}{p:α→β→Bool}:∀{a:List α} {b:List β},lP p a b=true→a.length=b.length
 |[],[],_=>rfl
 |x::r,y::t,h=>by simp only[lP,Bool.and_eq_true]at h;simp[BB h.2]
 |[],_::_,h=>by simp[lP]at h
 |_::_,[],h=>by simp[lP]at h
def Um{α β:Type}(f:α→PV)(g:β→PV)(F:AV)(a:List α)(b:List β)(sh:Sh)(t:Bool):Option (bg×St):=
 if t=true then some (.exit 0,⟨[(1,.pv (.au (b.map g))),(2,F),(15,.pv (.au (a.map f))),(16,.pv (vI a.length)),(17,.pv (vI a.length)),(18,.pv (.bool false))],[],sh,[]⟩)
 else some (.ret,⟨[(6,.pv (.bool false))],[],sh,[]⟩)
theorem Xb{α β:Type}{f:α→PV}{g:β→PV}{c:α→List PV}{d:β→List PV}{s1 s2:Nat}(hf:SP f c s1)(hg:SP g d s2){z1 z2:List PV}(h1:z1.length=s1)(h2:z2.length=s2){a:List α}{b:List β}(hS:Sm a)(hl:a.length=b.length)
   {sh:Sh} (hq:aL sh) {k:Nat} {cap:List AV} {p:α→β→Bool} (hcap:bE.ei cap=true) (hp:Ma (.fn k cap) sh c d p a):∀(n i:Nat),a.length-i=n→i≤a.length →
   cl AP (V0 z1 z2 s1 s2) ⟨[(1,.pv (.au (b.map g))),(2,.fn k cap),(15,.pv (.au (a.map f))),(16,.pv (vI a.length)),(17,.pv (vI i))],[],sh,[]⟩=Um f g (.fn k cap) a b sh (lP p (a.drop i) (b.drop i))
 |0,i,hn,hi=>by
   have:i=a.length:=by omega
   subst this;rw[L',mm (l:=b) (by omega),mm (l:=a) (by omega)];simp[Uk,Um,lP,hq.norm,hcap]
 |n+1,i,hn,hi=>by
   have hi:i<a.length:=(by omega);obtain⟨x,hx⟩:=aV hi;obtain⟨y,hy⟩:=aV (hl ▸ hi);unfold Sm at hS;have ih:=Xb hf hg h1 h2 hS hl hq hcap hp n (i+1) (by omega) (by omega);simp at ih;have hc:=hp x (aR hx) y;rw[L',bj hx,bj hy];have u1:=hf.len x;have u2:=hg.len y;have e1:(z1.map bB.zeroCell).drop s1=[]:=(by rw[List.drop_eq_nil_of_le];simp[h1]);have e2:(z2.map bB.zeroCell).drop s2=[]:=(by rw[List.drop_eq_nil_of_le];simp[h2]);have t1:((c x).map AV.pv).take s1=(c x).map AV.pv:=(by rw[List.take_of_length_le];simp[u1]);have t2:((d y).map AV.pv).take s2=(d y).map AV.pv:=(by rw[List.take_of_length_le];simp[u2]);have q1:(c x).take s1=c x:=(by rw[List.take_of_length_le];omega);have q2:(d y).take s2=d y:=(by rw[List.take_of_length_le];omega);have w1:=hf.leaf x;have w2:=hg.leaf y;cases e:p x y with
   |true=>
     rw[e]at hc;simp (disch:=omega) [-getElem?_pos,-eG,-List.all_map,-List.map_take,-List.map_drop,-List.map_eq_nil_iff,Uk,hx,hy,hi,e,lP,ah,hq.norm,hc,ih,hcap,hf.eq,hg.eq,u1,u2,h1,h2,e1,e2,t1,t2,q1,q2,w1,w2]
   |false=>
     rw[e]at hc;simp (disch:=omega) [-getElem?_pos,-eG,-List.all_map,-List.map_take,-List.map_drop,-List.map_eq_nil_iff,Uk,hx,hy,hi,e,lP,Um,hq.norm,hc,hcap,hf.eq,hg.eq,u1,u2,h1,h2,e1,e2,t1,t2,q1,q2,w1,w2]
theorem Xs{α β:Type}{f:α→PV}{g:β→PV}{c:α→List PV}{d:β→List PV}{s1 s2:Nat}(hf:SP f c s1)(hg:SP g d s2){z1 z2:List PV}(h1:z1.length=s1)(h2:z2.length=s2){m:Nat}(hm:AP m=some (Ul z1 z2 s1 s2)){a:List α}{b:List β}(hS:Sm a)
   {sh:Sh} (hq:aL sh) {k:Nat} {cap:List AV} {p:α→β→Bool} (hcap:bE.ei cap=true) (hp:Ma (.fn k cap) sh c d p a) :
   (aC AP).i m [.pv (.au (a.map f)),.pv (.au (b.map g)),.fn k cap] sh []=some ([.pv (.bool (lP p a b))],sh,[]):=by
 rw[aE hm (by simp[Ul])];by_cases hl:a.length=b.length
 · have h:=Xb hf hg h1 h2 hS hl hq hcap hp _ 0 rfl (by omega);simp at h;cases e:lP p a b with
   |true=>rw[e]at h;simp[Um]at h;simp[Ul,h,hq.norm,hcap,hl.symm]
   |false=>rw[e]at h;simp[Um]at h;simp[Ul,h,hq.norm,hcap,hl.symm]
 · have e:lP p a b=false:=by
     cases e:lP p a b with
     |true=>exact absurd (BB e) hl
     |false=>rfl
   simp[Ul,hq.norm,hcap,hl,e];omega
section
variable {P:Program} {n:Nat} {t e:TypeId} {p:PV}
theorem yM(hu:P.underlying t=some (.int .i64))(h:wD P n t p):∃i,p=vI i:=by
 cases n with
 |zero=>simp[wD]at h
 |succ n=>simp only[wD,hu]at h;obtain⟨i,rfl,_⟩:=h;exact⟨i,rfl⟩
theorem Mb{α:Type}{f:α→PV}(hu:P.underlying t=some (.slice e))(he:∀(m:Nat) (q:PV),wD P m e q→∃x,q=f x)(h:wD P n t p):∃l:List α,p=.au (l.map f):=by
 cases n with
 |zero=>simp[wD]at h
 |succ n=>
   simp only[wD,hu]at h;obtain⟨els,rfl,_,h⟩:=h
   have key:∀els:List PV,(∀q∈els,wD P n e q)→∃l:List α,els=l.map f:=by
     intro els;induction els with
     |nil=>intro _;exact⟨[],rfl⟩
     |cons q r ih=>
       intro h;obtain⟨x,rfl⟩:=he n q (h q (by simp));obtain⟨l,rfl⟩:=ih (fun q hq=>h q (by simp[hq]));exact⟨x::l,rfl⟩
   obtain⟨l,rfl⟩:=key els h;exact⟨l,rfl⟩
theorem BC(hu:P.underlying t=some (.slice e))(he:P.underlying e=some (.int .i64))(h:wD P n t p):∃L:List Int,p=.au (L.map vI):=
 Mb hu (fun _ _ h=>yM he h) h
end
end Go.Ab.Lw
namespace Go.Ab.Lw
open Ev
def pI(s:List UInt8):Ty:=⟨5,s,0,0,[]⟩
theorem c106{s:List UInt8}:(aC AP).p 106 [.str s]=some [(pI s).pv]:=by
 rw[ae (af:=g106) rfl rfl (by decide)];simp[g106,pI]
def mr:List Ty:=[pI [97],pI [98],pI [99]]
theorem c67:(aC AP).p 67 []=some [.au (mr.map Ty.pv)]:=by
 have h1:=c106 (s:=[97]);have h2:=c106 (s:=[98]);have h3:=c106 (s:=[99]);simp at h1 h2 h3;rw[ae (af:=g67) rfl rfl (by decide)];simp[g67,h1,h2,h3,mr]
def Un:aq:=
 (.seq
  (.iN [⟨some 9,none,[.t 8,.t 7],.v (.bin .lss)⟩] [0,1,7,8,9])
  (.seq
   (.cond (.t 9)
    .skip
    (.exit 0))
   (.seq
    (.block 1
     (.seq
      (.iN [⟨some 10,none,[.t 8],.v (.mv)⟩,
        ⟨some 5,none,[.t 10],.v (.mv)⟩] [0,1,5,7,8])
      (.seq
       (.iN [⟨some 11,none,[.t 1],.v (.mv)⟩,
         ⟨some 12,none,[.t 0],.v (.mv)⟩,
         ⟨some 13,none,[.t 5],.v (.mv)⟩,
         ⟨some 14,none,[.t 12,.t 13],.v (.eg 1)⟩,
         ⟨some 15,none,[.t 14],.v (.fH 1 false)⟩,
         ⟨some 16,none,[.t 11,.t 15],.v (.bin .eql)⟩] [0,1,5,7,8,16])
       (.cond (.t 16)
        (.seq
         (.iN [⟨some 17,none,[.t 5],.v (.mv)⟩,
           ⟨some 4,none,[.t 17],.v (.mv)⟩] [4])
         .ret)
        .skip))))
    (.iN [⟨some 18,none,[.t 8,.c (.pv (.int .i64 1))],.v (.bin .add)⟩,
      ⟨some 8,none,[.t 18],.v (.mv)⟩] [0,1,7,8]))))
def V1:aq:=.loop [0,1,7,8] Un
theorem Mc{st:St}:cl AP V1 st=after (cl AP V1) (cl AP Un (norm (restrict [0,1,7,8] st))):=aH
def Uo:aA:=⟨2,19,[.t 4],
 (.seq
  (.iN [⟨some 4,none,[.c (.pv (.int .i64 0))],.v (.mv)⟩] [0,1])
  (.seq
   (.seq
    (.iN [⟨some 6,none,[.t 0],.v (.mv)⟩,
      ⟨some 7,none,[.t 6],.v (.len)⟩,
      ⟨some 8,none,[.c (.pv (.int .i64 0))],.v (.mv)⟩] [0,1,7,8])
    (.block 0
     V1))
   (.seq
    (.iN [⟨some 4,none,[.c (.pv (.int .i64 (-1)))],.v (.mv)⟩] [4])
    .ret))),none,false⟩
def Wx(g:Nat):aA:=⟨2,9,[.t 4],
 (.seq
  (.iN [⟨some 4,none,[.c (.pv (.bool false))],.v (.mv)⟩] [0,1])
  (.seq
   (.iN [⟨some 5,none,[.t 0],.v (.mv)⟩,
     ⟨some 6,none,[.t 1],.v (.mv)⟩,
     ⟨some 7,none,[.t 5,.t 6],.aJ g⟩,
     ⟨some 8,none,[.t 7,.c (.pv (.int .i64 0))],.v (.bin .geq)⟩,
     ⟨some 4,none,[.t 8],.v (.mv)⟩] [4])
   .ret)),none,false⟩
structure V5{α:Type}[DecidableEq α](f:α→PV):Prop where
 el:El f 1 false
 eq:∀x y,bB (.bin .eql) [.pv (f x),.pv (f y)]=some (.pv (.bool (decide (x=y))))
theorem OY:V5 PV.str:=⟨qC,fun x y=>by simp;rw[Bool.eq_iff_iff];simp⟩
def SQ{α:Type}(f:α→PV)(s:List α)(y:α)(i:Nat):Option Nat→Option (bg×St)
 |some k=>some (.ret,⟨[(4,.pv (vI (i+k:Nat)))],[],[],[]⟩)
 |none=>some (.exit 0,⟨[(0,.pv (.au (s.map f))),(1,.pv (f y)),(7,.pv (vI s.length)),(8,.pv (vI s.length)),(9,.pv (.bool false))],[],[],[]⟩)
theorem Xc{α:Type}[DecidableEq α]{f:α→PV}(he:V5 f){s:List α}(hS:Sm s)(y:α):∀(n i:Nat),s.length-i=n→i≤s.length →
   cl AP V1 ⟨[(0,.pv (.au (s.map f))),(1,.pv (f y)),(7,.pv (vI s.length)),(8,.pv (vI i))],[],[],[]⟩=SQ f s y i (bM (fun x=>decide (y=x)) (s.drop i))
 |0,i,hn,hi=>by
   have:i=s.length:=by omega
   subst this;rw[Mc];simp[Un,bM,SQ]
 |n+1,i,hn,hi=>by
   have hi:i<s.length:=(by omega);obtain⟨x,hx⟩:=aV hi;unfold Sm at hS;have ih:=Xc he hS y n (i+1) (by omega) (by omega);simp at ih;have h1:=he.el.len x;have h2:=he.el.of x;have h3:=he.eq y x;rw[Mc,bj hx];by_cases e:y=x
   ·rw[decide_eq_true e]at h3;simp (disch:=omega) [-getElem?_pos,Un,hx,hi,e,bM,SQ,h1,h2];rw[←e]at h3⊢;simp[h3]
   · rw[decide_eq_false e]at h3;simp (disch:=omega) [-getElem?_pos,Un,hx,hi,e,bM,ah,ih,h1,h2,h3];cases bM (fun x=>decide (y=x)) (s.drop (i+1)) with
     |none=>rfl
     |some k=>simp[SQ];omega
theorem Xt{α:Type}[DecidableEq α]{f:α→PV}(he:V5 f){k:Nat}(hk:AP k=some Uo){s:List α}(hS:Sm s){y:α}:(aC AP).p k [.au (s.map f),f y]=some [vI (kb (bM (fun x=>decide (y=x)) s))]:=by
 have h:=Xc he hS y _ 0 rfl (by omega);simp at h;rw[ae hk rfl (by simp[Uo])];cases hi:bM (fun x=>decide (y=x)) s with
 |none=>rw[hi]at h;simp[SQ]at h;simp[Uo,h,kb]
 |some k=>rw[hi]at h;simp[SQ]at h;simp[Uo,h,kb]
theorem OZ{α:Type}[DecidableEq α]{s:List α}{y:α}:(s.any fun x=>decide (y=x))=decide (y∈s):=by
 rw[Bool.eq_iff_iff];simp
theorem Xu{α:Type}[DecidableEq α]{f:α→PV}(he:V5 f){m k:Nat}(hm:AP m=some (Wx k))(hk:AP k=some Uo){s:List α}(hS:Sm s){y:α}:(aC AP).p m [.au (s.map f),f y]=some [.bool (decide (y∈s))]:=by
 have h:=Xt he hk hS (y:=y);rw[ae hm rfl (by simp[Wx]),←OZ,←uG];simp[Wx,h]
theorem Xd{s:List Int}(hS:Sm s)(y:Int):∀(n i:Nat),s.length-i=n→i≤s.length →
   cl AP g95L0 ⟨[(0,.pv (.au (s.map vI))),(1,.pv (vI y)),(5,.pv (vI i))],[],[],[]⟩ =
     if y∈s.drop i then some (.ret,⟨[(4,.pv (.bool true))],[],[],[]⟩) else some (.exit 0,⟨[(0,.pv (.au (s.map vI))),(1,.pv (vI y)),(5,.pv (vI s.length)),(9,.pv (.bool false))],[],[],[]⟩)
 |0,i,hn,hi=>by
   have:i=s.length:=by omega
   subst this;rw[g95L0e];simp[g95B0]
 |n+1,i,hn,hi=>by
   have hi:i<s.length:=(by omega);obtain⟨x,hx⟩:=aV hi;unfold Sm at hS;have ih:=Xd hS y n (i+1) (by omega) (by omega);simp at ih;rw[g95L0e,bj hx];by_cases e:x=y
   ·simp (disch:=omega) [-getElem?_pos,g95B0,hx,hi,e]
   ·have e':¬y=x:=fun h=>e h.symm;simp (disch:=omega) [-getElem?_pos,g95B0,hx,hi,e,e',ah,ih]
theorem c95{s:List Int}(hS:Sm s){y:Int}:(aC AP).p 95 [.au (s.map vI),vI y]=some [.bool (decide (y∈s))]:=by
 have h:=Xd hS y _ 0 rfl (by omega);simp at h;rw[ae (af:=g95) rfl rfl (by decide)];by_cases e:y∈s<;>simp[g95,h,e]
mutual
def Ty.nodes:Ty→List Ty
 |⟨k,n,i,h,as⟩=>⟨k,n,i,h,as⟩::Ty.uJ as
def Ty.uJ:List Ty→List Ty
 |[]=>[]
 |a::r=>a.nodes++Ty.uJ r
end
theorem Ty.wP:∀l:List Ty,Ty.uJ l=l.flatMap Ty.nodes
 |[]=>by simp[Ty.uJ]
 |a::r=>by simp[Ty.uJ,Ty.wP r]
theorem Ty.aM(t:Ty):t.nodes=t::t.args.flatMap Ty.nodes:=by cases t;simp only[Ty.nodes,Ty.wP]
theorem gF{α:Type}[DecidableEq α]:∀{l S:List α},l.Nodup→(∀x∈l,x∈S)→l.length≤S.length
 |[],_,_,_=>by simp
 |x::r,S,hn,h=>by
   have hx:=h x (by simp)
   have hr:=gF (l:=r) (S:=S.erase x) (List.nodup_cons.1 hn).2 (fun y hy=>by
     rw[List.mem_erase_of_ne]
     ·exact h y (by simp[hy])
     ·rintro rfl;exact (List.nodup_cons.1 hn).1 hy)
   have:=List.length_erase_of_mem hx;have:0<S.length:=List.length_pos_of_mem hx;simp;omega
def eC(out:List Int)(x:Ty):List Int:=if x.kind=1∧x.id∉out then out++[x.id] else out
structure lQ(S out:List Int):Prop where
 nodup:out.Nodup
 sub:∀x∈out,x∈S
 Jn:S.length<1099511627776
theorem lQ.len{S out:List Int}(h:lQ S out):Sm out:=by
 have:=gF h.nodup h.sub;have:=h.Jn;unfold Sm;omega
theorem lQ.add{S out:List Int}(h:lQ S out){x:Ty}(hx:x.kind=1→x.id∈S):lQ S (eC out x):=by
 unfold eC;split
 · rename_i e;refine⟨?_,?_,h.Jn⟩
   · rw[List.nodup_append];refine⟨h.nodup,by simp,?_⟩;intro a ha b hb;simp at hb;subst hb
     rintro rfl;exact e.2 ha
   · intro y hy;simp at hy;rcases hy with hy|rfl
     ·exact h.sub y hy
     ·exact hx e.1
 ·exact h
theorem lQ.fold{S:List Int}:∀{l:List Ty} {out:List Int},lQ S out→(∀x∈l,x.kind=1→x.id∈S)→lQ S (l.foldl eC out)
 |[],_,h,_=>h
 |x::r,out,h,hx=>by
   simp only[List.foldl_cons];exact lQ.fold (h.add (hx x (by simp))) (fun y hy=>hx y (by simp[hy]))
def vars(l:List Ty):List Int:=(l.flatMap Ty.nodes).foldl eC []
theorem uK{S:List Int}(h:S.length<1099511627776):lQ S []:=⟨by simp,by simp,h⟩
mutual
def Ty.fe(k:Int):Ty→List Ty
 |⟨kd,n,i,h,as⟩=>if kd=k∧as.length=0 then [⟨kd,n,i,h,as⟩] else Ty.Md k as
def Ty.Md(k:Int):List Ty→List Ty
 |[]=>[]
 |a::r=>a.fe k++Ty.Md k r
end
theorem Ty.FY(k:Int):∀l:List Ty,Ty.Md k l=l.flatMap (Ty.fe k)
 |[]=>by simp[Ty.Md]
 |a::r=>by simp[Ty.Md,Ty.FY k r]
theorem Ty.mu(k:Int)(t:Ty):t.fe k=if t.kind=k∧t.args.length=0 then [t] else t.args.flatMap (Ty.fe k):=by cases t;simp only[Ty.fe,Ty.FY]
noncomputable def gW(out:List Ty)(x:Ty):List Ty:=if x∈out then out else out++[x]
structure gm(S out:List Ty):Prop where
 nodup:out.Nodup
 sub:∀x∈out,x∈S
 Jn:S.length<1099511627776
 ok:∀x∈S,x.Ok
theorem gm.len{S out:List Ty}(h:gm S out):Sm out:=by
 have:=gF h.nodup h.sub;have:=h.Jn;unfold Sm;omega
theorem gm.add{S out:List Ty}(h:gm S out){x:Ty}(hx:x∈S):gm S (gW out x):=by
 unfold gW;split
 ·exact h
 · rename_i e;refine⟨?_,?_,h.Jn,h.ok⟩
   · rw[List.nodup_append];refine⟨h.nodup,by simp,?_⟩;intro a ha b hb;simp at hb;subst hb
     rintro rfl;exact e ha
   · intro y hy;simp at hy;rcases hy with hy|rfl
     ·exact h.sub y hy
     ·exact hx
theorem gm.fold{S:List Ty}:∀{l:List Ty} {out:List Ty},gm S out→(∀x∈l,x∈S)→gm S (l.foldl gW out)
 |[],_,h,_=>h
 |x::r,out,h,hx=>by
   simp only[List.foldl_cons];exact gm.fold (h.add (hx x (by simp))) (fun y hy=>hx y (by simp[hy]))
theorem Up{S out:List Ty}(h:gm S out)(t:Ty):∀(n i:Nat),out.length-i=n→i≤out.length →
   cl AP g99L0 ⟨[(0,.own (out.map Ty.pv) 0),(4,.az 4 0),(7,.pv (vI i))],[(4,[.pv (vI t.kind),.pv (.str t.name),.pv (vI t.id),.pv (vI t.home),.pv (.au (t.args.map Ty.pv))])],[],[out.length]⟩ =
     if t∈out.drop i then some (.ret,⟨[(6,.own (out.map Ty.pv) 0)],[],[],[out.length]⟩)
     else some (.exit 0,⟨[(0,.own (out.map Ty.pv) 0),(4,.az 4 0),(7,.pv (vI out.length)),(22,.pv (.bool false))],[(4,[.pv (vI t.kind),.pv (.str t.name),.pv (vI t.id),.pv (vI t.home),.pv (.au (t.args.map Ty.pv))])],[],[out.length]⟩)
 |0,i,hn,hi=>by
   have:i=out.length:=by omega
   subst this;rw[g99L0e];simp[g99B0]
 |n+1,i,hn,hi=>by
   have hi:i<out.length:=(by omega);obtain⟨x,hx⟩:=aV hi;have hS:=h.len;unfold Sm at hS;have k:=c20 (b:=t) (h.ok x (h.sub x (aR hx)));have ih:=Up h t n (i+1) (by omega) (by omega);rw[g99L0e]at ih⊢;rw[bj hx];simp at ih k;by_cases e:x=t
   ·subst e;rw[decide_eq_true rfl]at k;simp (disch:=omega) [-getElem?_pos,g99B0,hx,hi,k]
   ·have e':¬t=x:=fun h=>e h.symm;rw[decide_eq_false e]at k;simp (disch:=omega) [-getElem?_pos,g99B0,hx,hi,k,e',ah];rw[g99L0e];simp[ih]
theorem Uq{S:List Ty}{kd:Int}{t:Ty}(hS:Sm t.args)(h:∀x∈t.args,∀out,gm S out→(aC AP).i 99 [.own (out.map Ty.pv) 0,.pv x.pv,.pv (vI kd)] [] [out.length]=some ([.own (((x.fe kd).foldl gW out).map Ty.pv) 0],[],[((x.fe kd).foldl gW out).length]))
   (hk:∀x∈t.args.flatMap (Ty.fe kd),x∈S):∀(n i:Nat),t.args.length-i=n→i≤t.args.length→∀out,gm S out →
   cl AP g99L1 ⟨[(0,.own (out.map Ty.pv) 0),(2,.pv (vI kd)),(4,.az 4 0),(8,.pv (vI i))],[(4,[.pv (vI t.kind),.pv (.str t.name),.pv (vI t.id),.pv (vI t.home),.pv (.au (t.args.map Ty.pv))])],[],[out.length]⟩ =
     some (.exit 2,⟨[(0,.own ((((t.args.drop i).flatMap (Ty.fe kd)).foldl gW out).map Ty.pv) 0),(2,.pv (vI kd)),(4,.az 4 0),(8,.pv (vI t.args.length)),(40,.pv (.bool false))],[(4,[.pv (vI t.kind),.pv (.str t.name),.pv (vI t.id),.pv (vI t.home),.pv (.au (t.args.map Ty.pv))])],[],[(((t.args.drop i).flatMap (Ty.fe kd)).foldl gW out).length]⟩)
 |0,i,hn,hi,out,hc=>by
   have:i=t.args.length:=by omega
   subst this;rw[g99L1e];simp[g99B1]
 |n+1,i,hn,hi,out,hc=>by
   have hi:i<t.args.length:=(by omega);obtain⟨x,hx⟩:=aV hi;unfold Sm at hS;have hkx:∀y∈x.fe kd,y∈S:=fun y hy=>hk y (by simp only[List.mem_flatMap];exact⟨x,aR hx,hy⟩)
   have k:=h x (aR hx) out hc;have ih:=Uq hS h hk n (i+1) (by omega) (by omega) _ (hc.fold hkx);rw[g99L1e]at ih⊢;rw[bj hx];simp at k ih;simp (disch:=omega) [-getElem?_pos,g99B1,hx,hi,k,ah];rw[g99L1e];simp[ih]
theorem c99{S:List Ty}{kd:Int}{t:Ty}(hO:t.Ok)(hk:∀x∈t.fe kd,x∈S):∀out,gm S out →
   (aC AP).i 99 [.own (out.map Ty.pv) 0,.pv t.pv,.pv (vI kd)] [] [out.length]=some ([.own (((t.fe kd).foldl gW out).map Ty.pv) 0],[],[((t.fe kd).foldl gW out).length]):=by
 revert hO hk
 refine Ty.dF (p:=fun t=>t.Ok→(∀x∈t.fe kd,x∈S)→∀out,gm S out →
   (aC AP).i 99 [.own (out.map Ty.pv) 0,.pv t.pv,.pv (vI kd)] [] [out.length]=some ([.own (((t.fe kd).foldl gW out).map Ty.pv) 0],[],[((t.fe kd).foldl gW out).length])) ?_ t
 intro t ih hO hk out hc;rw[Ty.mu]at hk⊢;have hl:=hc.len;unfold Sm at hl;have hb:(out.length+1)*64≤140737488355328:=by omega
 rw[aE (af:=g99) rfl (by simp[g99])];by_cases e:t.kind=kd∧t.args.length=0
 · rw[if_pos e]at hk⊢;obtain⟨e1,e2⟩:=e;subst e1;have e3:t.args=[]:=by simpa using e2
   have h:=Up hc t _ 0 rfl (by omega);rw[g99L0e]at h;simp[e3]at h;by_cases em:t∈out
   · simp[em]at h;have ea:gW out t=out:=by simp[gW,em]
     simp[g99,e3,g99L0e,h,ea]
   · simp[em]at h;have ea:gW out t=out++[t]:=by simp[gW,em]
     simp[g99,e3,g99L0e,h,ea,hb]
 · rw[if_neg e]at hk⊢;have h:=Uq (S:=S) (kd:=kd) hO.sm (fun x hx out hc=>ih x hx (hO.gw x hx) (fun y hy=>hk y (by simp only[List.mem_flatMap];exact⟨x,hx,hy⟩)) out hc) hk _ 0 rfl (by omega) out hc;rw[g99L1e]at h;simp at h;by_cases e1:t.kind=kd
   · have e2:¬t.args.length=0:=fun h=>e ⟨e1,h⟩;have e3:¬t.args=[]:=by simpa using e2
     subst e1;simp[g99,e2,e3,g99L1e,h]
   ·simp[g99,e1,g99L1e,h]
def qD(out:List Int)(x:Ty):List Int:=if x.id∈out then out else out++[x.id]
noncomputable def nb(l:List Ty):List Int:=((l.flatMap (Ty.fe 1)).foldl gW []).foldl qD []
theorem Ur{S:List Ty}{l:List Ty}(hS:Sm l)(hO:∀t∈l,t.Ok)(hk:∀x∈l.flatMap (Ty.fe 1),x∈S):∀(n i:Nat),l.length-i=n→i≤l.length→∀out,gm S out →
   cl AP g56L0 ⟨[(0,.pv (.au (l.map Ty.pv))),(3,.own (out.map Ty.pv) 0),(4,.pv (vI i))],[],[],[out.length]⟩ =
     some (.exit 0,⟨[(0,.pv (.au (l.map Ty.pv))),(3,.own ((((l.drop i).flatMap (Ty.fe 1)).foldl gW out).map Ty.pv) 0),(4,.pv (vI l.length)),(10,.pv (.bool false))],[],[],[(((l.drop i).flatMap (Ty.fe 1)).foldl gW out).length]⟩)
 |0,i,hn,hi,out,hc=>by
   have:i=l.length:=by omega
   subst this;rw[g56L0e];simp[g56B0]
 |n+1,i,hn,hi,out,hc=>by
   have hi:i<l.length:=(by omega);obtain⟨x,hx⟩:=aV hi;unfold Sm at hS;have hkx:∀y∈x.fe 1,y∈S:=fun y hy=>hk y (by simp only[List.mem_flatMap];exact⟨x,aR hx,hy⟩)
   have k:=c99 (kd:=1) (hO x (aR hx)) hkx out hc;have ih:=Ur hS hO hk n (i+1) (by omega) (by omega) _ (hc.fold hkx);rw[g56L0e]at ih⊢;rw[bj hx];simp at k ih;simp (disch:=omega) [-getElem?_pos,g56B0,hx,hi,k,ah];rw[g56L0e];simp[ih]
theorem Me{l:List Ty}{out:List Int}:(l.foldl qD out).length≤out.length+l.length:=by
 induction l generalizing out with
 |nil=>simp
 |cons x r ih=>
   simp only[List.foldl_cons,List.length_cons];have:=ih (out:=qD out x);have h2:(qD out x).length≤out.length+1:=by unfold qD;split<;>simp
   omega
theorem RG{S l:List Ty}(hc:gm S l):∀(n i:Nat),l.length-i=n→i≤l.length→∀out:List Int,out.length≤i →
   cl AP g56L1 ⟨[(3,.own (l.map Ty.pv) 0),(5,.own (out.map vI) 1),(6,.pv (vI i))],[],[],[l.length,out.length]⟩ =
     some (.exit 2,⟨[(3,.own (l.map Ty.pv) 0),(5,.own (((l.drop i).foldl qD out).map vI) 1),(6,.pv (vI l.length)),(22,.pv (.bool false))],[],[],[l.length,((l.drop i).foldl qD out).length]⟩)
 |0,i,hn,hi,out,ho=>by
   have:i=l.length:=by omega
   subst this;rw[g56L1e];simp[g56B1]
 |n+1,i,hn,hi,out,ho=>by
   have hi:i<l.length:=(by omega);obtain⟨x,hx⟩:=aV hi;have hS:=hc.len;unfold Sm at hS;have k:=c95 (s:=out) (by unfold Sm;omega) (y:=x.id);have hb:(out.length+1)*8≤140737488355328:=(by omega);have hh:bf 1 (out.map vI)=true:=oB.head out;rw[bj hx];by_cases e:x.id∈out
   ·have ih:=RG hc n (i+1) (by omega) (by omega) out (by omega);have ea:qD out x=out:=(by simp[qD,e]);rw[g56L1e]at ih⊢;rw[decide_eq_true e]at k;simp at ih;simp (disch:=omega) [-getElem?_pos,g56B1,hx,hi,k,ah];rw[g56L1e];simp[ih,ea]
   ·have ih:=RG hc n (i+1) (by omega) (by omega) (out++[x.id]) (by simp;omega);have ea:qD out x=out++[x.id]:=(by simp[qD,e]);rw[g56L1e]at ih⊢;rw[decide_eq_false e]at k;simp at ih;simp (disch:=omega) [-getElem?_pos,g56B1,hx,hi,k,ah,hb,hh];rw[g56L1e];simp[ih,ea]
theorem c56{S:List Ty}(hf:S.length<1099511627776)(hSo:∀x∈S,x.Ok){l:List Ty}(hS:Sm l)(hO:∀t∈l,t.Ok)(hk:∀x∈l.flatMap (Ty.fe 1),x∈S):(aC AP).p 56 [.au (l.map Ty.pv)]=some [.au ((nb l).map vI)]:=by
 have c0:gm S []:=⟨by simp,by simp,hf,hSo⟩;have h1:=Ur hS hO hk _ 0 rfl (by omega) [] c0;have h2:=RG (c0.fold (l:=l.flatMap (Ty.fe 1)) hk) _ 0 rfl (by omega) [] (by simp);rw[ae (af:=g56) rfl rfl (by decide)];rw[g56L0e]at h1;rw[g56L1e]at h2;simp at h1 h2;simp[g56,g56L0e,h1,g56L1e,h2,nb]
theorem Jo{t:Ty}(hW:t.Wf):∀out,t.nodes.foldl eC out=(t.fe 1).foldl eC out:=by
 revert hW
 refine Ty.dF (p:=fun t=>t.Wf→∀out,t.nodes.foldl eC out=(t.fe 1).foldl eC out) ?_ t;intro t ih hW out
 have flat:∀(as:List Ty),(∀x∈as,x∈t.args)→∀out,(as.flatMap Ty.nodes).foldl eC out=(as.flatMap (Ty.fe 1)).foldl eC out:=by
   intro as;induction as with
   |nil=>intro _ _;rfl
   |cons a r ihr=>
     intro h out;simp only[List.flatMap_cons,List.foldl_append];rw[ih a (h a (by simp)) (hW.gw a (h a (by simp))),ihr (fun x hx=>h x (by simp[hx]))]
 rw[Ty.aM,Ty.mu];by_cases e:t.kind=1
 ·have ea:=hW.var e;simp[e,ea]
 · have:eC out t=out:=by simp[eC,e]
   simp only[List.foldl_cons,this];rw[if_neg (fun h=>e h.1)];exact flat t.args (fun _ h=>h) out
theorem Mf{k:Int}{t x:Ty}(h:x∈t.fe k):x.kind=k∧x.args=[]:=by
 revert h
 refine Ty.dF (p:=fun t=>x∈t.fe k→x.kind=k∧x.args=[]) ?_ t;intro t ih h;rw[Ty.mu]at h;split at h
 ·rename_i e;simp at h;subst h;exact⟨e.1,by simpa using e.2⟩
 ·simp only[List.mem_flatMap]at h;obtain⟨y,hy,hx⟩:=h;exact ih y hy hx
theorem Mg{l:List Ty}{out:List Int}{x:Ty}(hk:x.kind=1)(h:x∈l):x.id∈l.foldl eC out:=by
 have mono:∀(l:List Ty) (out:List Int) (i:Int),i∈out→i∈l.foldl eC out:=by
   intro l;induction l with
   |nil=>intro out i h;exact h
   |cons y r ih=>
     intro out i h;simp only[List.foldl_cons];refine ih _ _ ?_;unfold eC;split<;>simp[h]
 induction l generalizing out with
 |nil=>simp at h
 |cons y r ih=>
   simp only[List.foldl_cons];simp at h;rcases h with rfl|h
   · refine mono _ _ _ ?_;unfold eC;split
     ·simp
     ·rename_i e;simp[hk]at e;exact e
   ·exact ih h
theorem Jp(l:List Ty)(hk:∀x∈l,x.kind=1):∀acc:List Ty,(l.foldl gW acc).foldl eC []=l.foldl eC (acc.foldl eC []):=by
 induction l with
 |nil=>intro acc;rfl
 |cons x r ih=>
   intro acc;simp only[List.foldl_cons];rw[ih (fun y hy=>hk y (by simp[hy]))];congr 1;unfold gW;split
   ·rename_i e;have:=Mg (out:=[]) (hk x (by simp)) e;simp[eC,this]
   ·simp
theorem Jq(l:List Ty)(hk:∀x∈l,x.kind=1):∀out,l.foldl qD out=l.foldl eC out:=by
 induction l with
 |nil=>intro out;rfl
 |cons x r ih=>
   intro out;simp only[List.foldl_cons];rw[ih (fun y hy=>hk y (by simp[hy]))];congr 1;unfold qD eC;have:=hk x (by simp);by_cases e:x.id∈out<;>simp[e,this]
theorem Mh{l acc:List Ty}{x:Ty}(h:x∈l.foldl gW acc):x∈acc∨x∈l:=by
 induction l generalizing acc with
 |nil=>exact .inl h
 |cons y r ih=>
   simp only[List.foldl_cons]at h;rcases ih h with h|h
   · unfold gW at h;split at h
     ·exact .inl h
     · simp at h;rcases h with h|rfl
       ·exact .inl h
       ·right;simp
   ·right;simp[h]
theorem uL{l:List Ty}(hW:∀t∈l,t.Wf):nb l=vars l:=by
 have hk:∀x∈l.flatMap (Ty.fe 1),x.kind=1:=fun x hx=>by
   simp only[List.mem_flatMap]at hx;obtain⟨t,_,h⟩:=hx;exact (Mf h).1
 unfold nb vars;rw[Jq _ (fun x hx=>by rcases Mh hx with h|h;simp at h;exact hk x h),Jp _ hk]
 have:∀(l:List Ty),(∀t∈l,t.Wf)→∀out,(l.flatMap (Ty.fe 1)).foldl eC out=(l.flatMap Ty.nodes).foldl eC out:=by
   intro l;induction l with
   |nil=>intro _ _;rfl
   |cons a r ih=>
     intro h out;simp only[List.flatMap_cons,List.foldl_append];rw[Jo (h a (by simp)),ih (fun t ht=>h t (by simp[ht]))]
 exact this l hW []
theorem c176{t:Ty}:(aC AP).p 176 [t.pv]=some [(As.mk 0 t).pv]:=by
 rw[ae (af:=g176) rfl rfl (by decide)];simp[g176]
theorem c179{l:List En}(hS:Sm l){n:List UInt8}{c:Sc}:(aC AP).p 179 [.au (l.map En.pv),.str n,c.pv]=some [.au ((l++[En.mk n c]).map En.pv)]:=by
 unfold Sm at hS;have hb:(l.length+1)*88≤140737488355328:=by omega
 have hb':l.length*88≤140737488355328:=by omega
 rw[ae (af:=g179) rfl rfl (by decide)];cases l with
 |nil=>simp[g179]
 |cons a r=>
   simp at hb hb';simp[g179,hb,hb']
def dm:List En→List En
 |[]=>[]
 |a::r=>if (r.any fun x=>decide (x.name=a.name))=true then dm r else a::dm r
theorem Wy{sz:Nat}{l:List PV}{k:IntKind}{h:Int}(h0:0≤h)(h1:h≤l.length)(hs:bf sz l=true):dK false sz true false false [.pv (.au l),.pv (.int k h)]=some (.pv (.au (l.drop h.toNat))):=by
 simp[dK,cJ,eK,h0,h1,hs]
theorem any_none{r:List En}{a:En}:(r.any fun x=>decide (x.name=a.name))=true↔∃c,FX r a.name=some c:=by
 induction r with
 |nil=>simp[FX]
 |cons b r ih=>
   simp only[List.any_cons,Bool.or_eq_true,ih,FX,decide_eq_true_eq];cases h:FX r a.name with
   |some c=>simp
   |none=>by_cases e:b.name=a.name<;>simp[e]
theorem mw(l:List En):∀x∈dm l,x∈l:=by
 induction l with
 |nil=>simp[dm]
 |cons a r ih=>
   intro x hx;simp only[dm]at hx;split at hx
   ·simp[ih x hx]
   · simp at hx;rcases hx with rfl|hx
     ·simp
     ·simp[ih x hx]
theorem uM(l:List En):(dm l).length≤l.length:=by
 induction l with
 |nil=>simp[dm]
 |cons a r ih=>
   simp only[dm];split<;>simp<;>omega
def varNames:List (List UInt8):=[[120],[121],[122],[102],[103],[118,49],[118,50],[105,100]]
def cL(ids:List Int):List Int→List As→List As
 |[],acc=>acc
 |v::r,acc=>cL ids r (if v∈ids then acc++[⟨v,cy acc.length⟩] else acc)
def pJ(ids:List Int)(t:Ty)(vs:List Int):Sc:=⟨(cL ids vs []).length,t.sub (cL ids vs [])⟩
theorem RH{t:Ty}{ids vs:List Int}(hS:Sm vs)(hi:Sm ids):∀(n i:Nat),vs.length-i=n→i≤vs.length→∀acc:List As,acc.length≤i →
   cl AP g208L0 ⟨[(1,.pv (.au (ids.map vI))),(2,.az 2 0),(4,.az 4 0),(5,.pv (.au (vs.map vI))),(6,.own (acc.map As.pv) 0),(7,.pv (vI i))],[(2,[.pv (vI t.kind),.pv (.str t.name),.pv (vI t.id),.pv (vI t.home),.pv (.au (t.args.map Ty.pv))]),(4,[.pv (vI 0),.pv (vI 0),.pv (.str []),.pv (vI 0),.pv (vI 0),.own [] 1])],[],[acc.length,0]⟩ =
     some (.exit 0,⟨[(1,.pv (.au (ids.map vI))),(2,.az 2 0),(4,.az 4 0),(5,.pv (.au (vs.map vI))),(6,.own ((cL ids (vs.drop i) acc).map As.pv) 0),(7,.pv (vI vs.length)),(14,.pv (.bool false))],[(2,[.pv (vI t.kind),.pv (.str t.name),.pv (vI t.id),.pv (vI t.home),.pv (.au (t.args.map Ty.pv))]),(4,[.pv (vI 0),.pv (vI 0),.pv (.str []),.pv (vI 0),.pv (vI 0),.own [] 1])],[],[(cL ids (vs.drop i) acc).length,0]⟩)
 |0,i,hn,hi',acc,ha=>by
   have:i=vs.length:=by omega
   subst this;rw[g208L0e];simp[g208B0,cL]
 |n+1,i,hn,hi',acc,ha=>by
   have hi':i<vs.length:=(by omega);obtain⟨x,hx⟩:=aV hi';unfold Sm at hS;have k:=c95 hi (y:=x);have k2:=c72 (n:=acc.length);have hb:(acc.length+1)*72≤140737488355328:=(by omega);rw[bj hx];by_cases e:x∈ids
   ·have ih:=RH (t:=t) hS hi n (i+1) (by omega) (by omega) (acc++[⟨x,cy acc.length⟩]) (by simp;omega);have ea:cL ids (x::vs.drop (i+1)) acc=cL ids (vs.drop (i+1)) (acc++[⟨x,cy acc.length⟩]):=(by simp[cL,e]);rw[ea];rw[g208L0e]at ih⊢;rw[decide_eq_true e]at k;simp[cy]at ih k2;simp (disch:=omega) [-getElem?_pos,g208B0,hx,hi',k,k2,ah,hb,cy];rw[g208L0e];simp[ih,cy]
   ·have ih:=RH (t:=t) hS hi n (i+1) (by omega) (by omega) acc (by omega);have ea:cL ids (x::vs.drop (i+1)) acc=cL ids (vs.drop (i+1)) acc:=(by simp[cL,e]);rw[ea];rw[g208L0e]at ih⊢;rw[decide_eq_false e]at k;simp at ih;simp (disch:=omega) [-getElem?_pos,g208B0,hx,hi',k,ah];rw[g208L0e];simp[ih]
theorem uN{ids:List Int}:∀(vs:List Int) (acc:List As),(cL ids vs acc).length≤acc.length+vs.length
 |[],acc=>by simp[cL]
 |v::r,acc=>by
   simp only[cL];have:=uN (ids:=ids) r (if v∈ids then acc++[⟨v,cy acc.length⟩] else acc);split at this<;>simp at this⊢<;>(split<;>simp_all<;>omega)
structure Us(t:Ty):Prop where
 ok:t.Ok
 wf:t.Wf
 Jn:∃S:List Ty,S.length<1099511627776∧(∀x∈S,x.Ok)∧∀x∈t.fe 1,x∈S
theorem uO{t:Ty}(h:Us t):Sm (nb [t]):=by
 obtain⟨S,hf,hSo,hk⟩:=h.Jn;have c0:gm S []:=⟨by simp,by simp,hf,hSo⟩;have:=(c0.fold (l:=[t].flatMap (Ty.fe 1)) (by simpa using hk)).len;unfold Sm at *;have h2:=Me (l:=([t].flatMap (Ty.fe 1)).foldl gW []) (out:=[]);unfold nb;simp at this h2⊢;omega
theorem c208{t:Ty}(h:Us t){ids:List Int}(hi:Sm ids):(aC AP).p 208 [t.pv,.au (ids.map vI)]=some [(pJ ids t (vars [t])).pv]:=by
 obtain⟨S,hf,hSo,hk⟩:=h.Jn;have k1:=c56 hf hSo (l:=[t]) (by simp[Sm]) (by simpa using h.ok) (by simpa using hk);have hv:=uO h;rw[uL (by simpa using h.wf)]at k1 hv;have k2:=RH (t:=t) hv hi _ 0 rfl (by omega) [] (by simp);have hl:=uN (ids:=ids) (vars [t]) [];have k3:=c46 (s:=cL ids (vars [t]) []) (by unfold Sm at hv⊢;simp at hl;omega) h.ok;rw[ae (af:=g208) rfl rfl (by decide)];rw[g208L0e]at k2;simp at k1 k2 k3;simp[g208,k1,g208L0e,k2,k3,pJ]
theorem cI{t:Ty}(h:t.args=[]):t.Ok:=⟨by rw[h];simp[Sm],by rw[h];simp⟩
theorem wQ{ids:List Int}:∀(vs:List Int) (acc:List As),(∀a∈acc,a.ty.Ok)→∀a∈cL ids vs acc,a.ty.Ok
 |[],acc,h=>by simpa[cL] using h
 |v::r,acc,h=>by
   simp only[cL];refine wQ r _ ?_;split
   · intro a ha;simp at ha;rcases ha with ha|rfl
     ·exact h a ha
     ·exact cI rfl
   ·exact h
theorem EU{ids vs:List Int}{t:Ty}(h:t.Ok):(pJ ids t vs).ty.Ok:=ES (wQ vs [] (by simp)) h
inductive gQ (D:Dt→Prop) (lv:List Ty):Nat→Ty→Prop
 |leaf {n:Nat} {t:Ty}:t∈lv→gQ D lv n t
 |int {n:Nat}:gQ D lv n a0
 |cZ {n:Nat} {d:Dt} {args:List Ty}:D d→args.length=d.params.length→(∀x∈args,gQ D lv n x)→gQ D lv (n+1) ⟨4,d.name,0,0,args⟩
 |arrow {n:Nat} {a b:Ty}:gQ D lv n a→gQ D lv n b→gQ D lv (n+1) ⟨4,[45,62],0,0,[a,b]⟩
theorem gQ.ok{D:Dt→Prop}(hD:∀d,D d→d.params.length≤8){lv:List Ty}(h:∀t∈lv,t.args=[]){n:Nat}{t:Ty}(m:gQ D lv n t):t.Ok:=by
 induction m with
 |leaf hl=>exact cI (h _ hl)
 |int=>exact cI rfl
 |cZ hd hl _ ih=>exact⟨by have:=hD _ hd;unfold Sm;simp;omega,ih⟩
 |arrow _ _ ha hb=>exact⟨by simp[Sm],by intro x hx;simp at hx;rcases hx with rfl|rfl<;>assumption⟩
theorem Mi{f:Ty→List Ty}{b:Nat}:∀{l:List Ty},(∀x∈l,(f x).length≤b)→(l.flatMap f).length≤l.length*b
 |[],_=>by simp
 |a::r,h=>by
   have h1:=h a (by simp);have h2:=Mi (f:=f) (b:=b) (l:=r) (fun x hx=>h x (by simp[hx]));simp only[List.flatMap_cons,List.length_append,List.length_cons,Nat.add_mul];omega
theorem gQ.small{D:Dt→Prop}(hD:∀d,D d→d.params.length≤8){lv:List Ty}(h:∀t∈lv,t.args=[]){n:Nat}{t:Ty}(m:gQ D lv n t):t.nodes.length≤9 ^ n:=by
 have one:∀n:Nat,1≤9 ^ n:=fun n=>Nat.one_le_pow n 9 (by decide);induction m with
 |leaf hl=>rw[Ty.aM,h _ hl];simpa using one _
 |int=>rw[Ty.aM];simpa[a0] using one _
 | @cZ n d args hd hl _ ih=>
   rw[Ty.aM];have h1:=Mi (f:=Ty.nodes) (l:=args) ih;have h2:=hD _ hd;have h3:=one n;have h4:args.length*9 ^ n≤8*9 ^ n:=Nat.mul_le_mul_right _ (by omega);simp only[List.length_cons,Nat.pow_succ];omega
 | @arrow n a b _ _ ha hb=>
   rw[Ty.aM];have h3:=one n;simp only[List.length_cons,List.flatMap_cons,List.flatMap_nil,List.append_nil,List.length_append,Nat.pow_succ];omega
abbrev bt:=List UInt8
theorem c214{s:List bt}(hS:Sm s){y:bt}:(aC AP).p 214 [.au (s.map .str),.str y]=some [.bool (decide (y∈s))]:=by
 rw[Xu OY (m:=214) (k:=223) rfl rfl hS];simp only[Option.some.injEq,List.cons.injEq,PV.bool.injEq,and_true];rw[Bool.eq_iff_iff];simp
theorem Ut{s:List bt}(hS:Sm s)(y:bt):∀(n i:Nat),s.length-i=n→i≤s.length →
   cl AP g216L0 ⟨[(0,.pv (.au (s.map .str))),(1,.pv (.str y)),(5,.pv (vI i))],[],[],[]⟩ =
     match bM (fun x=>decide (x=y)) (s.drop i) with
     |some k=>some (.ret,⟨[(4,.pv (vI (i+k:Nat)))],[],[],[]⟩)
     |none=>some (.exit 0,⟨[(0,.pv (.au (s.map .str))),(1,.pv (.str y)),(5,.pv (vI s.length)),(9,.pv (.bool false))],[],[],[]⟩)
 |0,i,hn,hi=>by
   have:i=s.length:=by omega
   subst this;rw[g216L0e];simp[g216B0,bM]
 |n+1,i,hn,hi=>by
   have hi:i<s.length:=(by omega);obtain⟨x,hx⟩:=aV hi;unfold Sm at hS;have ih:=Ut hS y n (i+1) (by omega) (by omega);simp at ih;rw[g216L0e,bj hx];by_cases e:x=y
   ·simp (disch:=omega) [-getElem?_pos,g216B0,hx,hi,e,bM]
   · simp (disch:=omega) [-getElem?_pos,g216B0,hx,hi,e,bM,ah,ih];cases bM (fun x=>decide (x=y)) (s.drop (i+1)) with
     |none=>rfl
     |some k=>simp;omega
def pK(s:List bt)(y:bt):Int:=kb (bM (fun x=>decide (x=y)) s)
theorem c216{s:List bt}(hS:Sm s){y:bt}:(aC AP).p 216 [.au (s.map .str),.str y]=some [vI (pK s y)]:=by
 unfold pK;have h:=Ut hS y _ 0 rfl (by omega);simp at h;rw[ae (af:=g216) rfl rfl (by decide)];cases hi:bM (fun x=>decide (x=y)) s with
 |none=>rw[hi]at h;simp at h;simp[g216,h,kb]
 |some k=>rw[hi]at h;simp at h;simp[g216,h,kb]
theorem Mj{s:List bt}{y:bt}:pK s y<0↔y∉s:=by
 unfold pK;have h:=uG (p:=fun x=>decide (x=y)) (s:=s);have e:s.any (fun x=>decide (x=y))=decide (y∈s):=by rw[Bool.eq_iff_iff];simp
 rw[e]at h;by_cases hy:y∈s
 ·rw[decide_eq_true hy]at h;have h:=of_decide_eq_true h;exact⟨fun h'=>absurd h (Int.not_le.2 h'),fun h'=>absurd hy h'⟩
 ·rw[decide_eq_false hy]at h;have h:=of_decide_eq_false h;exact⟨fun _=>hy,fun _=>Int.not_le.1 h⟩
def ND:List Dt→bt→Option Dt
 |[],_=>none
 |d::r,s=>if d.name=s then some d else ND r s
def EV(ds:List Dt)(s:bt):Option Nat:=if s=[73,110,116] then some 0 else if s=[45,62] then some 2 else (ND ds s).map (·.params.length)
def rA:Option Nat→List PV
 |some n=>[vI n,.bool true]
 |none=>[vI 0,.bool false]
theorem Uu{ds:List Dt}(hS:Sm ds)(s:bt):∀(n i:Nat),ds.length-i=n→i≤ds.length →
   cl AP g215L0 ⟨[(1,.pv (.str s)),(13,.pv (.au (ds.map Dt.pv))),(14,.pv (vI ds.length)),(15,.pv (vI i))],[],[],[]⟩ =
     match ND (ds.drop i) s with
     |some d=>some (.ret,⟨[(4,.pv (vI d.params.length)),(5,.pv (.bool true))],[],[],[]⟩)
     |none=>some (.exit 1,⟨[(1,.pv (.str s)),(13,.pv (.au (ds.map Dt.pv))),(14,.pv (vI ds.length)),(15,.pv (vI ds.length)),(16,.pv (.bool false))],[],[],[]⟩)
 |0,i,hn,hi=>by
   have:i=ds.length:=by omega
   subst this;rw[g215L0e];simp[g215B0,ND]
 |n+1,i,hn,hi=>by
   have hi:i<ds.length:=(by omega);obtain⟨x,hx⟩:=aV hi;unfold Sm at hS;have ih:=Uu hS s n (i+1) (by omega) (by omega);rw[g215L0e]at ih⊢;rw[bj hx];simp at ih;by_cases e:x.name=s
   ·simp (disch:=omega) [-getElem?_pos,g215B0,hx,hi,e,ND]
   ·simp (disch:=omega) [-getElem?_pos,g215B0,hx,hi,e,ND,ah];rw[g215L0e];simp[ih]
theorem c215{ds:List Dt}(hS:Sm ds){s:bt}:(aC AP).p 215 [.au (ds.map Dt.pv),.str s]=some (rA (EV ds s)):=by
 have h:=Uu hS s _ 0 rfl (by omega);rw[ae (af:=g215) rfl rfl (by decide)];rw[g215L0e]at h;simp at h;unfold EV;by_cases e1:s=[73,110,116]
 ·simp[g215,e1,rA]
 · by_cases e2:s=[45,62]
   ·simp[g215,e2,rA]
   · cases hl:ND ds s with
     |none=>rw[hl]at h;simp at h;simp[g215,e1,e2,g215L0e,h,rA]
     |some d=>rw[hl]at h;simp at h;simp[g215,e1,e2,g215L0e,h,rA]
def iX(ds:List Dt)(l:List bt)(t:Ty):Int:=
 if t.kind=5 then (if t.name∈l then 0 else 7)
 else if t.kind=4 then (match EV ds t.name with|none=>7|some n=>if n=t.args.length then 0 else 8) else 0
mutual
def Ty.formed(ds:List Dt)(l:List bt):Ty→Int
 |⟨k,n,i,h,as⟩=>if iX ds l ⟨k,n,i,h,as⟩≠0 then iX ds l ⟨k,n,i,h,as⟩ else Ty.eI ds l as
def Ty.eI(ds:List Dt)(l:List bt):List Ty→Int
 |[]=>0
 |a::r=>if a.formed ds l≠0 then a.formed ds l else Ty.eI ds l r
end
theorem Ty.qE(ds:List Dt)(l:List bt)(t:Ty):t.formed ds l=if iX ds l t≠0 then iX ds l t else Ty.eI ds l t.args:=by
 cases t;simp only[Ty.formed]
theorem Uv{ds:List Dt}{l:List bt}{t:Ty}(hS:Sm t.args)(h:∀x∈t.args,(aC AP).p 185 [.au (ds.map Dt.pv),x.pv,.au (l.map .str)]=some [vI (x.formed ds l)]):∀(n i:Nat),t.args.length-i=n→i≤t.args.length →
   cl AP g185L0 ⟨[(0,.pv (.au (ds.map Dt.pv))),(2,.pv (.au (l.map .str))),(38,.pv (.au (t.args.map Ty.pv))),(39,.pv (vI t.args.length)),(40,.pv (vI i))],[],[],[]⟩ =
     if Ty.eI ds l (t.args.drop i)≠0 then some (.ret,⟨[(6,.pv (vI (Ty.eI ds l (t.args.drop i))))],[],[],[]⟩)
     else some (.exit 1,⟨[(0,.pv (.au (ds.map Dt.pv))),(2,.pv (.au (l.map .str))),(38,.pv (.au (t.args.map Ty.pv))),(39,.pv (vI t.args.length)),(40,.pv (vI t.args.length)),(41,.pv (.bool false))],[],[],[]⟩)
 |0,i,hn,hi=>by
   have:i=t.args.length:=by omega
   subst this;rw[g185L0e];simp[g185B0,Ty.eI]
 |n+1,i,hn,hi=>by
   have hi:i<t.args.length:=(by omega);obtain⟨x,hx⟩:=aV hi;unfold Sm at hS;have k:=h x (aR hx);have ih:=Uv hS h n (i+1) (by omega) (by omega);rw[g185L0e]at ih⊢;rw[bj hx];simp at ih k;by_cases e:x.formed ds l=0
   ·rw[e]at k;simp (disch:=omega) [-getElem?_pos,g185B0,hx,hi,k,Ty.eI,e,ah];rw[g185L0e];simp[ih]
   ·simp (disch:=omega) [-getElem?_pos,g185B0,hx,hi,k,Ty.eI,e,ah]
theorem c185{ds:List Dt}(hd:Sm ds){l:List bt}(hl:Sm l){t:Ty}(hO:t.Ok):(aC AP).p 185 [.au (ds.map Dt.pv),t.pv,.au (l.map .str)]=some [vI (t.formed ds l)]:=by
 revert hO
 refine Ty.dF (p:=fun t=>t.Ok→(aC AP).p 185 [.au (ds.map Dt.pv),t.pv,.au (l.map .str)]=some [vI (t.formed ds l)]) ?_ t;intro t ih hO;have h:=Uv (ds:=ds) (l:=l) hO.sm (fun x hx=>ih x hx (hO.gw x hx)) _ 0 rfl (by omega);have k1:=c214 hl (y:=t.name);have k2:=c215 hd (s:=t.name);rw[ae (af:=g185) rfl rfl (by decide),Ty.qE];rw[g185L0e]at h;simp at h;by_cases e1:t.kind=5
 · by_cases e2:t.name∈l
   · rw[decide_eq_true e2]at k1;by_cases e3:Ty.eI ds l t.args=0
     ·simp[e3]at h;simp[g185,e1,e2,e3,k1,iX,g185L0e,h]
     ·simp[e3]at h;simp[g185,e1,e2,e3,k1,iX,g185L0e,h]
   ·rw[decide_eq_false e2]at k1;simp[g185,e1,e2,k1,iX]
 · by_cases e4:t.kind=4
   · cases hc:EV ds t.name with
     |none=>
       rw[hc]at k2;simp[rA]at k2;simp[g185,e1,e4,k2,iX,hc]
     |some m=>
       rw[hc]at k2;simp[rA]at k2;by_cases e5:m=t.args.length
       · by_cases e3:Ty.eI ds l t.args=0
         ·simp[e3]at h;simp[g185,e4,e5,e3,k2,iX,hc,g185L0e,h]
         ·simp[e3]at h;simp[g185,e4,e5,e3,k2,iX,hc,g185L0e,h]
       ·have e5':¬(m:Int)=t.args.length:=(by omega);simp[g185,e4,e5,e5',k2,iX,hc]
   · by_cases e3:Ty.eI ds l t.args=0
     ·simp[e3]at h;simp[g185,e1,e4,e3,iX,g185L0e,h]
     ·simp[e3]at h;simp[g185,e1,e4,e3,iX,g185L0e,h]
def RI(t:Ty):List AV:=[.pv (vI t.kind),.pv (.str t.name),.pv (vI t.id),.pv (vI t.home),.pv (.au (t.args.map Ty.pv))]
@[simp] theorem Wz(t:Ty):RI t=[.pv (vI t.kind),.pv (.str t.name),.pv (vI t.id),.pv (vI t.home),.pv (.au (t.args.map Ty.pv))]:=rfl
inductive Ty.Cw:Ty→Prop
 |mk {t:Ty}:(t.kind≠4→t.args=[])→(∀x∈t.args,Ty.Cw x)→Ty.Cw t
theorem Ty.Cw.bare{t:Ty}(h:t.Cw):t.kind≠4→t.args=[]:=by cases h;assumption
theorem Ty.Cw.gw{t:Ty}(h:t.Cw):∀x∈t.args,x.Cw:=by cases h;assumption
structure dt(E:Type) where
 pos:Int
 cZ:List UInt8
 vars:List (List UInt8)
 body:E
structure Ex where
 kind:Int
 pos:Int
 name:List UInt8
 num:Int
 kids:List Ex
 aD:List (dt Ex)
 ty:Ty
abbrev Ar:=dt Ex
def bq:Ty:=⟨0,[],0,0,[]⟩
instance:Inhabited Ex:=⟨⟨0,0,[],0,[],[],bq⟩⟩
instance:Inhabited Ar:=⟨⟨0,[],[],default⟩⟩
def Ty.cells(t:Ty):List PV:=[.int .i64 t.kind,.str t.name,.int .i64 t.id,.int .i64 t.home,.au (t.args.map Ty.pv)]
mutual
def Ex.cells:Ex→List PV
 |⟨k,p,n,m,ks,as,t⟩=>.int .i64 k::.int .i64 p::.str n::.int .i64 m::.au (Ex.cW ks)::.au (Ex.Uw as)::t.cells
def Ex.cW:List Ex→List PV
 |[]=>[]
 |e::r=>.agg (Ex.cells e)::Ex.cW r
def Ex.Uw:List (dt Ex)→List PV
 |[]=>[]
 |⟨p,c,v,b⟩::r=>.agg (.int .i64 p::.str c::.au (v.map .str)::Ex.cells b)::Ex.Uw r
end
def Ex.pv(e:Ex):PV:=.agg e.cells
def Ar.pv(a:Ar):PV:=.agg (.int .i64 a.pos::.str a.cZ::.au (a.vars.map .str)::a.body.cells)
theorem Ex.pE:∀l:List Ex,Ex.cW l=l.map Ex.pv
 |[]=>by simp[Ex.cW]
 |e::r=>by simp[Ex.cW,Ex.pE r,Ex.pv]
theorem Ex.FZ:∀l:List Ar,Ex.Uw l=l.map Ar.pv
 |[]=>by simp[Ex.Uw]
 |⟨p,c,v,b⟩::r=>by simp[Ex.Uw,Ex.FZ r,Ar.pv]
theorem Ex.bm(e:Ex):e.cells=[.int .i64 e.kind,.int .i64 e.pos,.str e.name,.int .i64 e.num,.au (e.kids.map Ex.pv),.au (e.aD.map Ar.pv),.int .i64 e.ty.kind,.str e.ty.name,.int .i64 e.ty.id,.int .i64 e.ty.home,.au (e.ty.args.map Ty.pv)]:=by
 cases e;simp only[Ex.cells,Ex.pE,Ex.FZ,Ty.cells]
@[simp] theorem Ex.ml(e:Ex):e.pv=.agg [.int .i64 e.kind,.int .i64 e.pos,.str e.name,.int .i64 e.num,.au (e.kids.map Ex.pv),.au (e.aD.map Ar.pv),.int .i64 e.ty.kind,.str e.ty.name,.int .i64 e.ty.id,.int .i64 e.ty.home,.au (e.ty.args.map Ty.pv)]:=by
 rw[Ex.pv,Ex.bm]
@[simp] theorem Ar.ml(a:Ar):a.pv=.agg [.int .i64 a.pos,.str a.cZ,.au (a.vars.map .str),.int .i64 a.body.kind,.int .i64 a.body.pos,.str a.body.name,.int .i64 a.body.num,.au (a.body.kids.map Ex.pv),.au (a.body.aD.map Ar.pv),.int .i64 a.body.ty.kind,.str a.body.ty.name,.int .i64 a.body.ty.id,.int .i64 a.body.ty.home,.au (a.body.ty.args.map Ty.pv)]:=by
 rw[Ar.pv,Ex.bm]
theorem wR:El Ex.pv 11 true:=⟨fun x=>by simp,fun x=>by simp⟩
theorem RJ:El Ar.pv 14 true:=⟨fun x=>by simp,fun x=>by simp⟩
@[simp] theorem SU{l:List Ex}:bf 11 (l.map Ex.pv)=true:=wR.head l
@[simp] theorem SV{l:List Ar}:bf 14 (l.map Ar.pv)=true:=RJ.head l
@[simp] theorem RK{l:List (List UInt8)}:bf 1 (l.map PV.str)=true:=qC.head l
@[simp] theorem SW{l:List Int}:bf 1 (l.map vI)=true:=oB.head l
def Ex.ch(e:Ex):List Ex:=e.kids++e.aD.map dt.body
theorem dt.qF(a:Ar):SizeOf.sizeOf a.body<SizeOf.sizeOf a:=by cases a;simp;omega
theorem Ex.dF{p:Ex→Prop}(h:∀e:Ex,(∀x∈e.kids,p x)→(∀a∈e.aD,p a.body)→p e):∀e,p e
 |⟨k,ps,n,m,ks,as,t⟩=>h _ (fun x _hx=>Ex.dF h x) (fun a _ha=>Ex.dF h a.body)
termination_by e=>SizeOf.sizeOf e
decreasing_by
 ·have:=_root_.List.sizeOf_lt_of_mem _hx;simp at *;omega
 ·have:=_root_.List.sizeOf_lt_of_mem _ha;have:=dt.qF a;simp at *;omega
theorem Ex.recC{p:Ex→Prop}(h:∀e:Ex,(∀x∈e.ch,p x)→p e):∀e,p e:=Ex.dF fun e h1 h2=>h e fun x hx=>by
 rw[Ex.ch,List.mem_append,List.mem_map]at hx;rcases hx with hx|⟨a,ha,rfl⟩
 ·exact h1 x hx
 ·exact h2 a ha
def tx(l:List (List UInt8)):List AV:=l.map fun s=>AV.pv (.str s)
def SA(X:Sh)(l:List (List UInt8))(t:List UInt8):Sh:=X++[some (tx l),some [.pv (.str t)]]
theorem mz{l:List (List UInt8)}:∀v∈tx l,∃p,v=AV.pv p:=by
 intro v hv;simp only[tx,List.mem_map]at hv;obtain⟨s,_,rfl⟩:=hv;exact⟨_,rfl⟩
theorem fu{X:Sh}(hX:aL X){l:List (List UInt8)}{t:List UInt8}:aL (SA X l t):=by
 refine hX.app fun cs hc=>?_;simp at hc;rcases hc with rfl|rfl
 ·exact mz
 ·intro v hv;simp at hv;exact⟨_,hv⟩
theorem EW{X:Sh}{l:List (List UInt8)}{t:List UInt8}:(SA X l t)[X.length]?=some (some (tx l)):=by simp[SA]
theorem Mk{X:Sh}{l:List (List UInt8)}{t:List UInt8}:(SA X l t)[X.length+1]?=some (some [.pv (.str t)]):=by simp[SA]
theorem Ml{X:Sh}{l l':List (List UInt8)}{t:List UInt8}:(SA X l t).set X.length (some (tx l'))=SA X l' t:=by simp[SA]
theorem yN{X:Sh}{l:List (List UInt8)}{t:List UInt8}:(SA X l t).length=X.length+2:=by simp[SA]
theorem Mm{l:List (List UInt8)}{i:Nat}{s:List UInt8}(h:l[i]?=some s):(tx l)[i]?=some (.pv (.str s)):=by simp[tx,h]
theorem oD{l:List (List UInt8)}:(tx l).length=l.length:=by simp[tx]
theorem RL{l:List (List UInt8)}{i:Nat}(h:i<l.length){s:List UInt8}:aQ (tx l) i [.pv (.str s)]=tx (l.set i s):=by
 rw[List.set_eq_take_append_cons_drop,if_pos h];simp[aF,tx,List.map_take,List.map_drop]
theorem c413{SH:Sh}(hn:∀aI ts,a9 aI ts SH=(SH,aI,ts)){c:Nat}{t x:List UInt8}(hb:SH[c]?=some (some [.pv (.str t)]))(hc:c<SH.length) :
   (aC AP).i 413 [.pv (.str x),.aW c 0] SH []=some ([.pv (.bool (decide (x=t)))],SH,[]):=by
 rw[aE (af:=g413) rfl (by simp[g413])];simp[-getElem?_pos,g413,hb,hn];by_cases e:x=t<;>simp[e]
theorem Mn{SH:Sh}(hn:∀aI ts,a9 aI ts SH=(SH,aI,ts))(hs:∀n,ej n SH=SH){c:Nat}{t x:List UInt8}(hb:SH[c]?=some (some [.pv (.str t)]))(hc:c<SH.length) :
   exec (aC AP) .fJ [.fn 413 [.aW c 0],.pv (.str x)] none SH []=some ⟨.pv (.bool (decide (x=t))),none,SH,[]⟩:=by
 have k:=c413 hn hb hc (x:=x);simp[hn,k,hs]
theorem Ux{SH:Sh}(hn:∀aI ts,a9 aI ts SH=(SH,aI,ts))(hs:∀n,ej n SH=SH){b c:Nat}{t:List UInt8}{l:List (List UInt8)}(hS:Sm l)(ha:SH[b]?=some (some (tx l)))(hb:SH[c]?=some (some [.pv (.str t)]))(hc:c<SH.length) :
   ∀(n i:Nat),l.length-i=n→i≤l.length →
   cl AP (L5 1 false) ⟨[(0,.aP b 1 l.length false),(1,.fn 413 [.aW c 0]),(7,.pv (vI l.length)),(8,.pv (vI i))],[],SH,[]⟩ =
     match bM (fun x=>decide (x=t)) (l.drop i) with
     |some k=>some (.ret,⟨[(4,.pv (vI (i+k:Nat)))],[],SH,[]⟩)
     |none=>some (.exit 0,⟨[(0,.aP b 1 l.length false),(1,.fn 413 [.aW c 0]),(7,.pv (vI l.length)),(8,.pv (vI l.length)),(9,.pv (.bool false))],[],SH,[]⟩)
 |0,i,hk,hi=>by
   have:i=l.length:=by omega
   subst this;rw[pH];simp[yK,bM,hn]
 |n+1,i,hk,hi=>by
   have hi:i<l.length:=(by omega);obtain⟨x,hx⟩:=aV hi;unfold Sm at hS;have ih:=Ux hn hs hS ha hb hc n (i+1) (by omega) (by omega);have hg:=Mm hx;have hB:bV (tx l)=false:=bI mz;have hle:i+1≤(tx l).length:=(by rw[oD];omega);have q:=Mn hn hs hb hc (x:=x);simp at ih;rw[pH,bj hx];by_cases e:x=t
   ·rw[decide_eq_true e]at q;subst e;simp (disch:=omega) [-getElem?_pos,-eG,yK,hx,hi,ha,hg,hB,hle,bM,hn,q]
   · rw[decide_eq_false e]at q;simp (disch:=omega) [-getElem?_pos,-eG,yK,hx,hi,ha,hg,hB,hle,e,bM,ah,hn,q,ih];cases bM (fun x=>decide (x=t)) (l.drop (i+1)) with
     |none=>rfl
     |some k=>simp;omega
structure Row{α:Type}(f:α→List PV)(sz:Nat):Prop where
 pos:0<sz
 len:∀x,(f x).length=sz
section
variable {α:Type} {f:α→List PV} {sz:Nat}
def aN(f:α→List PV)(l:List α):List AV:=l.flatMap fun x=>(f x).map .pv
theorem yP:aN f []=[]:=rfl
theorem kE{x:α}{l:List α}:aN f (x::l)=(f x).map .pv++aN f l:=rfl
theorem nc{l m:List α}:aN f (l++m)=aN f l++aN f m:=by simp[aN]
theorem bo(h:Row f sz):∀{l:List α},(aN f l).length=l.length*sz
 |[]=>by simp[aN]
 |x::r=>by rw[kE,List.length_append,List.length_map,h.len,bo h,List.length_cons,Nat.add_mul];omega
theorem aY{l:List α}:∀v∈aN f l,∃p,v=AV.pv p:=by
 intro v hv;simp only[aN,List.mem_flatMap,List.mem_map]at hv;obtain⟨x,_,p,_,rfl⟩:=hv;exact⟨p,rfl⟩
theorem pL(h:Row f sz):∀{l:List α} {i:Nat} {x:α},l[i]?=some x→(aN f l).drop (i*sz)=(f x).map .pv++aN f (l.drop (i+1))
 |x::r,0,y,e=>by simp at e;subst e;simp[aN]
 |x::r,i+1,y,e=>by
   have ih:=pL h (l:=r) (i:=i) (x:=y) (by simpa using e);rw[kE,List.drop_append,List.drop_eq_nil_of_le (by rw[List.length_map,h.len,Nat.add_mul];omega),List.length_map,h.len,show (i+1)*sz-sz=i*sz from by rw[Nat.add_mul];omega,ih];simp
 |[],_,_,e=>by simp at e
theorem BD(h:Row f sz):∀{l:List α} {i:Nat},i≤l.length→(aN f l).take (i*sz)=aN f (l.take i)
 |l,0,_=>by simp[aN]
 |x::r,i+1,e=>by
   have ih:=BD h (l:=r) (i:=i) (by simpa using e);rw[kE,List.take_append,List.take_of_length_le (by rw[List.length_map,h.len,Nat.add_mul];omega),List.length_map,h.len,show (i+1)*sz-sz=i*sz from by rw[Nat.add_mul];omega,ih];simp[kE]
 |[],i+1,e=>by simp at e
theorem nd(h:Row f sz){l:List α}{i:Nat}{x:α}(e:l[i]?=some x){o k:Nat}(hk:o+k≤sz):((aN f l).drop (i*sz+o)).take k=(((f x).drop o).take k).map .pv:=by
 rw[←List.drop_drop,pL h e,List.drop_append,List.take_append,List.length_drop,List.length_map,h.len];have e1:k-(sz-o)=0:=by omega
 rw[e1,List.take_zero,List.append_nil,←List.map_drop,←List.map_take]
theorem RM(h:Row f sz){l:List α}{i:Nat}(hi:i<l.length){o k:Nat}(hk:o+k≤sz):i*sz+o+k≤(aN f l).length:=by
 rw[bo h];have:(i+1)*sz≤l.length*sz:=Nat.mul_le_mul_right _ hi;rw[Nat.add_mul]at this;omega
theorem O0(h:Row f sz){l:List α}{i:Nat}{x:α}(e:l[i]?=some x){o:Nat}(hk:o<sz){p:PV}(hp:(f x)[o]?=some p):(aN f l)[i*sz+o]?=some (.pv p):=by
 have e1:=pL h e;rw[←List.getElem?_drop,e1,List.getElem?_append_left (by rw[List.length_map,h.len];exact hk),List.getElem?_map,hp];rfl
theorem lq(h:Row f sz){l:List α}{i:Nat}{x y:α}(e:l[i]?=some x){o:Nat}{vs:List PV}(hk:o+vs.length≤sz)(hy:f y=(f x).take o++vs++(f x).drop (o+vs.length)):aQ (aN f l) (i*sz+o) (vs.map .pv)=aN f (l.set i y):=by
 have hi:=(List.getElem?_eq_some_iff.1 e).1;have e3:l.set i y=l.take i++y::l.drop (i+1):=by rw[List.set_eq_take_append_cons_drop,if_pos hi]
 have e1:=pL h e;have e2:=BD h (l:=l) (i:=i) (by omega);rw[e3,aF,nc,kE,←e2,hy]
 have e4:(aN f l).drop (i*sz+o+(vs.map AV.pv).length)=((f x).drop (o+vs.length)).map .pv++aN f (l.drop (i+1)):=by
   rw[List.length_map,Nat.add_assoc,←List.drop_drop,e1,List.drop_append,List.length_map,h.len,show o+vs.length-sz=0 from by omega];simp
 have e5:(aN f l).take (i*sz+o)=(aN f l).take (i*sz)++((f x).take o).map .pv:=by
   rw[List.take_add,e1,List.take_append,List.length_map,h.len,show o-sz=0 from by omega];simp
 rw[e4,e5];simp
theorem pM(h:Row f sz){l:List α}{i:Nat}{x y:α}(e:l[i]?=some x){o:Nat}{p:PV}(hk:o+1≤sz)(hy:f y=(f x).take o++[p]++(f x).drop (o+1)):aQ (aN f l) (i*sz+o) [.pv p]=aN f (l.set i y):=
 lq h e (vs:=[p]) (by simpa using hk) hy
theorem F5(h:Row f sz):∀{l:List α},∃ps,eA (aN f l)=some ps∧(chunk sz l.length ps).map PV.agg=l.map fun x=>.agg (f x)
 |[]=>⟨[],rfl,rfl⟩
 |x::r=>by
   obtain⟨ps,h1,h2⟩:=F5 h (l:=r)
   have key:∀(a:List PV) (b:List AV),eA b=some ps→eA (a.map AV.pv++b)=some (a++ps):=by
     intro a b hb;induction a with
     |nil=>simpa using hb
     |cons c a ih=>simp only[List.map_cons,List.cons_append,eA,kM,ih]
   refine⟨f x++ps,key _ _ h1,?_⟩;simp only[List.length_cons,chunk,List.map_cons];rw[List.take_left' (h.len x),List.drop_left' (h.len x),h2]
theorem nf(h:Row f sz){l:List α}:((eA (aN f l)).bind (dP sz true l.length)).map PV.au=some (.au (l.map fun x=>.agg (f x))):=by
 obtain⟨ps,h1,h2⟩:=F5 h (l:=l);rw[h1];simp only[Option.bind_some,dP,if_true,Option.map_some,h2]
theorem ng(h:Row f sz){l:List α}:((l.map fun x=>PV.agg (f x)).flatMap aX).map AV.pv=aN f l:=by
 induction l with
 |nil=>rfl
 |cons x r ih=>simp only[List.map_cons,List.flatMap_cons,List.map_append,ih,kE,aX]
end
abbrev nn(k:Nat):Sh:=List.replicate k none
theorem ct(k:Nat):aL (nn k):=by
 intro cs hc;simp[nn,List.mem_replicate]at hc
end Go.Ab.Lw
namespace Go.Ab.Lw
open Ev
inductive Ex.Ok:Ex→Prop
 |mk {e:Ex}:e.kids.length≤1000→e.aD.length≤1000→(∀a∈e.aD,a.vars.length≤1000)→e.ty.Ok→(∀x∈e.ch,x.Ok)→e.Ok
theorem Ex.Ok.k{e:Ex}(h:e.Ok):e.kids.length≤1000:=by cases h;assumption
theorem Ex.Ok.a{e:Ex}(h:e.Ok):e.aD.length≤1000:=by cases h;assumption
theorem Ex.Ok.v{e:Ex}(h:e.Ok):∀a∈e.aD,a.vars.length≤1000:=by cases h;assumption
theorem Ex.Ok.t{e:Ex}(h:e.Ok):e.ty.Ok:=by cases h;assumption
theorem Ex.Ok.c{e:Ex}(h:e.Ok):∀x∈e.ch,x.Ok:=by cases h;assumption
theorem Ex.dQ{e:Ex}:e.ch.length=e.kids.length+e.aD.length:=by simp[Ex.ch]
@[simp] def Ex.cl(e:Ex):List AV:=[.pv (vI e.kind),.pv (vI e.pos),.pv (.str e.name),.pv (vI e.num),.pv (.au (e.kids.map Ex.pv)),.pv (.au (e.aD.map Ar.pv)),.pv (vI e.ty.kind),.pv (.str e.ty.name),.pv (vI e.ty.id),.pv (vI e.ty.home),.pv (.au (e.ty.args.map Ty.pv))]
theorem bU:Row Ex.cells 11:=⟨by omega,fun x=>by rw[Ex.bm];rfl⟩
def Ar.cells(a:Ar):List PV:=.int .i64 a.pos::.str a.cZ::.au (a.vars.map .str)::a.body.cells
theorem f_:Row Ar.cells 14:=⟨by omega,fun x=>by simp[Ar.cells,Ex.bm]⟩
theorem Ex.mA(e:Ex):e.cells.map AV.pv=e.cl:=by rw[Ex.bm];rfl
@[simp] def Ex.Uy(e:Ex)(A:AV):List AV:=[.pv (vI e.kind),.pv (vI e.pos),.pv (.str e.name),.pv (vI e.num),.pv (.au (e.kids.map Ex.pv)),A,.pv (vI e.ty.kind),.pv (.str e.ty.name),.pv (vI e.ty.id),.pv (vI e.ty.home),.pv (.au (e.ty.args.map Ty.pv))]
def V6(A:AV)(as:List Ar)(X:Sh):Prop:=A=.pv (.au (as.map Ar.pv))∨∃b,b<X.length∧A=.aP b 14 as.length true∧X[b]?=some (some (aN Ar.cells as))
theorem V6.app{A:AV}{as:List Ar}{X Y:Sh}(h:V6 A as X):V6 A as (X++Y):=by
 rcases h with h|⟨b,h1,h2,h3⟩
 ·exact .inl h
 ·exact .inr ⟨b,by rw[List.length_append];omega,h2,by rw[List.getElem?_append_left h1];exact h3⟩
def hV(X:Sh)(l:List Ex):AV:=if l=[] then .own [] 0 else .aP X.length 11 l.length true
def hS(X:Sh)(l:List Ex):Sh:=if l=[] then X else X++[some (aN Ex.cells l)]
def hT(l:List Ex):aG:=if l=[] then [0] else []
theorem BE{X:Sh}(h:aL X)(l:List Ex):aL (hS X l):=by
 unfold hS;by_cases h0:l=[]
 ·rw[if_pos h0];exact h
 ·rw[if_neg h0];exact h.app (aL.one aY)
theorem RN{e:Ex}{A:AV}(ha:e.aD.length≤1000):∀(n i:Nat),e.aD.length-i=n→i≤e.aD.length→∀(X:Sh) (acc:List Ex),aL X→V6 A e.aD X→acc.length+n≤1000000→∃k,
   cl AP g145L0 ⟨[(1,.az 1 0),(3,hV X acc),(4,.pv (vI i))],[(1,e.Uy A)],hS X acc,hT acc⟩ =
     some (.exit 0,⟨[(1,.az 1 0),(3,hV (X++nn k) (acc++(e.aD.drop i).map dt.body)),(4,.pv (vI e.aD.length)),(12,.pv (.bool false))],[(1,e.Uy A)],hS (X++nn k) (acc++(e.aD.drop i).map dt.body),hT (acc++(e.aD.drop i).map dt.body)⟩)
 |0,i,hn,hi,X,acc,hX,hA,hl=>by
   have:i=e.aD.length:=by omega
   subst this;refine⟨0,?_⟩;rw[List.drop_length,List.map_nil,List.append_nil,show nn 0=[] from rfl,List.append_nil];have hn:=(BE hX acc).norm
   have vc:(hV X acc=.own [] 0∧hT acc=[0])∨(∃b z k g,hV X acc=.aP b z k g∧hT acc=[]):=by
     unfold hV hT;by_cases h0:acc=[]
     ·left;simp[h0]
     ·right;exact⟨X.length,11,acc.length,true,by simp[h0],by simp[h0]⟩
   rw[g145L0e]
   rcases vc with⟨v1,t1⟩|⟨b1,z1,k1,f1,v1,t1⟩<;>rw[v1,t1]<;>generalize hS X acc=S0 at hn⊢ <;>
     rcases hA with rfl|⟨b,hb,rfl,hx⟩<;>simp[g145B0,hn]
 |n+1,i,hn,hi,X,acc,hX,hA,hl=>by
   have hi:i<e.aD.length:=(by omega);obtain⟨x,hx⟩:=aV hi;have hnX:=hX.norm;have hB11:∀m:Nat,m≤1000000→m*152≤140737488355328:=(by omega);have hcl:=Ex.bm x.body;rw[bj hx,List.map_cons]
   have step:∃k,cl AP g145L0 ⟨[(1,.az 1 0),(3,hV (if acc=[] then X else X++[none]) (acc++[x.body])),(4,.pv (vI (i+1:Nat)))],[(1,e.Uy A)],hS (if acc=[] then X else X++[none]) (acc++[x.body]),hT (acc++[x.body])⟩ =
     some (.exit 0,⟨[(1,.az 1 0),(3,hV (X++nn k) (acc++(x.body::(e.aD.drop (i+1)).map dt.body))),(4,.pv (vI e.aD.length)),(12,.pv (.bool false))],[(1,e.Uy A)],hS (X++nn k) (acc++(x.body::(e.aD.drop (i+1)).map dt.body)),hT (acc++(x.body::(e.aD.drop (i+1)).map dt.body))⟩):=by
     by_cases h0:acc=[]
     ·rw[if_pos h0];obtain⟨k,ih⟩:=RN ha n (i+1) (by omega) (by omega) X (acc++[x.body]) hX hA (by simp;omega);refine⟨k,?_⟩;rw[ih];simp only[List.append_assoc,List.singleton_append]
     · rw[if_neg h0];obtain⟨k,ih⟩:=RN ha n (i+1) (by omega) (by omega) (X++[none]) (acc++[x.body]) (hX.app (ct 1)) hA.app (by simp;omega);refine⟨k+1,?_⟩;have e1:X++[none]++nn k=X++nn (k+1):=by simp[nn,List.replicate_succ]
       rw[ih,e1];simp only[List.append_assoc,List.singleton_append]
   obtain⟨k,ih⟩:=step;refine⟨k,?_⟩;generalize hV (X++nn k) (acc++(x.body::(e.aD.drop (i+1)).map dt.body))=V2 at ih⊢;generalize hS (X++nn k) (acc++(x.body::(e.aD.drop (i+1)).map dt.body))=S2 at ih⊢;generalize hT (acc++(x.body::(e.aD.drop (i+1)).map dt.body))=T2 at ih⊢;have hne:acc++[x.body]≠[]:=by simp
   have hn1:∀Y,aL Y→∀aI ts,a9 aI ts (Y++[some (aN Ex.cells (acc++[x.body]))])=(Y++[some (aN Ex.cells (acc++[x.body]))],aI,ts):=fun Y hY=>(hY.app (aL.one aY)).norm;have hfl:aN Ex.cells (acc++[x.body])=aN Ex.cells acc++x.body.cl:=by rw[nc,←Ex.mA];simp[aN]
   by_cases h0:acc=[]
   · subst h0;rw[if_pos rfl]at ih;have hn2:=hn1 X hX;simp only[List.nil_append]at hne hn2 hfl ih;simp only[hV,hS,hT,if_neg hne,if_true]at ih⊢;rw[hfl]at hn2 ih;simp only[yP,List.nil_append]at hn2 ih;simp only[Ex.cl]at hn2;rw[g145L0e]at ih⊢;rcases hA with rfl|⟨b,hb,rfl,hxb⟩
     ·simp[hn2]at ih;simp (disch:=omega) [-getElem?_pos,g145B0,hx,hi,ah,hnX];rw[g145L0e];simp[hn2,ih]
     ·have q1:=nd f_ hx (o:=3) (k:=11) (by omega);have q2:i*14+3+11≤e.aD.length*14:=(by omega);have q3:(aN Ar.cells e.aD).length=e.aD.length*14:=bo f_;have q4:bV (aN Ar.cells e.aD)=false:=bI aY;have q5:(((Ar.cells x).drop 3).take 11).map AV.pv=x.body.cl:=(by simp[Ar.cells,hcl]);rw[q5]at q1;generalize aN Ar.cells e.aD=T at *;simp[hn2]at ih q1;simp (disch:=omega) [-getElem?_pos,g145B0,hx,hi,ah,hnX,hxb,q1,q2,q3,q4];rw[g145L0e];simp[hn2,ih]
   · rw[if_neg h0]at ih;have hn2:=hn1 (X++[none]) (hX.app (ct 1));have hn3:∀aI ts,a9 aI ts (X++[some (aN Ex.cells acc)])=(X++[some (aN Ex.cells acc)],aI,ts):=(hX.app (aL.one aY)).norm;simp only[hV,hS,hT,if_neg hne,if_neg h0]at ih⊢;have r1:(aN Ex.cells acc).length=acc.length*11:=bo bU;have r2:bV (aN Ex.cells acc)=false:=bI aY;have r3:(aN Ex.cells acc).take (acc.length*11)=aN Ex.cells acc:=List.take_of_length_le (by omega);have hb2:(acc.length+1)*152≤140737488355328:=by omega
     rw[hfl]at hn2 ih;rw[List.length_append,List.length_singleton,List.length_append,List.length_singleton]at ih;have s1:∀u w:Option (List AV),(X++[u]).set X.length w=X++[w]:=fun u w=>by simp
     have s2:∀u:Option (List AV),(X++[u])[X.length]?=some u:=fun u=>by simp
     simp only[Ex.cl]at hn2;rw[g145L0e]at ih⊢;rcases hA with rfl|⟨b,hb,rfl,hxb⟩
     ·generalize aN Ex.cells acc=F at *;simp[hn2]at ih;simp (disch:=omega) [-getElem?_pos,g145B0,hx,hi,ah,hn3,r1,r2,r3,s1,s2,hb2];rw[g145L0e];simp[hn2,ih]
     · have q1:=nd f_ hx (o:=3) (k:=11) (by omega);have q2:i*14+3+11≤e.aD.length*14:=(by omega);have q3:(aN Ar.cells e.aD).length=e.aD.length*14:=bo f_;have q4:bV (aN Ar.cells e.aD)=false:=bI aY;have q5:(((Ar.cells x).drop 3).take 11).map AV.pv=x.body.cl:=(by simp[Ar.cells,hcl]);have q6:∀u:Option (List AV),(X++[u])[b]?=X[b]?:=fun u=>List.getElem?_append_left hb
       rw[q5]at q1;generalize aN Ar.cells e.aD=T at *;generalize aN Ex.cells acc=F at *;simp[hn2]at ih q1;simp (disch:=omega) [-getElem?_pos,g145B0,hx,hi,ah,hn3,r1,r2,r3,s1,s2,hb2,hxb,q1,q2,q3,q4,q6];rw[g145L0e];simp[hn2,ih]
theorem oE{l:List Ex}:((eA (aN Ex.cells l)).bind (dP 11 true l.length)).map PV.au=some (.au (l.map Ex.pv)):=nf bU
theorem uP{l:List Ex}:((l.map Ex.pv).flatMap aX).map AV.pv=aN Ex.cells l:=ng bU
theorem c145{e:Ex}(h:e.Ok):(aC AP).p 145 [e.pv]=some [.au (e.ch.map Ex.pv)]:=by
 have hk:=h.k;have ha:=h.a;obtain⟨k,h2⟩:=RN (A:=.pv (.au (e.aD.map Ar.pv))) ha _ 0 rfl (by omega) [] e.kids (by intro cs h;simp at h) (.inl rfl) (by omega);rw[List.drop_zero]at h2
 change cl AP g145L0 _=some (.exit 0,⟨[(1,.az 1 0),(3,hV ([]++nn k) e.ch),(4,.pv (vI e.aD.length)),(12,.pv (.bool false))],[(1,e.Uy (.pv (.au (e.aD.map Ar.pv))))],hS ([]++nn k) e.ch,hT e.ch⟩)at h2
 have hb2:e.kids.length*152≤140737488355328:=by omega
 have hm:=uP (l:=e.kids);have hl:=oE (l:=e.ch);have hlen:(aN Ex.cells e.ch).length=e.ch.length*11:=bo bU;have hq0:∀aI ts,a9 aI ts ([some (aN Ex.cells e.kids)])=([some (aN Ex.cells e.kids)],aI,ts):=(aL.one aY).norm;rw[ae (af:=g145) rfl rfl (by decide)];by_cases hc:e.ch=[]
 · have h0:e.kids=[]∧e.aD=[]:=by have:=hc;simpa[Ex.ch] using this
   simp only[hc,hV,hS,hT,if_true,h0.1]at h2⊢;rw[g145L0e]at h2;simp[h0.1,h0.2]at h2;simp[g145,h0.1,h0.2,g145L0e,h2]
 · have hg:∀Z:Option (List AV),([]++nn k++[Z])[k]?=some Z:=fun Z=>by simp
   by_cases h0:e.kids=[]
   ·simp only[hV,hS,hT,if_neg hc,h0,if_true]at h2⊢;have hg1:=hg (some (aN Ex.cells e.ch));generalize []++nn k++[some (aN Ex.cells e.ch)]=S2 at *;generalize aN Ex.cells e.ch=F at *;rw[g145L0e]at h2;simp[h0]at h2;simp at hl;simp[-getElem?_pos,g145,h0,g145L0e,h2,hg1,hlen,hl]
   ·simp only[hV,hS,hT,if_neg hc,if_neg h0]at h2⊢;have hg1:=hg (some (aN Ex.cells e.ch));generalize []++nn k++[some (aN Ex.cells e.ch)]=S2 at *;generalize aN Ex.cells e.ch=F at *;generalize aN Ex.cells e.kids=F0 at *;rw[g145L0e]at h2;simp[hq0]at h2 hl;simp[-getElem?_pos,g145,h0,hb2,hm,hq0,g145L0e,h2,hg1,hlen,hl]
theorem O1{e:Ex}(ha:e.aD.length≤1000):∀(n i:Nat),e.aD.length-i=n→i≤e.aD.length→∀(X:Sh) (acc:List Ex),aL X→acc.length+n≤1000000→∃k,
   cl AP g414L0 ⟨[(3,hV X acc),(10,.pv (.au (e.aD.map Ar.pv))),(11,.pv (vI e.aD.length)),(12,.pv (vI i))],[],hS X acc,hT acc⟩ =
     some (.exit 0,⟨[(3,hV (X++nn k) (acc++(e.aD.drop i).map dt.body)),(10,.pv (.au (e.aD.map Ar.pv))),(11,.pv (vI e.aD.length)),(12,.pv (vI e.aD.length)),(13,.pv (.bool false))],[],hS (X++nn k) (acc++(e.aD.drop i).map dt.body),hT (acc++(e.aD.drop i).map dt.body)⟩)
 |0,i,hn,hi,X,acc,hX,hl=>by
   have:i=e.aD.length:=by omega
   subst this;refine⟨0,?_⟩;rw[List.drop_length,List.map_nil,List.append_nil,show nn 0=[] from rfl,List.append_nil];have hn:=(BE hX acc).norm
   have vc:(hV X acc=.own [] 0∧hT acc=[0])∨(∃b z k g,hV X acc=.aP b z k g∧hT acc=[]):=by
     unfold hV hT;by_cases h0:acc=[]
     ·left;simp[h0]
     ·right;exact⟨X.length,11,acc.length,true,by simp[h0],by simp[h0]⟩
   rw[g414L0e];rcases vc with⟨v1,t1⟩|⟨b1,z1,k1,f1,v1,t1⟩<;>rw[v1,t1]<;>generalize hS X acc=S0 at hn⊢<;>simp[g414B0,hn]
 |n+1,i,hn,hi,X,acc,hX,hl=>by
   have hi:i<e.aD.length:=(by omega);obtain⟨x,hx⟩:=aV hi;have hnX:=hX.norm;have hcl:=Ex.bm x.body;rw[bj hx,List.map_cons]
   have step:∃k,cl AP g414L0 ⟨[(3,hV (if acc=[] then X else X++[none]) (acc++[x.body])),(10,.pv (.au (e.aD.map Ar.pv))),(11,.pv (vI e.aD.length)),(12,.pv (vI (i+1:Nat)))],[],hS (if acc=[] then X else X++[none]) (acc++[x.body]),hT (acc++[x.body])⟩ =
     some (.exit 0,⟨[(3,hV (X++nn k) (acc++(x.body::(e.aD.drop (i+1)).map dt.body))),(10,.pv (.au (e.aD.map Ar.pv))),(11,.pv (vI e.aD.length)),(12,.pv (vI e.aD.length)),(13,.pv (.bool false))],[],hS (X++nn k) (acc++(x.body::(e.aD.drop (i+1)).map dt.body)),hT (acc++(x.body::(e.aD.drop (i+1)).map dt.body))⟩):=by
     by_cases h0:acc=[]
     ·rw[if_pos h0];obtain⟨k,ih⟩:=O1 ha n (i+1) (by omega) (by omega) X (acc++[x.body]) hX (by simp;omega);refine⟨k,?_⟩;rw[ih];simp only[List.append_assoc,List.singleton_append]
     · rw[if_neg h0];obtain⟨k,ih⟩:=O1 ha n (i+1) (by omega) (by omega) (X++[none]) (acc++[x.body]) (hX.app (ct 1)) (by simp;omega);refine⟨k+1,?_⟩;have e1:X++[none]++nn k=X++nn (k+1):=by simp[nn,List.replicate_succ]
       rw[ih,e1];simp only[List.append_assoc,List.singleton_append]
   obtain⟨k,ih⟩:=step;refine⟨k,?_⟩;generalize hV (X++nn k) (acc++(x.body::(e.aD.drop (i+1)).map dt.body))=V2 at ih⊢;generalize hS (X++nn k) (acc++(x.body::(e.aD.drop (i+1)).map dt.body))=S2 at ih⊢;generalize hT (acc++(x.body::(e.aD.drop (i+1)).map dt.body))=T2 at ih⊢;have hne:acc++[x.body]≠[]:=by simp
   have hn1:∀Y,aL Y→∀aI ts,a9 aI ts (Y++[some (aN Ex.cells (acc++[x.body]))])=(Y++[some (aN Ex.cells (acc++[x.body]))],aI,ts):=fun Y hY=>(hY.app (aL.one aY)).norm;have hfl:aN Ex.cells (acc++[x.body])=aN Ex.cells acc++x.body.cl:=by rw[nc,←Ex.mA];simp[aN]
   by_cases h0:acc=[]
   ·subst h0;rw[if_pos rfl]at ih;have hn2:=hn1 X hX;simp only[List.nil_append]at hne hn2 hfl ih;simp only[hV,hS,hT,if_neg hne,if_true]at ih⊢;rw[hfl]at hn2 ih;simp only[yP,List.nil_append]at hn2 ih;simp only[Ex.cl]at hn2;rw[g414L0e]at ih⊢;simp[hn2]at ih;simp (disch:=omega) [-getElem?_pos,g414B0,hx,hi,ah,hnX];rw[g414L0e];simp[hn2,ih]
   · rw[if_neg h0]at ih;have hn2:=hn1 (X++[none]) (hX.app (ct 1));have hn3:∀aI ts,a9 aI ts (X++[some (aN Ex.cells acc)])=(X++[some (aN Ex.cells acc)],aI,ts):=(hX.app (aL.one aY)).norm;simp only[hV,hS,hT,if_neg hne,if_neg h0]at ih⊢;have r1:(aN Ex.cells acc).length=acc.length*11:=bo bU;have r2:bV (aN Ex.cells acc)=false:=bI aY;have r3:(aN Ex.cells acc).take (acc.length*11)=aN Ex.cells acc:=List.take_of_length_le (by omega);have hb2:(acc.length+1)*152≤140737488355328:=by omega
     rw[hfl]at hn2 ih;rw[List.length_append,List.length_singleton,List.length_append,List.length_singleton]at ih;have s1:∀u w:Option (List AV),(X++[u]).set X.length w=X++[w]:=fun u w=>by simp
     have s2:∀u:Option (List AV),(X++[u])[X.length]?=some u:=fun u=>by simp
     simp only[Ex.cl]at hn2;rw[g414L0e]at ih⊢;generalize aN Ex.cells acc=F at *;simp[hn2]at ih;simp (disch:=omega) [-getElem?_pos,g414B0,hx,hi,ah,hn3,r1,r2,r3,s1,s2,hb2];rw[g414L0e];simp[hn2,ih]
theorem c414{e:Ex}(h:e.Ok):(aC AP).p 414 [e.pv]=some [.au (e.ch.map Ex.pv)]:=by
 have hk:=h.k;have ha:=h.a;obtain⟨k,h2⟩:=O1 ha _ 0 rfl (by omega) [] e.kids (by intro cs h;simp at h) (by omega);rw[List.drop_zero]at h2
 change cl AP g414L0 _=some (.exit 0,⟨[(3,hV ([]++nn k) e.ch),(10,.pv (.au (e.aD.map Ar.pv))),(11,.pv (vI e.aD.length)),(12,.pv (vI e.aD.length)),(13,.pv (.bool false))],[],hS ([]++nn k) e.ch,hT e.ch⟩)at h2
 have hb2:e.kids.length*152≤140737488355328:=by omega
 have hm:=uP (l:=e.kids);have hl:=oE (l:=e.ch);have hlen:(aN Ex.cells e.ch).length=e.ch.length*11:=bo bU;have hq0:∀aI ts,a9 aI ts ([some (aN Ex.cells e.kids)])=([some (aN Ex.cells e.kids)],aI,ts):=(aL.one aY).norm;rw[ae (af:=g414) rfl rfl (by decide)];by_cases hc:e.ch=[]
 · have h0:e.kids=[]∧e.aD=[]:=by have:=hc;simpa[Ex.ch] using this
   simp only[hc,hV,hS,hT,if_true,h0.1]at h2⊢;rw[g414L0e]at h2;simp[h0.1,h0.2]at h2;simp[g414,h0.1,h0.2,g414L0e,h2]
 · have hg:∀Z:Option (List AV),([]++nn k++[Z])[k]?=some Z:=fun Z=>by simp
   by_cases h0:e.kids=[]
   ·simp only[hV,hS,hT,if_neg hc,h0,if_true]at h2⊢;have hg1:=hg (some (aN Ex.cells e.ch));generalize []++nn k++[some (aN Ex.cells e.ch)]=S2 at *;generalize aN Ex.cells e.ch=F at *;rw[g414L0e]at h2;simp[h0]at h2;simp at hl;simp[-getElem?_pos,g414,h0,g414L0e,h2,hg1,hlen,hl]
   ·simp only[hV,hS,hT,if_neg hc,if_neg h0]at h2⊢;have hg1:=hg (some (aN Ex.cells e.ch));generalize []++nn k++[some (aN Ex.cells e.ch)]=S2 at *;generalize aN Ex.cells e.ch=F at *;generalize aN Ex.cells e.kids=F0 at *;rw[g414L0e]at h2;simp[hq0]at h2 hl;simp[-getElem?_pos,g414,h0,hb2,hm,hq0,g414L0e,h2,hg1,hlen,hl]
def V7:Ex:=⟨0,0,[],0,[],[],bq⟩
def Ex.at:Ex→List Int→Option Ex
 |e,[]=>some e
 |e,i::r=>if 0≤i∧i<e.ch.length then match e.ch[i.toNat]? with|some x=>x.at r|none=>none else none
def zO:List AV:=[.pv (vI 0),.pv (vI 0),.pv (.str []),.pv (vI 0),.own [] 0,.own [] 1,.pv (vI 0),.pv (.str []),.pv (vI 0),.pv (vI 0),.own [] 2]
def zK:List AV:=[.pv (vI 0),.pv (vI 0),.pv (.str []),.pv (vI 0),.dH [],.dH [],.pv (vI 0),.pv (.str []),.pv (vI 0),.pv (vI 0),.dH []]
def atR:Option Ex→List PV
 |some x=>[x.pv,.bool true]
 |none=>[V7.pv,.bool false]
def Jr(p:List Int):Option Ex→Option (bg×St)
 |some x=>some (.exit 0,⟨[(2,.az 2 0),(4,.az 4 0),(9,.pv (.au (p.map vI))),(10,.pv (vI p.length)),(11,.pv (vI p.length)),(12,.pv (.bool false))],[(2,x.cl),(4,zO)],[],[0,0,0]⟩)
 |none=>some (.ret,⟨[(4,.az 4 0),(5,.pv (.bool false))],[(4,zK)],[],[0,0,0]⟩)
theorem Uz{p:List Int}(hp:Sm p):∀(n i:Nat),p.length-i=n→i≤p.length→∀e:Ex,e.Ok →
   cl AP g410L0 ⟨[(2,.az 2 0),(4,.az 4 0),(9,.pv (.au (p.map vI))),(10,.pv (vI p.length)),(11,.pv (vI i))],[(2,e.cl),(4,zO)],[],[0,0,0]⟩=Jr p (e.at (p.drop i))
 |0,i,hn,hi,e,he=>by
   have:i=p.length:=by omega
   subst this;rw[g410L0e];simp[g410B0,Ex.at,Jr,zO]
 |n+1,i,hn,hi,e,he=>by
   have hi:i<p.length:=(by omega);obtain⟨k,hk⟩:=aV hi;unfold Sm at hp;have c:=c414 he;simp at c;rw[bj hk,g410L0e];simp only[Ex.at];by_cases h1:0≤k∧k<e.ch.length
   · rw[if_pos h1];obtain⟨m,rfl,hm⟩:=pF h1.1 h1.2;obtain⟨x,hx⟩:=aV hm;have ih:=Uz hp n (i+1) (by omega) (by omega) x (he.c x (aR hx));have hm':¬e.ch.length≤m:=by omega
     simp[hx,zO]at ih⊢;generalize e.ch=C at *;simp (disch:=omega) [-getElem?_pos,g410B0,hk,hi,ah,c,hx,hm,hm',ih]
   · rw[if_neg h1];by_cases h2:0≤k
     · have h3:¬k<e.ch.length:=fun h=>h1 ⟨h2,h⟩;have h3':¬k<0:=by omega
       have h4:(e.ch.length:Int)≤k:=(by omega);generalize e.ch=C at *;simp (disch:=omega) [-getElem?_pos,g410B0,hk,hi,ah,c,Jr,zO,zK,h3,h3',h4]
     ·have h3':k<0:=(by omega);generalize e.ch=C at *;simp (disch:=omega) [-getElem?_pos,g410B0,hk,hi,ah,c,Jr,zO,zK,h3']
theorem c410{e:Ex}(h:e.Ok){p:List Int}(hp:Sm p):(aC AP).p 410 [e.pv,.au (p.map vI)]=some (atR (e.at p)):=by
 have h2:=Uz hp _ 0 rfl (by omega) e h;simp at h2;rw[ae (af:=g410) rfl rfl (by decide)];rw[g410L0e]at h2;cases hx:e.at p with
 |none=>rw[hx]at h2;simp[Jr,zO,zK]at h2;simp[g410,g410L0e,h2,atR,V7,bq]
 |some x=>rw[hx]at h2;simp[Jr,zO,zK]at h2;simp[g410,g410L0e,h2,atR,V7,bq]
def fy(e:Ex)(i:Nat):List (List UInt8):=
 if e.kind=4∨e.kind=7∨(e.kind=6∧i=1) then [e.name]
 else if e.kind=8∧0<i then match e.aD[i-1]? with|some a=>a.vars|none=>[]
 else []
theorem c411{e:Ex}{i:Nat}(hi:i<e.ch.length)(h8:e.kind=8→e.kids.length=1)(hO:e.Ok):(aC AP).p 411 [e.pv,vI i]=some [.au ((fy e i).map .str)]:=by
 have ha:=hO.a;rw[Ex.dQ]at hi;rw[ae (af:=g411) rfl rfl (by decide)];unfold fy;by_cases h1:e.kind=4
 ·simp[g411,h1]
 · by_cases h2:e.kind=7
   ·simp[g411,h1,h2]
   · by_cases h3:e.kind=6
     · by_cases h4:i=1
       ·simp[g411,h1,h2,h3,h4]
       ·have h4':¬(i:Int)=1:=(by omega);simp[g411,h1,h2,h3,h4,h4']
     · by_cases h5:e.kind=8
       · have hk:=h8 h5;by_cases h6:0<i
         ·have h6':(1:Int)≤i:=(by omega);obtain⟨a,hx⟩:=aV (l:=e.aD) (i:=i-1) (by omega);obtain⟨m,rfl⟩:∃m:Nat,i=m+1:=⟨i-1,by omega⟩;have hm:((m+1:Nat):Int)-1=m:=(by omega);have hm':((m:Int)+1)-1=m:=(by omega);simp at hx hi;have hlt:m<e.aD.length:=(by omega);have h6'':(1:Int)≤(m:Int)+1:=(by omega);simp (disch:=omega) [-getElem?_pos,g411,h1,h2,h3,h5,hk,h6,h6',h6'',ah,hm,hm',hx,hlt]
         · have:i=0:=by omega
           subst this;simp[g411,h1,h2,h3,h5,hk]
       ·simp[g411,h1,h2,h3,h5]
def Mo(l:List Ty)(t:Ty):Option Ty:=if t.kind=2∧0≤t.id∧t.id<l.length then l[t.id.toNat]? else none
theorem mB{l:List Ty}{t u:Ty}(h:Mo l t=some u):t.kind=2∧0≤t.id∧t.id<l.length∧l[t.id.toNat]?=some u:=by
 unfold Mo at h;split at h
 ·rename_i c;exact⟨c.1,c.2.1,c.2.2,h⟩
 ·cases h
theorem BF{l:List Ty}{t:Ty}(h:Mo l t=none):¬(t.kind=2∧0≤t.id∧t.id<l.length):=by
 intro c;unfold Mo at h;rw[if_pos c]at h;rw[List.getElem?_eq_none_iff]at h;omega
mutual
def Ty.nh(l:List Ty):Ty→Ty
 |⟨k,n,i,h,as⟩=>(Mo l ⟨k,n,i,h,as⟩).getD ⟨k,n,i,h,Ty.Mp l as⟩
def Ty.Mp(l:List Ty):List Ty→List Ty
 |[]=>[]
 |a::r=>a.nh l::Ty.Mp l r
end
theorem Ty.BG(l:List Ty):∀as:List Ty,Ty.Mp l as=as.map (Ty.nh l)
 |[]=>by simp[Ty.Mp]
 |a::r=>by simp[Ty.Mp,Ty.BG l r]
theorem Ty.mC(l:List Ty)(t:Ty):t.nh l=(Mo l t).getD ⟨t.kind,t.name,t.id,t.home,t.args.map (Ty.nh l)⟩:=by
 cases t;simp only[Ty.nh,Ty.BG]
theorem Xe{s:List Ty}{t:Ty}(hS:Sm t.args)(h:∀x∈t.args,(aC AP).p 48 [x.pv,.au (s.map Ty.pv)]=some [(x.nh s).pv]):∀(n i:Nat),t.args.length-i=n→i≤t.args.length→∀acc:List Ty,acc=(t.args.take i).map (Ty.nh s) →
   cl AP g48L0 ⟨[(1,.pv (.au (s.map Ty.pv))),(2,.az 2 0),(4,.az 4 0),(5,.az 5 0),(6,.pv (vI i))],
     [(2,[.pv (vI t.kind),.pv (.str t.name),.pv (vI t.id),.pv (vI t.home),.pv (.au (t.args.map Ty.pv))]),(4,[.pv (vI 0),.pv (.str []),.pv (vI 0),.pv (vI 0),.own [] 0]),
       (5,[.pv (vI t.kind),.pv (.str t.name),.pv (vI t.id),.pv (vI t.home),.own (acc.map Ty.pv) 1])],[],[0,acc.length]⟩ =
     some (.exit 0,⟨[(1,.pv (.au (s.map Ty.pv))),(2,.az 2 0),(4,.az 4 0),(5,.az 5 0),(6,.pv (vI t.args.length)),(33,.pv (.bool false))],
     [(2,[.pv (vI t.kind),.pv (.str t.name),.pv (vI t.id),.pv (vI t.home),.pv (.au (t.args.map Ty.pv))]),(4,[.pv (vI 0),.pv (.str []),.pv (vI 0),.pv (vI 0),.own [] 0]),
       (5,[.pv (vI t.kind),.pv (.str t.name),.pv (vI t.id),.pv (vI t.home),.own ((t.args.map (Ty.nh s)).map Ty.pv) 1])],[],[0,t.args.length]⟩)
 |0,i,hn,hi,acc,ha=>by
   have:i=t.args.length:=by omega
   subst this;subst ha;rw[g48L0e];simp[g48B0]
 |n+1,i,hn,hi,acc,ha=>by
   have hi:i<t.args.length:=(by omega);obtain⟨x,hx⟩:=aV hi;unfold Sm at hS;have hb:(acc.length+1)*64≤140737488355328:=by subst ha;simp;omega
   have hc:=h x (aR hx);have ih:=Xe hS h n (i+1) (by omega) (by omega) (acc++[x.nh s]) (by rw[List.take_add_one,hx,ha];simp);rw[g48L0e]at ih⊢;simp at ih hc;simp (disch:=omega) [-getElem?_pos,g48B0,hx,hi,hc,hb,ah];rw[g48L0e];simp[ih]
theorem c48{s:List Ty}(hs:Sm s){t:Ty}(hO:t.Ok):(aC AP).p 48 [t.pv,.au (s.map Ty.pv)]=some [(t.nh s).pv]:=by
 revert hO
 refine Ty.dF (p:=fun t=>t.Ok→(aC AP).p 48 [t.pv,.au (s.map Ty.pv)]=some [(t.nh s).pv]) ?_ t;intro t ih hO;rw[ae (af:=g48) rfl rfl (by decide)];unfold Sm at hs;have h:=Xe (s:=s) hO.sm (fun x hx=>ih x hx (hO.gw x hx)) _ 0 rfl (by omega) [] (by simp);rw[g48L0e]at h;simp at h;cases hp:Mo s t with
 |some u=>
   obtain⟨a,b,c,d⟩:=mB hp;have b1:¬t.id<0:=by omega
   simp (disch:=omega) [-getElem?_pos,g48,a,b,b1,c,d,Ty.mC s t,hp]
 |none=>
   have q:=BF hp;by_cases a:t.kind=2
   · by_cases b:0≤t.id
     ·have c:¬t.id<s.length:=fun c=>q ⟨a,b,c⟩;simp[a]at h;simp (disch:=omega) [-getElem?_pos,g48,a,b,c,g48L0e,h,Ty.mC s t,hp]
     ·simp[a]at h;simp (disch:=omega) [-getElem?_pos,g48,a,b,g48L0e,h,Ty.mC s t,hp]
   ·simp (disch:=omega) [-getElem?_pos,g48,a,g48L0e,h,Ty.mC s t,hp]
inductive Ty.Wb:Ty→Prop
 |mk {t:Ty}:(t.kind=2→t.args=[])→(∀x∈t.args,Ty.Wb x)→Ty.Wb t
theorem Mq{s:List Ty}(hs:∀a∈s,a.Ok){t:Ty}(h:t.Ok):(t.nh s).Ok:=by
 revert h
 refine Ty.dF (p:=fun t=>t.Ok→(t.nh s).Ok) ?_ t;intro t ih h;rw[Ty.mC];cases hp:Mo s t with
 |some u=>exact hs u (aR (mB hp).2.2.2)
 |none=>
   refine⟨?_,?_⟩
   ·have:=h.sm;unfold Sm at this⊢;simpa using this
   ·intro x hx;simp at hx;obtain⟨y,hy,rfl⟩:=hx;exact ih y hy (h.gw y hy)
structure Good(S:List Ty)(t:Ty):Prop where
 ok:t.Ok
 wf:t.Wf
 sub:∀x∈t.fe 1,x∈S
theorem wS{t:Ty}(hW:t.Wf):∀x∈t.nodes,x.kind=1→x∈t.fe 1:=by
 revert hW
 refine Ty.dF (p:=fun t=>t.Wf→∀x∈t.nodes,x.kind=1→x∈t.fe 1) ?_ t;intro t ih hW x hx hk;rw[Ty.aM]at hx;rw[Ty.mu];simp only[List.mem_cons,List.mem_flatMap]at hx;rcases hx with rfl|⟨y,hy,hx⟩
 ·have ea:=hW.var hk;simp[hk,ea]
 · have:¬(t.kind=1∧t.args.length=0):=by
     rintro⟨_,h⟩
     have:t.args=[]:=by simpa using h
     rw[this]at hy;simp at hy
   rw[if_neg this];simp only[List.mem_flatMap];exact⟨y,hy,ih y hy (hW.gw y hy) x hx hk⟩
theorem EX{S:List Ty}(hf:S.length<1099511627776)(hO:∀x∈S,x.Ok){l:List Ty}(hS:Sm l)(hG:∀t∈l,Good S t):(aC AP).p 56 [.au (l.map Ty.pv)]=some [.au ((vars l).map vI)]:=by
 rw[←uL (fun t ht=>(hG t ht).wf)];refine c56 hf hO hS (fun t ht=>(hG t ht).ok) ?_;intro x hx;simp only[List.mem_flatMap]at hx;obtain⟨t,ht,hx⟩:=hx;exact (hG t ht).sub x hx
theorem RO{l:List En}(hS:Sm l):∀(n i:Nat),l.length-i=n→i≤l.length→∀acc:List En,acc.length≤i →
   cl AP g201L0 ⟨[(0,.pv (.au (l.map En.pv))),(3,.own (acc.map En.pv) 0),(4,.pv (vI i))],[],[],[acc.length]⟩ =
     some (.exit 0,⟨[(0,.pv (.au (l.map En.pv))),(3,.own ((acc++dm (l.drop i)).map En.pv) 0),(4,.pv (vI l.length)),(10,.pv (.bool false))],[],[],[(acc++dm (l.drop i)).length]⟩)
 |0,i,hn,hi,acc,ha=>by
   have:i=l.length:=by omega
   subst this;rw[g201L0e];simp[g201B0,dm]
 |n+1,i,hn,hi,acc,ha=>by
   have hi:i<l.length:=(by omega);obtain⟨x,hx⟩:=aV hi;have k:=c181 (l:=l.drop (i+1)) (s:=x.name) (by unfold Sm at hS⊢;simp;omega);unfold Sm at hS;have hb:(acc.length+1)*88≤140737488355328:=(by omega);have hsl:=Wy (sz:=7) (l:=l.map En.pv) (k:=.i64) (h:=(i:Int)+1) (by omega) (by simp;omega) (by simp);have hd:((i:Int)+1).toNat=i+1:=(by omega);rw[hd]at hsl;rw[bj hx];simp only[OX]at k;cases e:FX (l.drop (i+1)) x.name with
   |some c=>
     have ea:(l.drop (i+1)).any (fun y=>decide (y.name=x.name))=true:=any_none.2 ⟨c,e⟩;have es:dm (x::l.drop (i+1))=dm (l.drop (i+1)):=(by simp only[dm,ea,if_true]);have ih:=RO hS n (i+1) (by omega) (by omega) acc (by omega);rw[g201L0e]at ih⊢;rw[e]at k;simp at ih k;simp (disch:=omega) [-getElem?_pos,g201B0,hx,hi,ah,hsl,k,es];rw[g201L0e];simp[ih]
   |none=>
     have ea:(l.drop (i+1)).any (fun y=>decide (y.name=x.name))=false:=by
       cases h:(l.drop (i+1)).any (fun y=>decide (y.name=x.name)) with
       |false=>rfl
       |true=>obtain⟨c,hc⟩:=any_none.1 h;rw[e]at hc;cases hc
     have es:dm (x::l.drop (i+1))=x::dm (l.drop (i+1)):=(by simp only[dm,ea];simp);have ih:=RO hS n (i+1) (by omega) (by omega) (acc++[x]) (by simp;omega);rw[g201L0e]at ih⊢;rw[e]at k;simp at ih k;simp (disch:=omega) [-getElem?_pos,g201B0,hx,hi,ah,hsl,k,es,hb];rw[g201L0e];simp[ih]
theorem c201{l:List En}(hS:Sm l):(aC AP).p 201 [.au (l.map En.pv)]=some [.au ((dm l).map En.pv)]:=by
 have h:=RO hS _ 0 rfl (by omega) [] (by simp);rw[ae (af:=g201) rfl rfl (by decide)];rw[g201L0e]at h;simp at h;simp[g201,g201L0e,h]
inductive Ty.Kn (K:Int→Prop):Ty→Prop
 |mk {t:Ty}:(t.kind≠4→K t.kind∧t.args=[])→t.name.length≤100→(∀x∈t.args,x.Kn K)→t.Kn K
theorem Ty.Kn.hd{K:Int→Prop}{t:Ty}(h:t.Kn K):t.kind≠4→K t.kind∧t.args=[]:=by cases h;assumption
theorem Ty.Kn.nm{K:Int→Prop}{t:Ty}(h:t.Kn K):t.name.length≤100:=by cases h;assumption
theorem Ty.Kn.kd{K:Int→Prop}{t:Ty}(h:t.Kn K):∀x∈t.args,x.Kn K:=by cases h;assumption
theorem Ty.Kn.imp{K K':Int→Prop}(hK:∀k,K k→K' k){t:Ty}(h:t.Kn K):t.Kn K':=by
 induction h with
 |mk h1 hn _ ih=>exact .mk (fun q=>⟨hK _ (h1 q).1,(h1 q).2⟩) hn ih
theorem Ty.Kn.wf{K:Int→Prop}{t:Ty}(h:t.Kn K):t.Wf:=by
 induction h with
 |mk h1 _ _ ih=>exact⟨fun q=>(h1 (by rw[q];decide)).2,ih⟩
theorem Ty.Kn.cw{K:Int→Prop}{t:Ty}(h:t.Kn K):t.Cw:=by
 induction h with
 |mk h1 _ _ ih=>exact⟨fun q=>(h1 q).2,ih⟩
theorem Ty.Kn.bare{K:Int→Prop}{t:Ty}(h:t.args=[])(hk:t.kind≠4→K t.kind)(hn:t.name.length≤100):t.Kn K:=.mk (fun q=>⟨hk q,h⟩) hn (by rw[h];simp)
theorem Ty.Kn.nodes{K:Int→Prop}{t:Ty}(h:t.Kn K):∀y∈t.nodes,y.kind≠4→K y.kind∧y.args=[]:=by
 induction h with
 | @mk t h1 _ _ ih=>
   intro y hy;rw[Ty.aM]at hy;simp only[List.mem_cons,List.mem_flatMap]at hy;rcases hy with rfl|⟨a,ha,hy⟩
   ·exact h1
   ·exact ih a ha y hy
@[simp] def KS(k:Int):Prop:=k=0∨k=1∨k=3
abbrev Ty.Kw(t:Ty):Prop:=t.Kn KS
theorem Ty.Kw.var{t:Ty}(h:t.Kw):t.kind=1→t.args=[]:=fun q=>(Ty.Kn.hd h (by rw[q];decide)).2
theorem Ty.Kw.gw{t:Ty}(h:t.Kw):∀x∈t.args,x.Kw:=Ty.Kn.kd h
@[simp] def KG(k:Int):Prop:=k=0∨k=3
@[simp] def KC(k:Int):Prop:=k=0∨k=2∨k=3
@[simp] def KV(k:Int):Prop:=k=0∨k=1∨k=2∨k=3
theorem P':∀k,KG k→KS k:=by intro k h;simp at h⊢;omega
theorem UA:∀k,KG k→KC k:=by intro k h;simp at h⊢;omega
theorem UB:∀k,KC k→KV k:=by intro k h;simp at h⊢;omega
theorem EY{K K':Int→Prop}{s:List As}{t:Ty}(h:t.Kn K)(hK:∀k,K k→k≠1→K' k)(hs:∀i x,lp s i=some x→x.Kn K')(h1:K' 1∨∀y∈t.nodes,y.kind=1→∃x,lp s y.id=some x):(t.sub s).Kn K':=by
 induction h with
 | @mk t hh hn _ ih=>
   have hself:t∈t.nodes:=(by rw[Ty.aM];simp);rw[Ty.sub_eq];by_cases q:t.kind=1
   · rw[if_pos q];cases e:lp s t.id with
     |some x=>simpa using hs _ _ e
     |none=>
       rcases h1 with h1|h1
       ·have:=hh (by rw[q];decide);exact .mk (fun _=>⟨by simp only[Option.getD_none];rw[q];exact h1,by simpa using this.2⟩) (by simpa using hn) (by rw[Option.getD_none,this.2];simp)
       ·obtain⟨x,hx⟩:=h1 t hself q;rw[hx]at e;cases e
   · rw[if_neg q];refine .mk (fun r=>?_) hn ?_
     ·have:=hh r;exact⟨hK _ this.1 q,by simp[this.2]⟩
     · intro x hx;simp only[List.mem_map]at hx;obtain⟨a,ha,rfl⟩:=hx;refine ih a ha ?_;rcases h1 with h1|h1
       ·exact .inl h1
       ·right;intro y hy;refine h1 y ?_;rw[Ty.aM];simp only[List.mem_cons,List.mem_flatMap];exact .inr ⟨a,ha,hy⟩
theorem Mr{K K':Int→Prop}{l:List Ty}{t:Ty}(h:t.Kn K)(hK:∀k,K k→k≠2→K' k)(hs:∀x∈l,x.Kn K')(h1:∀y∈t.nodes,y.kind=2→0≤y.id∧y.id<l.length):(t.nh l).Kn K':=by
 induction h with
 | @mk t hh hn _ ih=>
   have hself:t∈t.nodes:=(by rw[Ty.aM];simp);rw[Ty.mC];cases e:Mo l t with
   |some x=>
     obtain⟨_,_,_,hx⟩:=mB e;simpa using hs _ (aR hx)
   |none=>
     have q:t.kind≠2:=fun q=>BF e ⟨q,(h1 t hself q).1,(h1 t hself q).2⟩;simp only[Option.getD_none];refine .mk (fun r=>?_) hn ?_
     ·have:=hh r;exact⟨hK _ this.1 q,by simp[this.2]⟩
     ·intro x hx;simp only[List.mem_map]at hx;obtain⟨a,ha,rfl⟩:=hx;refine ih a ha ?_;intro y hy;refine h1 y ?_;rw[Ty.aM];simp only[List.mem_cons,List.mem_flatMap];exact .inr ⟨a,ha,hy⟩
theorem Ex.lr{e x:Ex}(h:x∈e.ch):SizeOf.sizeOf x<SizeOf.sizeOf e:=by
 rw[Ex.ch,List.mem_append,List.mem_map]at h;cases e;rcases h with h|⟨a,ha,rfl⟩
 ·have:=_root_.List.sizeOf_lt_of_mem h;simp at *;omega
 ·have:=_root_.List.sizeOf_lt_of_mem ha;have:=dt.qF a;simp at *;omega
def Ex.sz(e:Ex):Nat:=1+(e.ch.attach.map fun x=>x.1.sz).sum
termination_by SizeOf.sizeOf e
decreasing_by exact Ex.lr x.2
theorem Ex.kF(e:Ex):e.sz=1+(e.ch.map Ex.sz).sum:=by
 rw[Ex.sz,List.map_attach_eq_pmap,List.pmap_eq_map]
theorem Ex.lx(e:Ex):1≤e.sz:=by rw[Ex.kF];omega
theorem uQ{α:Type}{l:List α}{f:α→Nat}{M:Nat}(h:∀x∈l,f x≤M):(l.map f).sum≤l.length*M:=by
 induction l with
 |nil=>simp
 |cons a r ih=>
   have h1:=h a (by simp);have h2:=ih fun x hx=>h x (by simp[hx])
   simp only[List.map_cons,List.sum_cons,List.length_cons,Nat.add_mul];omega
theorem ly{α:Type}{l:List α}{f:α→Nat}{x:α}(h:x∈l):f x≤(l.map f).sum:=by
 induction l with
 |nil=>cases h
 |cons a r ih=>
   simp only[List.map_cons,List.sum_cons];rcases List.mem_cons.1 h with rfl|h
   ·omega
   ·have:=ih h;omega
theorem Ex.oF{e x:Ex}(h:x∈e.ch):x.sz<e.sz:=by
 have:=ly (f:=Ex.sz) h;rw[e.kF];omega
@[simp] def KT(k:Int):Prop:=k=0∨k=5
inductive lR:Ex→Prop
 |leaf {e:Ex}:(e.kind=1∨e.kind=2)∧e.name.length≤100∨e.kind=3∧0≤e.num∧e.num<4∨e.kind=10∧e.name=[]∧e.num=0∧e.ty=bq→e.kids=[]→e.aD=[]→lR e
 |lam {e a:Ex}:e.kind=4→e.name.length≤100→e.kids=[a]→e.aD=[]→lR a→lR e
 |app {e a b:Ex}:e.kind=5→e.kids=[a,b]→e.aD=[]→lR a→lR b→lR e
 |sq {e a b:Ex}:e.kind=6∨e.kind=7→e.name.length≤100→e.kids=[a,b]→e.aD=[]→lR a→lR b→lR e
 |mD {e a:Ex}:e.kind=8→e.kids=[a]→lR a→e.aD.length≤10 →
     (∀x∈e.aD,x.cZ.length≤100∧x.vars.length≤10∧∀v∈x.vars,v.length≤100)→(∀x∈e.aD,lR x.body)→lR e
 |JU {e a:Ex}:e.kind=9→e.kids=[a]→e.aD=[]→e.ty.Kn KT→e.ty.nodes.length≤10000→lR a→lR e
 |held {e a:Ex}:e.kind=11→e.kids=[a]→e.aD=[]→lR a→lR e
theorem lR.c{e:Ex}(h:lR e):∀x∈e.ch,lR x:=by
 intro x hx;rw[Ex.ch,List.mem_append,List.mem_map]at hx;cases h with
 |leaf _ h2 h3=>rw[h2,h3]at hx;simp at hx
 |lam _ _ h2 h3 h=>rw[h2,h3]at hx;simp at hx;subst hx;exact h
 |app _ h2 h3 h h'=>rw[h2,h3]at hx;simp at hx;rcases hx with rfl|rfl<;>assumption
 |sq _ _ h2 h3 h h'=>rw[h2,h3]at hx;simp at hx;rcases hx with rfl|rfl<;>assumption
 |JU _ h2 h3 _ _ h=>rw[h2,h3]at hx;simp at hx;subst hx;exact h
 |held _ h2 h3 h=>rw[h2,h3]at hx;simp at hx;subst hx;exact h
 |mD _ h2 h _ _ h6=>
   rw[h2]at hx;simp at hx;rcases hx with rfl|⟨a,ha,rfl⟩
   ·exact h
   ·exact h6 a ha
def wN(n:Nat):Nat:=50 ^ (n / 12)*(2*(n % 12)+1)
theorem UC{n m:Nat}(h:n≤m):wN n≤wN m:=by
 have step:∀n,wN n≤wN (n+1):=by
   intro n;unfold wN;by_cases q:n % 12=11
   ·have h1:(n+1) / 12=n / 12+1:=(by omega);have h2:(n+1) % 12=0:=(by omega);rw[h1,h2,q,Nat.pow_succ];generalize 50 ^ (n / 12)=P;omega
   ·have h1:(n+1) / 12=n / 12:=(by omega);have h2:(n+1) % 12=n % 12+1:=(by omega);rw[h1,h2];exact Nat.mul_le_mul_left _ (by omega)
 induction h with
 |refl=>exact Nat.le_refl _
 |step _ ih=>exact Nat.le_trans ih (step _)
theorem wT(m:Nat):wN (12*m)=50 ^ m:=by
 unfold wN;have h1:12*m / 12=m:=by omega
 have h2:12*m % 12=0:=by omega
 rw[h1,h2];omega
theorem vR{α:Type}{l:List α}{i:Nat}{x:α}(h:i<l.length):(l.set i x).take (i+1)=l.take i++[x]:=by
 rw[List.set_eq_take_append_cons_drop,if_pos h,List.take_append,List.take_of_length_le (by simp;omega)];have:i+1-(l.take i).length=1:=by simp;omega
 rw[this];rfl
theorem BH{α:Type}{l:List α}{i j:Nat}{x:α}(h:i<j):(l.set i x).drop j=l.drop j:=by
 rw[List.drop_set_of_lt h]
theorem RP{X:Sh}(hX:aL X){t:List UInt8}{N:Nat}(hN:N<1099511627776):∀(n j:Nat),N-j=n→j≤N→∀(a:List (List UInt8)) (i:Nat),a.length=N→i<j→∃(a':List (List UInt8)) (i':Nat),
   cl AP g412L0 ⟨[(0,.aP X.length 1 N false),(1,.fn 413 [.aW (X.length+1) 0]),(5,.pv (vI i)),(6,.pv (vI j))],[],SA X a t,[]⟩ =
     some (.exit 0,⟨[(0,.aP X.length 1 N false),(1,.fn 413 [.aW (X.length+1) 0]),(5,.pv (vI i')),(6,.pv (vI N)),(19,.pv (.bool false))],[],SA X a' t,[]⟩) ∧
     a'.length=N∧i'≤N∧a'.take i'=a.take i++(a.drop j).filter (fun x=>!decide (x=t))
 |0,j,hk,hj,a,i,ha,hi=>by
   have:j=N:=by omega
   subst this;have hn:=(fu hX (l:=a) (t:=t)).norm;refine⟨a,i,?_,ha,by omega,by rw[List.drop_of_length_le (by omega)];simp⟩;generalize SA X a t=SH at hn⊢;rw[g412L0e];simp[g412B0,hn]
 |n+1,j,hk,hj,a,i,ha,hi=>by
   have hj:j<N:=(by omega);obtain⟨x,hx⟩:=aV (l:=a) (i:=j) (by omega);have hn:=(fu hX (l:=a) (t:=t)).norm;have hs:=(fu hX (l:=a) (t:=t)).shift;have hg:=Mm hx;have hB:bV (tx a)=false:=bI mz;have hle:j+1≤(tx a).length:=(by rw[oD];omega);have hle2:i+1≤(tx a).length:=(by rw[oD];omega);have hA:=EW (X:=X) (l:=a) (t:=t);have q:=Mn hn hs Mk (by rw[yN];omega) (x:=x) (t:=t) (c:=X.length+1);by_cases e:x=t
   ·obtain⟨a',i',e1,e2,e3,e4⟩:=RP hX (t:=t) hN n (j+1) (by omega) (by omega) a i ha (by omega);refine⟨a',i',?_,e2,e3,by rw[e4,bj hx];simp[e]⟩;rw[decide_eq_true e]at q;generalize SA X a' t=SR at e1⊢;generalize SA X a t=SH at hn hs hA q e1⊢;rw[g412L0e]at e1⊢;simp[hn]at e1;simp (disch:=omega) [-getElem?_pos,-eG,g412B0,hj,hn,hA,hg,hB,hle,q,ah];rw[g412L0e];simp[hn,e1]
   · obtain⟨a',i',e1,e2,e3,e4⟩:=RP hX (t:=t) hN n (j+1) (by omega) (by omega) (a.set i x) (i+1) (by simpa using ha) (by omega);refine⟨a',i',?_,e2,e3,by rw[e4,bj hx,vR (by omega),BH (by omega)];simp[e]⟩;rw[decide_eq_false e]at q;have hiN:i<N:=by omega
     have htx:=RL (l:=a) (i:=i) (by omega) (s:=x);have hset:=Ml (X:=X) (l:=a) (l':=a.set i x) (t:=t);have hn1:=(fu hX (l:=a.set i x) (t:=t)).norm;generalize SA X a' t=SR at e1⊢;generalize SA X (a.set i x) t=S1 at hset hn1 e1;generalize SA X a t=SH at hn hs hA q hset⊢;generalize tx (a.set i x)=T1 at htx hset;rw[g412L0e]at e1⊢;simp[hn1]at e1 htx;simp (disch:=omega) [-getElem?_pos,-eG,g412B0,hj,hn,hA,hg,hB,hle,hle2,hiN,q,ah,htx,hset];rw[g412L0e];simp[hn1,e1]
theorem c421{SH:Sh}(hn:∀aI ts,a9 aI ts SH=(SH,aI,ts))(hs:∀n,ej n SH=SH){b c:Nat}{t:List UInt8}{l:List (List UInt8)}(hS:Sm l)(ha:SH[b]?=some (some (tx l)))(hb:SH[c]?=some (some [.pv (.str t)]))(hc:c<SH.length) :
   (aC AP).i 421 [.aP b 1 l.length false,.fn 413 [.aW c 0]] SH []=some ([.pv (vI (kb (bM (fun x=>decide (x=t)) l)))],SH,[]):=by
 have h:=Ux hn hs hS ha hb hc _ 0 rfl (by omega);simp at h;rw[aE (af:=sk 1 false) rfl (by simp[sk])];cases hi:bM (fun x=>decide (x=t)) l with
 |none=>rw[hi]at h;simp at h;simp[sk,h,hn,kb]
 |some k=>rw[hi]at h;simp at h;simp[sk,h,hn,kb]
theorem F6{α:Type}{p:α→Bool}:∀{l:List α},bM p l=none→l.filter (fun x=>!p x)=l
 |[],_=>rfl
 |x::r,h=>by
   simp only[bM]at h;split at h
   ·simp at h
   · rename_i e;cases h':bM p r with
     |none=>simp[e,F6 h']
     |some k=>rw[h']at h;simp at h
theorem F7{α:Type}{p:α→Bool}:∀{l:List α} {k:Nat},bM p l=some k→k<l.length∧l.filter (fun x=>!p x)=l.take k++(l.drop (k+1)).filter (fun x=>!p x)
 |[],_,h=>by simp[bM]at h
 |x::r,k,h=>by
   simp only[bM]at h;split at h
   ·rename_i e;simp at h;subst h;simp[e]
   · rename_i e;cases h':bM p r with
     |none=>rw[h']at h;simp at h
     |some k'=>
       rw[h']at h;simp at h;subst h;obtain⟨h1,h2⟩:=F7 h';exact⟨by simpa using h1,by simp[e,h2]⟩
theorem Ms{a:List (List UInt8)}{i N:Nat}(hN:a.length=N)(h:i≤N):aQ (tx a) i ((List.replicate (N-i) [AV.pv (.str [])]).flatten)=tx (a.take i++List.replicate (N-i) []):=by
 have e:∀k,(List.replicate k [AV.pv (.str [])]).flatten=List.replicate k (AV.pv (.str [])):=by
   intro k;induction k with
   |zero=>rfl
   |succ k ih=>simp only[List.replicate_succ,List.flatten_cons,ih];rfl
 rw[e,aF,List.drop_eq_nil_of_le (by rw[oD];simp;omega)];simp[tx,List.map_take]
theorem c412{X:Sh}(hX:aL X){t:List UInt8}{l:List (List UInt8)}(hS:Sm l):∃a:List (List UInt8),a.length=l.length∧a.take (l.filter fun x=>!decide (x=t)).length=l.filter (fun x=>!decide (x=t)) ∧
   (aC AP).i 412 [.aP X.length 1 l.length false,.fn 413 [.aW (X.length+1) 0]] (SA X l t) []=some ([.aP X.length 1 (l.filter fun x=>!decide (x=t)).length false],SA X a t,[]):=by
 have hS':=hS;unfold Sm at hS';have hn:=(fu hX (l:=l) (t:=t)).norm;have hs:=(fu hX (l:=l) (t:=t)).shift;have k:=c421 hn hs (b:=X.length) (c:=X.length+1) hS EW Mk (by rw[yN];omega);have hlen:=yN (X:=X) (l:=l) (t:=t);cases hi:bM (fun x=>decide (x=t)) l with
 |none=>
   rw[hi]at k;have hf:=F6 hi;refine⟨l,rfl,by rw[hf];simp,?_⟩;rw[hf,aE (af:=g412) rfl (by simp[g412])];generalize SA X l t=SH at hn hs k hlen⊢;simp[kb]at k;have ht:SH.take SH.length=SH:=List.take_length;simp[-getElem?_pos,g412,hn,hs,k,kb,hlen];rw[←hlen,ht];simp[hn]
 |some i0=>
   rw[hi]at k;obtain⟨h0,hf⟩:=F7 hi;obtain⟨a',i',e1,e2,e3,e4⟩:=RP hX (t:=t) (N:=l.length) (by omega) _ (i0+1) rfl (by omega) l i0 rfl (by omega);rw[←hf]at e4;have hi':(l.filter fun x=>!decide (x=t)).length=i':=by rw[←e4];simp;omega
   refine⟨a'.take i'++List.replicate (l.length-i') [],by simp;omega,?_,?_⟩
   ·rw[hi',←e4,List.take_append_of_le_length (by simp;omega),List.take_take];simp
   · rw[hi',aE (af:=g412) rfl (by simp[g412])];have hn1:=(fu hX (l:=a') (t:=t)).norm;have hn2:=(fu hX (l:=a'.take i'++List.replicate (l.length-i') []) (t:=t)).norm;have hB:bV (tx a')=false:=bI mz;have hA:=EW (X:=X) (l:=a') (t:=t);have htl:(tx a').length=l.length:=by rw[oD,e2]
     have hcl:=Ms e2 e3;have hset:=Ml (X:=X) (l:=a') (l':=a'.take i'++List.replicate (l.length-i') []) (t:=t);have hl2:=yN (X:=X) (l:=a'.take i'++List.replicate (l.length-i') []) (t:=t);generalize SA X (a'.take i'++List.replicate (l.length-i') []) t=S2 at hn2 hset hl2⊢;generalize SA X a' t=S1 at hn1 hA hset e1;generalize SA X l t=SH at hn hs k hlen e1⊢;generalize tx (a'.take i'++List.replicate (l.length-i') [])=T2 at hcl hset;have ht:S2.take S2.length=S2:=List.take_length;rw[g412L0e]at e1;simp[hn]at e1;have hi0:¬((i0:Int)=-1):=(by omega);have hle:i'+(l.length-i')≤l.length:=(by omega);rcases Nat.eq_zero_or_pos i' with hz|hz
     ·subst hz;simp at hcl;simp (disch:=omega) [-getElem?_pos,g412,hn,hs,k,kb,hi0,ah,g412L0e,e1,kx,eK,hA,hB,htl,hcl,hset,hlen];rw[←hl2,ht];simp[hn2]
     ·have hz':¬((i':Int)=0):=(by omega);have hz2:¬i'=0:=(by omega);simp[e3]at hcl;simp (disch:=omega) [-getElem?_pos,g412,hn,hs,k,kb,hi0,ah,g412L0e,e1,kx,eK,hz',hz2,e3,hA,hB,htl,hle,hcl,hset,hlen];rw[←hl2,ht];simp[hn2]
def ni(l:List (List UInt8))(t:List UInt8):List (List UInt8):=(l.filter fun x=>!decide (x=t))++[t]
theorem c412e{SH:Sh}(hn:∀aI ts,a9 aI ts SH=(SH,aI,ts))(hs:∀n,ej n SH=SH){c:Nat} :
   (aC AP).i 412 [.own [] 0,.fn 413 [.aW c 0]] SH [0]=some ([.own [] 0],SH,[0]):=by
 have k:(aC AP).i 421 [.pv (.au []),.fn 413 [.aW c 0]] SH []=some ([.pv (vI (-1))],SH,[]):=by
   rw[aE (af:=sk 1 false) rfl (by simp[sk])];simp[sk,hn,pH,yK]
 rw[aE (af:=g412) rfl (by simp[g412])];have ht:SH.take SH.length=SH:=List.take_length;simp[-getElem?_pos,g412,hn,hs,k,ht]
def Co(X:Sh)(l:List (List UInt8)):AV:=if l=[] then .own [] 0 else .aP X.length 1 l.length false
def ze(X:Sh)(l:List (List UInt8)):Sh:=if l=[] then X else X++[some (tx l)]
def Cp(l:List (List UInt8)):aG:=if l=[] then [0] else []
theorem Mu{e:List AV}(he:∀v∈e,∃p,v=AV.pv p){i9 i22:Int}{p20:PV}{n21:Int}{V:List (List UInt8)}(hV:V.length<1000000):∀(n j:Nat),V.length-j=n→j≤V.length→∀(X:Sh) (l:List (List UInt8)),aL X→l.length+n<1000000000→∃X',aL X' ∧
   cl AP g404L1 ⟨[(2,.az 2 0),(7,Co X l),(9,.pv (vI i9)),(20,.pv p20),(21,.pv (vI n21)),(22,.pv (vI i22)),(28,.pv (.au (V.map .str))),(29,.pv (vI V.length)),(30,.pv (vI j))],[(2,e)],ze X l,Cp l⟩ =
     some (.exit 2,⟨[(2,.az 2 0),(7,Co X' ((V.drop j).foldl ni l)),(9,.pv (vI i9)),(20,.pv p20),(21,.pv (vI n21)),(22,.pv (vI i22)),(28,.pv (.au (V.map .str))),(29,.pv (vI V.length)),(30,.pv (vI V.length)),(31,.pv (.bool false))],[(2,e)],ze X' ((V.drop j).foldl ni l),Cp ((V.drop j).foldl ni l)⟩)
 |0,j,hk,hj,X,l,hX,hl=>by
   have:j=V.length:=by omega
   subst this;refine⟨X,hX,?_⟩;rw[List.drop_length];simp only[List.foldl_nil];have hn:=hX.norm;have he':∀aI ts,bh aI ts e=(e,aI,ts):=fun aI ts=>mo he
   by_cases h0:l=[]
   ·rw[g404L1e];simp[g404B1,Co,ze,Cp,h0,hn,he']
   ·have hn1:∀aI ts,a9 aI ts (X++[some (tx l)])=(X++[some (tx l)],aI,ts):=(hX.app (aL.one mz)).norm;rw[g404L1e];simp only[Co,ze,Cp,if_neg h0];generalize X++[some (tx l)]=S1 at hn1;simp[g404B1,hn1,he']
 |n+1,j,hk,hj,X,l,hX,hl=>by
   have hj:j<V.length:=(by omega);obtain⟨t,ht⟩:=aV hj;have he':∀aI ts,bh aI ts e=(e,aI,ts):=fun aI ts=>mo he
   have hn:=hX.norm;have hs:=hX.shift;have huf:(l.filter fun x=>!decide (x=t)).length≤l.length:=List.length_filter_le _ _;have hul:(ni l t).length≤l.length+1:=(by simp[ni,huf]);rw[bj ht,List.foldl_cons];by_cases h0:l=[]
   · subst h0;have hXB:aL (X++[some [.pv (.str t)]]):=hX.app (aL.one (by intro v hv;simp at hv;exact⟨_,hv⟩));have k:=c412e hXB.norm hXB.shift (c:=X.length);obtain⟨X',hX',ih⟩:=Mu he (i9:=i9) (i22:=i22) (p20:=p20) (n21:=n21) hV n (j+1) (by omega) (by omega) (X++[some [.pv (.str t)]]) [t] hXB (by simp at hl⊢;omega);refine⟨X',hX',?_⟩;have eu:ni [] t=[t]:=by simp[ni]
     rw[eu]
     have hn2:∀aI ts,a9 aI ts (X++[some [.pv (.str t)],some [.pv (.str t)]])=(X++[some [.pv (.str t)],some [.pv (.str t)]],aI,ts):=by
       have:=(hXB.app (aL.one (cs:=[AV.pv (.str t)]) (by intro v hv;simp at hv;exact⟨_,hv⟩))).norm;simpa using this
     have hn1:=hXB.norm;have hs1:=hXB.shift;generalize (V.drop (j+1)).foldl ni [t]=r at ih⊢;rw[g404L1e]at ih⊢;simp[Co,ze,Cp,he',tx,hn2]at ih⊢;simp (disch:=omega) [-getElem?_pos,g404B1,ht,hj,hn,hn1,hs1,he',k,ah];rw[g404L1e];simp[he',hn2,ih]
   · obtain⟨a,a1,a2,k⟩:=c412 hX (t:=t) (l:=l) (by unfold Sm;omega);have hXN:aL (X++[none,some [.pv (.str t)]]):=hX.app (by intro cs hc v hv;simp at hc;subst hc;simp at hv;exact⟨_,hv⟩);obtain⟨X',hX',ih⟩:=Mu he (i9:=i9) (i22:=i22) (p20:=p20) (n21:=n21) hV n (j+1) (by omega) (by omega) (X++[none,some [.pv (.str t)]]) (ni l t) hXN (by omega);refine⟨X',hX',?_⟩;have hup:ni l t≠[]:=by simp[ni]
     have hn0:∀aI ts,a9 aI ts (X++[some (tx l)])=(X++[some (tx l)],aI,ts):=(hX.app (aL.one mz)).norm;have hn1:=(fu hX (l:=l) (t:=t)).norm;have hn2:=(fu hX (l:=a) (t:=t)).norm;have hs2:=(fu hX (l:=a) (t:=t)).shift
     have hn3:∀aI ts,a9 aI ts (X++[none,some [.pv (.str t)],some (tx (ni l t))])=(X++[none,some [.pv (.str t)],some (tx (ni l t))],aI,ts):=by
       have:=(hXN.app (aL.one (cs:=tx (ni l t)) mz)).norm;simpa using this
     have hB:bV (tx a)=false:=bI mz;have htl:(tx a).length=l.length:=(by rw[oD,a1]);have hul2:(ni l t).length=(l.filter fun x=>!decide (x=t)).length+1:=by simp[ni]
     have htx:tx (ni l t)=(tx a).take (l.filter fun x=>!decide (x=t)).length++[.pv (.str t)]:=by
       have:(tx a).take (l.filter fun x=>!decide (x=t)).length=tx (l.filter fun x=>!decide (x=t)):=by
         conv=>rhs;rw[←a2]
         simp[tx,List.map_take]
       rw[this];simp[tx,ni]
     have g0:∀u v:Option (List AV),(X++[u,v])[X.length]?=some u:=fun u v=>by simp
     have g1:∀u v:Option (List AV),(X++[u,v])[X.length+1]?=some v:=fun u v=>by simp
     have s0:∀u v w:Option (List AV),(X++[u,v]).set X.length w=X++[w,v]:=fun u v w=>by simp
     have s1:∀u v w:Option (List AV),(X++[u,v]).set (X.length+1) w=X++[u,w]:=fun u v w=>by simp
     unfold SA at k hn1 hn2 hs2;simp only[Co,ze,Cp,if_neg h0,if_neg hup]at ih⊢;generalize (V.drop (j+1)).foldl ni (ni l t)=r at ih⊢;rw[hul2]at ih;generalize (l.filter fun x=>!decide (x=t)).length=K at k htx ih huf;have hb1:(K+1)*16≤140737488355328:=by omega
     have hb2:K≤l.length:=huf;generalize tx (ni l t)=TU at htx hn3 ih;generalize tx a=TA at k hn2 hs2 hB htl htx;generalize tx l=TL at k hn0 hn1⊢;generalize (if r=[] then AV.own [] 0 else AV.aP X'.length 1 r.length false)=VR at ih⊢;generalize (if r=[] then X' else X'++[some (tx r)])=SR at ih⊢;generalize (if r=[] then ([0]:aG) else [])=TR at ih⊢;rw[g404L1e]at ih⊢;simp[he',hn3]at ih;simp (disch:=omega) [-getElem?_pos,g404B1,ht,hj,hn0,hn1,hn2,hs2,he',k,ah,hB,htl,hb1,hb2,g0,g1,s0,s1,←htx];rw[g404L1e];simp[he',hn3,ih]
noncomputable def dv:List bt→List bt
 |[]=>[]
 |x::r=>if x∈r then dv r else x::dv r
inductive Ex.One:Ex→Prop
 |mk {e:Ex}:(e.kind=8→e.kids.length=1)→(∀x∈e.ch,x.One)→e.One
theorem Ex.One.h{e:Ex}(h:e.One):e.kind=8→e.kids.length=1:=by cases h;assumption
theorem Ex.One.c{e:Ex}(h:e.One):∀x∈e.ch,x.One:=by cases h;assumption
def Ex.pN:Ex→List Int→List bt
 |_,[]=>[]
 |e,i::r=>fy e i.toNat++match e.ch[i.toNat]? with|some x=>x.pN r|none=>[]
theorem pO{e:Ex}{i:Nat}(h:e.Ok):(fy e i).length≤1000:=by
 unfold fy;split
 ·simp
 · split
   · cases hx:e.aD[i-1]? with
     |none=>simp
     |some a=>exact h.v a (aR hx)
   ·simp
theorem F8{e:Ex}{k:Int}{r:List Int}{y:Ex}(h:e.at (k::r)=some y):∃(m:Nat) (x:Ex),k=m∧m<e.ch.length∧e.ch[m]?=some x∧x.at r=some y:=by
 simp only[Ex.at]at h;split at h
 ·rename_i h1;obtain⟨m,rfl,hm⟩:=pF h1.1 h1.2;obtain⟨x,hx⟩:=aV hm;simp[hx]at h;exact⟨m,x,rfl,hm,hx,h⟩
 ·cases h
theorem F9{y:Ex}:∀{p:List Int} {e:Ex},e.Ok→e.at p=some y→(e.pN p).length≤p.length*1000
 |[],_,_,_=>by simp[Ex.pN]
 |k::r,e,h,ha=>by
   obtain⟨m,x,rfl,hm,hx,hy⟩:=F8 ha;have:=F9 (h.c x (aR hx)) hy;have:=pO h (i:=m);simp only[Ex.pN,Int.toNat_natCast,hx,List.length_append,List.length_cons];omega
noncomputable def BI(e:Ex)(p:List Int):List bt:=match e.at p with|some _=>dv (e.pN p)|none=>[]
theorem Qa{p:List Int}(hp:p.length<100000){y:Ex}:∀(n i:Nat),p.length-i=n→i≤p.length→∀(e:Ex) (X:Sh) (l:List bt),e.Ok→e.One→aL X→e.at (p.drop i)=some y→l.length≤i*1000→∃(X':Sh) (q:List AV),aL X' ∧
   cl AP g404L0 ⟨[(2,.az 2 0),(7,Co X l),(20,.pv (.au (p.map vI))),(21,.pv (vI p.length)),(22,.pv (vI i))],[(2,e.cl)],ze X l,Cp l⟩ =
     some (.exit 0,⟨[(2,.az 2 0),(7,Co X' ((e.pN (p.drop i)).foldl ni l)),(20,.pv (.au (p.map vI))),(21,.pv (vI p.length)),(22,.pv (vI p.length)),(23,.pv (.bool false))],[(2,q)],ze X' ((e.pN (p.drop i)).foldl ni l),Cp ((e.pN (p.drop i)).foldl ni l)⟩)
 |0,i,hn,hi,e,X,l,he,h1,hX,ha,hl=>by
   have:i=p.length:=by omega
   subst this;refine⟨X,e.cl,hX,?_⟩;have hnX:=hX.norm;have hn1:∀aI ts,a9 aI ts (X++[some (tx l)])=(X++[some (tx l)],aI,ts):=(hX.app (aL.one mz)).norm;rw[g404L0e];by_cases h0:l=[]
   ·subst h0;simp[g404B0,Ex.pN,Co,ze,Cp,hnX]
   ·simp only[List.drop_length,Ex.pN,List.foldl_nil,Co,ze,Cp,if_neg h0];generalize X++[some (tx l)]=S1 at *;simp[g404B0,hn1]
 |n+1,i,hn,hi,e,X,l,he,h1,hX,ha,hl=>by
   have hi:i<p.length:=(by omega);obtain⟨k,hk⟩:=aV hi;rw[bj hk]at ha⊢;obtain⟨m,x,rfl,hm,hx,hy⟩:=F8 ha;have hbl:=pO he (i:=m);have hep:∀v∈e.cl,∃p,v=AV.pv p:=by intro v hv;simp at hv;rcases hv with rfl|rfl|rfl|rfl|rfl|rfl|rfl|rfl|rfl|rfl|rfl<;>exact⟨_,rfl⟩
   obtain⟨X1,hX1,e1⟩:=Mu hep (i9:=m) (i22:=i) (p20:=.au (p.map vI)) (n21:=p.length) (V:=fy e m) (by omega) _ 0 rfl (by omega) X l hX (by omega)
   have hul:∀(V l:List bt),(V.foldl ni l).length≤l.length+V.length:=by
     intro V;induction V with
     |nil=>intro l;simp
     |cons t r ih=>
       intro l;have:=ih (ni l t);have hf:(l.filter fun x=>!decide (x=t)).length≤l.length:=List.length_filter_le _ _;have:(ni l t).length≤l.length+1:=by simp[ni,hf]
       simp only[List.foldl_cons,List.length_cons];omega
   have hl1:=hul (fy e m) l;obtain⟨X',q,hX',ih⟩:=Qa hp n (i+1) (by omega) (by omega) x X1 ((fy e m).foldl ni l) (he.c x (aR hx)) (h1.c x (aR hx)) hX1 hy (by omega);refine⟨X',q,hX',?_⟩;have c:=c414 he;have c2:=c411 hm h1.h he;simp only[Ex.pN,Int.toNat_natCast,hx,List.foldl_append];rw[List.drop_zero]at e1;generalize hL:(x.pN (p.drop (i+1))).foldl ni ((fy e m).foldl ni l)=r at ih⊢;generalize (fy e m).foldl ni l=l1 at e1 ih hl1
   have hnv:∀{X:Sh} {l:List bt},aL X→∀aI ts,a9 aI ts (ze X l)=(ze X l,aI,ts):=by
     intro X l hX aI ts;unfold ze;by_cases h0:l=[]
     ·rw[if_pos h0];exact hX.norm aI ts
     ·rw[if_neg h0];exact (hX.app (aL.one mz)).norm aI ts
   have hn1:=hnv hX (l:=l);have hn2:=hnv hX1 (l:=l1)
   have vcase:∀(X:Sh) (l:List bt),(Co X l=.own [] 0∧Cp l=[0])∨(∃b z k g,Co X l=.aP b z k g∧Cp l=[]):=by
     intro X l;unfold Co Cp;by_cases h0:l=[]
     ·left;simp[h0]
     ·right;exact⟨X.length,1,l.length,false,by simp[h0],by simp[h0]⟩
   rw[g404L0e]at ih⊢;rw[g404L1e]at e1;generalize e.ch=C at *;generalize fy e m=B at *;simp at c c2
   rcases vcase X l with⟨v1,t1⟩|⟨b1,z1,k1,f1,v1,t1⟩<;>rcases vcase X1 l1 with⟨v2,t2⟩|⟨b2,z2,k2,f2,v2,t2⟩<;>simp only[v1,t1,v2,t2]at e1 ih⊢<;>generalize ze X l=S0 at*<;> generalize ze X1 l1=S1 at*<;> generalize ze X' r=S2 at*<;> generalize Co X' r=V2 at*<;> generalize Cp r=T2 at*<;>
     simp[hn1,hn2]at e1 ih⊢ <;>
     simp (disch:=omega) [-getElem?_pos,g404B0,hk,hi,ah,c,c2,hx,hm,hn1,hn2,g404L1e,e1]<;>rw[g404L0e]<;>simp[hn2,ih]
theorem lz(t:bt):∀l:List bt,dv (l++[t])=(dv l).filter (fun x=>!decide (x=t))++[t]
 |[]=>by simp[dv]
 |x::r=>by
   simp only[List.cons_append,dv,List.mem_append,List.mem_singleton];by_cases e:x∈r
   ·simp[e,lz t r]
   · by_cases e2:x=t
     ·subst e2;simp[e,lz x r]
     ·simp[e,e2,lz t r]
theorem Js(l:List bt):l.foldl ni []=dv l:=by
 have:∀k,∀l:List bt,l.length=k→l.foldl ni []=dv l:=by
   intro k;induction k with
   |zero=>intro l h;have:=List.length_eq_zero_iff.1 h;subst this;simp[dv]
   |succ k ih=>
     intro l h;have hne:l≠[]:=by intro e;subst e;simp at h
     obtain⟨r,t,rfl⟩:∃r t,l=r++[t]:=⟨l.dropLast,l.getLast hne,(List.dropLast_concat_getLast hne).symm⟩;rw[List.foldl_append,ih r (by simpa using h),lz];rfl
 exact this _ l rfl
theorem Mv:∀r:List bt,eA (tx r)=some (r.map .str)
 |[]=>rfl
 |t::r=>by
   have ih:=Mv r;unfold tx at ih⊢;simp only[List.map_cons,eA,kM,ih]
theorem c404{e:Ex}(he:e.Ok)(h1:e.One){p:List Int}(hp:p.length<100000):(aC AP).p 404 [e.pv,.au (p.map vI)]=some [.au ((BI e p).map .str)]:=by
 have c:=c410 he (p:=p) (by unfold Sm;omega);rw[ae (af:=g404) rfl rfl (by decide)];unfold BI;cases hx:e.at p with
 |none=>
   rw[hx]at c;simp[atR,V7,bq]at c;simp[g404,c]
 |some y=>
   rw[hx]at c;simp[atR]at c;obtain⟨X',q,hX',h⟩:=Qa hp _ 0 rfl (by omega) e [] [] he h1 (by intro cs h;simp at h) hx (by simp);rw[List.drop_zero,Js]at h;generalize dv (e.pN p)=r at *;have hn:=hX'.norm;have hn1:∀aI ts,a9 aI ts (X'++[some (tx r)])=(X'++[some (tx r)],aI,ts):=(hX'.app (aL.one mz)).norm;have hfr:=Mv r;have hlen:=oD (l:=r);rw[g404L0e]at h;by_cases h0:r=[]
   ·subst h0;simp[Co,ze,Cp]at h;simp[g404,c,g404L0e,h]
   ·simp[Co,ze,Cp,h0]at h;generalize tx r=T at *;simp[g404,c,g404L0e,h,hfr,hlen,dP]
def p8(p:List Int):PV:=.au (p.map vI)
@[simp] theorem WA(p:List Int):p8 p=.au (p.map vI):=rfl
theorem O2:El p8 1 false:=⟨fun x=>by simp,fun x=>by simp⟩
@[simp] theorem Qb{l:List (List Int)}:bf 1 (l.map p8)=true:=O2.head l
def lW:Nat→List (List (List Int))→List (List Int)
 |_,[]=>[]
 |i,l::r=>l.map (fun p=>(i:Int)::p)++lW (i+1) r
def Ex.hl(e:Ex):List (List Int):=if e.kind=10 then [[]] else lW 0 (e.ch.attach.map fun x=>x.1.hl)
termination_by SizeOf.sizeOf e
decreasing_by exact Ex.lr x.2
theorem Ex.nM(e:Ex):e.hl=if e.kind=10 then [[]] else lW 0 (e.ch.map Ex.hl):=by
 rw[Ex.hl,List.map_attach_eq_pmap,List.pmap_eq_map]
theorem F_:∀{l:List (List (List Int))} {i:Nat},(lW i l).length=(l.map List.length).sum
 |[],_=>rfl
 |a::r,i=>by simp only[lW,List.length_append,List.length_map,List.map_cons,List.sum_cons,F_ (l:=r)]
theorem sM:∀{l:List (List (List Int))} {i:Nat} {p:List Int},p∈lW i l→∃(j:Nat) (c:List (List Int)) (q:List Int),l[j]?=some c∧q∈c∧p=((i+j:Nat):Int)::q
 |a::r,i,p,h=>by
   simp only[lW,List.mem_append,List.mem_map]at h;rcases h with⟨q,hq,rfl⟩|h
   ·exact⟨0,a,q,rfl,hq,rfl⟩
   ·obtain⟨j,c,q,h1,h2,h3⟩:=sM h;exact⟨j+1,c,q,by simpa using h1,h2,by rw[h3];congr 2;omega⟩
theorem qG(e:Ex):e.hl.length≤e.sz:=by
 refine Ex.recC (p:=fun e=>e.hl.length≤e.sz) ?_ e;intro e ih;rw[Ex.nM,Ex.kF];split
 ·simp
 · rw[F_,List.map_map]
   have:∀l:List Ex,(∀x∈l,x.hl.length≤x.sz)→(l.map (List.length ∘ Ex.hl)).sum≤(l.map Ex.sz).sum:=by
     intro l;induction l with
     |nil=>intro _;simp
     |cons a r ihr=>
       intro h;have h1:=h a (by simp);have h2:=ihr fun x hx=>h x (by simp[hx])
       simp only[List.map_cons,List.sum_cons,Function.comp_apply];omega
   have:=this e.ch ih;omega
theorem sN(e:Ex):∀p∈e.hl,p.length<e.sz∧∃x,e.at p=some x∧x.kind=10:=by
 refine Ex.recC (p:=fun e=>∀p∈e.hl,p.length<e.sz∧∃x,e.at p=some x∧x.kind=10) ?_ e;intro e ih p hp;rw[Ex.nM]at hp;split at hp
 ·rename_i hk;simp at hp;subst hp;exact⟨e.lx,e,rfl,hk⟩
 · obtain⟨j,c,q,h1,h2,rfl⟩:=sM hp;simp only[List.getElem?_map,Option.map_eq_some_iff]at h1;obtain⟨y,hy,rfl⟩:=h1;obtain⟨a,x,b,hk⟩:=ih y (aR hy) q h2;have hs:=Ex.oF (aR hy);have hj:=(List.getElem?_eq_some_iff.1 hy).1;refine⟨by simp only[List.length_cons];omega,x,?_,hk⟩;rw[Ex.at,if_pos (by omega)];have e1:((0+j:Nat):Int).toNat=j:=by omega
   rw[e1,hy];exact b
theorem Qc{ch:List Ex}{I:Nat}{hls:List (List Int)}(hL:hls.length≤1000000000)(hp:∀p∈hls,p.length≤1000000000):∀(n k:Nat),hls.length-k=n→k≤hls.length→∀acc:List (List Int),acc.length+n≤2000000000 →
   cl AP g543L1 ⟨[(3,.own (acc.map p8) 0),(4,.pv (vI I)),(14,.pv (.au (ch.map Ex.pv))),(15,.pv (vI ch.length)),(16,.pv (vI I)),(22,.pv (.au (hls.map p8))),(23,.pv (vI hls.length)),(24,.pv (vI k))],[],[],[acc.length]⟩ =
     some (.exit 2,⟨[(3,.own ((acc++(hls.drop k).map fun p=>(I:Int)::p).map p8) 0),(4,.pv (vI I)),(14,.pv (.au (ch.map Ex.pv))),(15,.pv (vI ch.length)),(16,.pv (vI I)),(22,.pv (.au (hls.map p8))),(23,.pv (vI hls.length)),(24,.pv (vI hls.length)),(25,.pv (.bool false))],[],[],[(acc++(hls.drop k).map fun p=>(I:Int)::p).length]⟩)
 |0,k,hn,hk,acc,ha=>by
   have:k=hls.length:=by omega
   subst this;rw[List.drop_length,List.map_nil,List.append_nil,g543L1e];simp[g543B1]
 |n+1,k,hn,hk,acc,ha=>by
   have hk:k<hls.length:=(by omega);obtain⟨p,hx⟩:=aV hk;have hpl:=hp p (aR hx);have ih:=Qc (ch:=ch) (I:=I) hL hp n (k+1) (by omega) (by omega) (acc++[(I:Int)::p]) (by simp;omega);have hb1:(1+p.length)*8≤140737488355328:=(by omega);have hb2:(acc.length+1)*24≤140737488355328:=(by omega);have hh:=oB.head p;rw[bj hx,List.map_cons];rw[g543L1e]at ih⊢;simp at ih hh;by_cases hz:p=[]
   ·subst hz;simp at ih;simp (disch:=omega) [-getElem?_pos,g543B1,hx,hk,hb1,hb2,ah];rw[g543L1e];simp[ih]
   ·simp (disch:=omega) [-getElem?_pos,g543B1,hx,hk,hb1,hb2,hh,hz,ah];rw[g543L1e];simp[ih]
theorem UD{ch:List Ex}{e:Ex}(hch:ch=e.ch)(hN:ch.length≤1000000)(hB:∀x∈ch,x.hl.length≤1000000000∧∀p∈x.hl,p.length≤1000000000)(ih:∀x∈ch,(aC AP).p 543 [x.pv]=some [.au (x.hl.map p8)]) :
   ∀(n i:Nat),ch.length-i=n→i≤ch.length→∀acc:List (List Int),acc.length+(lW i ((ch.drop i).map Ex.hl)).length≤1000000000 →
   cl AP g543L0 ⟨[(3,.own (acc.map p8) 0),(14,.pv (.au (ch.map Ex.pv))),(15,.pv (vI ch.length)),(16,.pv (vI i))],[],[],[acc.length]⟩ =
     some (.exit 0,⟨[(3,.own ((acc++lW i ((ch.drop i).map Ex.hl)).map p8) 0),(14,.pv (.au (ch.map Ex.pv))),(15,.pv (vI ch.length)),(16,.pv (vI ch.length)),(17,.pv (.bool false))],[],[],[(acc++lW i ((ch.drop i).map Ex.hl)).length]⟩)
 |0,i,hn,hi,acc,ha=>by
   have:i=ch.length:=by omega
   subst this;rw[List.drop_length];simp only[List.map_nil,lW,List.append_nil];rw[g543L0e];simp[g543B0]
 |n+1,i,hn,hi,acc,ha=>by
   have hi:i<ch.length:=(by omega);obtain⟨x,hx⟩:=aV hi;have k:=ih x (aR hx);obtain⟨hb1,hb2⟩:=hB x (aR hx);rw[bj hx,List.map_cons]at ha⊢;simp only[lW,List.length_append,List.length_map]at ha⊢;have e1:=Qc (ch:=ch) (I:=i) hb1 hb2 _ 0 rfl (by omega) acc (by omega);rw[List.drop_zero]at e1;have e2:=UD hch hN hB ih n (i+1) (by omega) (by omega) (acc++x.hl.map fun p=>(i:Int)::p) (by simp only[List.length_append,List.length_map];omega);generalize lW (i+1) ((ch.drop (i+1)).map Ex.hl)=R at *;generalize hH:x.hl=H at *;rw[g543L1e]at e1;rw[g543L0e]at e2⊢;simp at k e1 e2;simp (disch:=omega) [-getElem?_pos,g543B0,hx,hi,k,ah,g543L1e,e1];rw[g543L0e];simp[e2]
theorem bounds{e:Ex}(hs:e.sz≤100000000):∀x∈e.ch,x.hl.length≤1000000000∧∀p∈x.hl,p.length≤1000000000:=by
 intro x hx;have h1:=Ex.oF hx;have h2:=qG x;refine⟨by omega,fun p hp=>?_⟩;have:=(sN x p hp).1;omega
theorem c543(e:Ex):e.Ok→e.sz≤100000000→(aC AP).p 543 [e.pv]=some [.au (e.hl.map p8)]:=by
 refine Ex.recC (p:=fun e=>e.Ok→e.sz≤100000000→(aC AP).p 543 [e.pv]=some [.au (e.hl.map p8)]) ?_ e;intro e ih ho hs;have k:=c414 ho;have hl:=qG e;have hb:=bounds hs;have hN:e.ch.length≤1000000:=by rw[Ex.dQ];have:=ho.k;have:=ho.a;omega
 rw[ae (af:=g543) rfl rfl (by decide)];rw[Ex.nM]at hl⊢;by_cases hk:e.kind=10
 ·simp[g543,hk]
 ·rw[if_neg hk]at hl⊢;have e1:=UD (e:=e) rfl hN hb (fun x hx=>ih x hx (ho.c x hx) (by have:=Ex.oF hx;omega)) _ 0 rfl (by omega) [] (by simp only[List.drop_zero,List.length_nil];omega);rw[List.drop_zero,List.nil_append]at e1;generalize lW 0 (e.ch.map Ex.hl)=H at *;rw[g543L0e]at e1;simp at k e1;simp[g543,hk,k,g543L0e,e1]
theorem Qd{ch:List Ex}{I:Nat}{hls:List (List Int)}(hL:hls.length≤1000000000)(hp:∀p∈hls,p.length≤1000000000):∀(n k:Nat),hls.length-k=n→k≤hls.length→∀acc:List (List Int),acc.length+n≤2000000000 →
   cl AP g539L1 ⟨[(3,.own (acc.map p8) 0),(4,.pv (.au (ch.map Ex.pv))),(5,.pv (vI I)),(6,.pv (.au (hls.map p8))),(7,.pv (vI k))],[],[],[acc.length]⟩ =
     some (.exit 2,⟨[(3,.own ((acc++(hls.drop k).map fun p=>(I:Int)::p).map p8) 0),(4,.pv (.au (ch.map Ex.pv))),(5,.pv (vI I)),(6,.pv (.au (hls.map p8))),(7,.pv (vI hls.length)),(28,.pv (.bool false))],[],[],[(acc++(hls.drop k).map fun p=>(I:Int)::p).length]⟩)
 |0,k,hn,hk,acc,ha=>by
   have:k=hls.length:=by omega
   subst this;rw[List.drop_length,List.map_nil,List.append_nil,g539L1e];simp[g539B1]
 |n+1,k,hn,hk,acc,ha=>by
   have hk:k<hls.length:=(by omega);obtain⟨p,hx⟩:=aV hk;have hpl:=hp p (aR hx);have ih:=Qd (ch:=ch) (I:=I) hL hp n (k+1) (by omega) (by omega) (acc++[(I:Int)::p]) (by simp;omega);have hb1:(1+p.length)*8≤140737488355328:=(by omega);have hb2:(acc.length+1)*24≤140737488355328:=(by omega);have hh:=oB.head p;rw[bj hx,List.map_cons];rw[g539L1e]at ih⊢;simp at ih hh;by_cases hz:p=[]
   ·subst hz;simp at ih;simp (disch:=omega) [-getElem?_pos,g539B1,hx,hk,hb1,hb2,ah];rw[g539L1e];simp[ih]
   ·simp (disch:=omega) [-getElem?_pos,g539B1,hx,hk,hb1,hb2,hh,hz,ah];rw[g539L1e];simp[ih]
theorem UE{ch:List Ex}(hN:ch.length≤1000000)(hB:∀x∈ch,x.hl.length≤1000000000∧∀p∈x.hl,p.length≤1000000000)(ih:∀x∈ch,(aC AP).p 539 [x.pv]=some [.au (x.hl.map p8)]) :
   ∀(n i:Nat),ch.length-i=n→i≤ch.length→∀acc:List (List Int),acc.length+(lW i ((ch.drop i).map Ex.hl)).length≤1000000000 →
   cl AP g539L0 ⟨[(3,.own (acc.map p8) 0),(4,.pv (.au (ch.map Ex.pv))),(5,.pv (vI i))],[],[],[acc.length]⟩ =
     some (.exit 0,⟨[(3,.own ((acc++lW i ((ch.drop i).map Ex.hl)).map p8) 0),(4,.pv (.au (ch.map Ex.pv))),(5,.pv (vI ch.length)),(17,.pv (.bool false))],[],[],[(acc++lW i ((ch.drop i).map Ex.hl)).length]⟩)
 |0,i,hn,hi,acc,ha=>by
   have:i=ch.length:=by omega
   subst this;rw[List.drop_length];simp only[List.map_nil,lW,List.append_nil];rw[g539L0e];simp[g539B0]
 |n+1,i,hn,hi,acc,ha=>by
   have hi:i<ch.length:=(by omega);obtain⟨x,hx⟩:=aV hi;have k:=ih x (aR hx);obtain⟨hb1,hb2⟩:=hB x (aR hx);rw[bj hx,List.map_cons]at ha⊢;simp only[lW,List.length_append,List.length_map]at ha⊢;have e1:=Qd (ch:=ch) (I:=i) hb1 hb2 _ 0 rfl (by omega) acc (by omega);rw[List.drop_zero]at e1;have e2:=UE hN hB ih n (i+1) (by omega) (by omega) (acc++x.hl.map fun p=>(i:Int)::p) (by simp only[List.length_append,List.length_map];omega);generalize lW (i+1) ((ch.drop (i+1)).map Ex.hl)=R at *;generalize hH:x.hl=H at *;rw[g539L1e]at e1;rw[g539L0e]at e2⊢;simp at k e1 e2;simp (disch:=omega) [-getElem?_pos,g539B0,hx,hi,k,ah,g539L1e,e1];rw[g539L0e];simp[e2]
theorem c539(e:Ex):e.Ok→e.sz≤100000000→(aC AP).p 539 [e.pv]=some [.au (e.hl.map p8)]:=by
 refine Ex.recC (p:=fun e=>e.Ok→e.sz≤100000000→(aC AP).p 539 [e.pv]=some [.au (e.hl.map p8)]) ?_ e;intro e ih ho hs;have k:=c145 ho;have hl:=qG e;have hb:=bounds hs;have hN:e.ch.length≤1000000:=by rw[Ex.dQ];have:=ho.k;have:=ho.a;omega
 rw[ae (af:=g539) rfl rfl (by decide)];rw[Ex.nM]at hl⊢;by_cases hk:e.kind=10
 ·simp[g539,hk]
 ·rw[if_neg hk]at hl⊢;have e1:=UE hN hb (fun x hx=>ih x hx (ho.c x hx) (by have:=Ex.oF hx;omega)) _ 0 rfl (by omega) [] (by simp only[List.drop_zero,List.length_nil];omega);rw[List.drop_zero,List.nil_append]at e1;generalize lW 0 (e.ch.map Ex.hl)=H at *;rw[g539L0e]at e1;simp at k e1;simp[g539,hk,k,g539L0e,e1]
abbrev oG:List (List UInt8):=varNames
inductive fc (ds:List Dt):Nat→Ex→Prop
 |var {n:Nat} {s:List UInt8}:s∈oG→fc ds n ⟨1,0,s,0,[],[],bq⟩
 |int {n:Nat} {m:Int}:0≤m→m<4→fc ds n ⟨3,0,[],m,[],[],bq⟩
 |cZ {n:Nat} {d:Dt} {c:cR}:d∈ds→c∈d.cons→fc ds n ⟨2,0,c.name,0,[],[],bq⟩
 |gone {n:Nat}:fc ds n ⟨2,0,[71,111,110,101],0,[],[],bq⟩
 |hole {n:Nat}:fc ds n ⟨10,0,[],0,[],[],bq⟩
 |lam {n:Nat} {s:List UInt8} {a:Ex}:s∈oG→fc ds n a→fc ds (n+1) ⟨4,0,s,0,[a],[],bq⟩
 |app {n:Nat} {a b:Ex}:fc ds n a→fc ds n b→fc ds (n+1) ⟨5,0,[],0,[a,b],[],bq⟩
 |sq {n:Nat} {k:Int} {s:List UInt8} {a b:Ex}:k=6∨k=7→s∈oG→fc ds n a→fc ds n b→fc ds (n+1) ⟨k,0,s,0,[a,b],[],bq⟩
 |JU {n:Nat} {a:Ex} {t:Ty}:fc ds n a→gQ (·∈ds) [] 2 t→fc ds (n+1) ⟨9,0,[],0,[a],[],t⟩
 |held {n:Nat} {a:Ex}:fc ds n a→fc ds (n+1) ⟨11,0,[],0,[a],[],bq⟩
 |up {n:Nat} {a:Ex}:fc ds n a→fc ds (n+1) a
 |mD {n:Nat} {d:Dt} {a:Ex} {as:List Ar}:d∈ds→fc ds n a→as.length=d.cons.length→(∀x∈as,fc ds n x.body)→(∀x∈as,x.pos=0∧∀v∈x.vars,v∈oG) →
     (∀(i:Nat) (c:cR) (x:Ar),d.cons[i]?=some c→as[i]?=some x→x.cZ=c.name∧x.vars.length=c.fields.length)→fc ds (n+1) ⟨8,0,[],0,[a],as,bq⟩
def D8(d:Dt):Prop:=d.params.length≤8∧0<d.cons.length∧d.cons.length≤8∧∀c∈d.cons,c.fields.length≤8
theorem yQ:∀d∈bz,D8 d:=by
 intro d hd;simp[bz]at hd;rcases hd with rfl|rfl|rfl|rfl|rfl|rfl|rfl<;>simp[D8]
structure Xf(e:Ex)(C:List AV):Prop where
 len:C.length=11
 leaf:C.all aT=true
 dd:∀sh,ca sh C=some e.cells
 flat:bE.ei C=true
 gH:fM C=true
def gI(f:Bool)(l:List PV):AV:=if f then .dH l else .pv (.au l)
def dZ(fk fa fg:Bool)(e:Ex):List AV:=[.pv (vI e.kind),.pv (vI e.pos),.pv (.str e.name),.pv (vI e.num),gI fk (e.kids.map Ex.pv),gI fa (e.aD.map Ar.pv),.pv (vI e.ty.kind),.pv (.str e.ty.name),.pv (vI e.ty.id),.pv (vI e.ty.home),gI fg (e.ty.args.map Ty.pv)]
theorem dR(fk fa fg:Bool)(e:Ex):Xf e (dZ fk fa fg e):=by
 refine⟨rfl,?_,?_,?_,?_⟩
 ·cases fk<;>cases fa<;>cases fg<;>rfl
 ·intro sh;rw[Ex.bm];cases fk<;>cases fa<;>cases fg<;>simp[dZ,gI]
 ·cases fk<;>cases fa<;>cases fg<;>simp[dZ,gI]
 ·cases fk<;>cases fa<;>cases fg<;>simp[dZ,gI]
theorem gR{a b:List UInt8}(h:a.length+b.length≤9223372036854775807):bB (.bin .add) [.pv (.str a),.pv (.str b)]=some (.pv (.str (a++b))):=by rw[ef,if_pos h]
structure gG(AQ:Nat→Option aA):Prop where
 uR:AQ 248=some g248
 RQ:AQ 252=some g252
 WB:AQ 255=some g255
 WC:AQ 257=some g257
 WD:AQ 258=some g258
 WE:AQ 259=some g259
 WG:AQ 260=some g260
 WH:AQ 264=some g264
 WI:AQ 265=some g265
 WJ:AQ 269=some g269
def kG(b:Bool)(s:bt):bt:=if b then 40::(s++[41]) else s
theorem mE{b:Bool}{s:bt}:(kG b s).length≤s.length+2:=by cases b<;>simp[kG]
theorem skolem{α β:Type}[Inhabited β]{l:List α}{P:α→β→Prop}(h:∀x∈l,∃y,P x y):∃f:α→β,∀x∈l,P x (f x):=by
 classical
 refine⟨fun x=>if hx:x∈l then Classical.choose (h x hx) else default,fun x hx=>?_⟩;simp only[hx,dif_pos];exact Classical.choose_spec (h x hx)
section
variable {AQ:Nat→Option aA}
theorem c258(hQ:gG AQ){s:bt}{b:Bool}(h:s.length≤1000000000000000000):(aC AQ).p 258 [.str s,.bool b]=some [.str (kG b s)]:=by
 rw[ae (af:=g258) hQ.WD rfl (by decide)];cases b<;>simp (disch:=first|omega|(simp only[List.length_append,List.length_cons,List.length_nil];omega)) [-ef,gR,g258,kG]
def Ty.lL(t:Ty):Bool:=decide (t.kind=4) && (decide (t.name=[45,62]) && decide (t.args.length=2))
theorem c264(hQ:gG AQ){t:Ty}:(aC AQ).p 264 [t.pv]=some [.bool t.lL]:=by
 rw[ae (af:=g264) hQ.WH rfl (by decide)];by_cases h1:t.kind=4
 · by_cases h2:t.name=[45,62]
   ·have e:decide ((t.args.length:Int)=2)=decide (t.args.length=2):=(by simp;omega);simp[g264,Ty.lL,h1,h2,e];omega
   ·simp[g264,Ty.lL,h1,h2]
 ·simp[g264,Ty.lL,h1]
theorem c265(hQ:gG AQ){t:Ty}{s:bt}(h:(aC AQ).p 252 [t.pv]=some [.str s])(hs:s.length≤1000000000000000000) :
   (aC AQ).p 265 [t.pv]=some [.str (kG (decide (t.kind=4) && decide (t.args≠[])) s)]:=by
 have k:∀b,(aC AQ).p 258 [.str s,.bool b]=some [.str (kG b s)]:=fun b=>c258 hQ (b:=b) hs;rw[ae (af:=g265) hQ.WI rfl (by decide)];have kt:=k true
 have kf:=k false;clear k;simp[kG]at kt kf;by_cases h1:t.kind=4
 · by_cases h2:t.args=[]
   ·simp[h1,h2]at h;simp[g265,h,h1,h2,kf,kG]
   ·have h3:0<t.args.length:=List.length_pos_iff.2 h2;simp[h1]at h;simp[g265,h,h1,h2,h3,kt,kG]
 ·simp at h;simp[g265,h,h1,kf,kG]
theorem UF(hQ:gG AQ){args:List Ty}{f:Ty→bt}{M:Nat}(hA:args.length≤10000)(hM:M≤10000000000)(hf:∀x∈args,(aC AQ).p 265 [x.pv]=some [.str (f x)]∧(f x).length≤M) :
   ∀(n i:Nat),args.length-i=n→i≤args.length→∀acc:bt,acc.length≤100+i*(M+1) →
   cl AQ g252L0 ⟨[(3,.pv (.str acc)),(52,.pv (.au (args.map Ty.pv))),(53,.pv (vI args.length)),(54,.pv (vI i))],[],[],[]⟩ =
     some (.exit 1,⟨[(3,.pv (.str (acc++(args.drop i).flatMap fun x=>32::f x))),(52,.pv (.au (args.map Ty.pv))),(53,.pv (vI args.length)),(54,.pv (vI args.length)),(55,.pv (.bool false))],[],[],[]⟩)
 |0,i,hn,hi,acc,ha=>by
   have:i=args.length:=by omega
   subst this;rw[g252L0e];simp[g252B0]
 |n+1,i,hn,hi,acc,ha=>by
   have hi:i<args.length:=(by omega);obtain⟨x,hx⟩:=aV hi;obtain⟨c,hl⟩:=hf x (aR hx);have hmul:(i+1)*(M+1)=i*(M+1)+(M+1):=Nat.add_mul _ _ _ |>.trans (by omega);have hi10:i*(M+1)≤10000*(M+1):=Nat.mul_le_mul_right _ (by omega);have ih:=UF hQ hA hM hf n (i+1) (by omega) (by omega) (acc++32::f x) (by simp;omega);rw[g252L0e]at ih⊢;rw[bj hx];simp at c ih;simp (disch:=first|omega|(simp only[List.length_append,List.length_cons,List.length_nil];omega)) [-ef,gR,-getElem?_pos,g252B0,hi,hx,c,ah];rw[g252L0e];simp[ih]
end
theorem Mw{l:List Ty}{g:Ty→bt}(h:∀x∈l,(g x).length≤105*x.nodes.length):(l.flatMap g).length≤105*(l.flatMap Ty.nodes).length:=by
 induction l with
 |nil=>simp
 |cons a r ih=>
   have h1:=h a (by simp);have h2:=ih fun x hx=>h x (by simp[hx])
   simp only[List.flatMap_cons,List.length_append];omega
theorem Ty.wU(t:Ty):1≤t.nodes.length:=by rw[Ty.aM];simp
theorem wV{t x:Ty}(h:x∈t.args):x.nodes.length<t.nodes.length:=by
 have:=ly (f:=fun x:Ty=>x.nodes.length) h;rw[t.aM];simp only[List.length_cons,List.length_flatMap];omega
theorem EZ{t:Ty}:t.args.length<t.nodes.length:=by
 have:∀l:List Ty,l.length≤(l.flatMap Ty.nodes).length:=by
   intro l;induction l with
   |nil=>simp
   |cons a r ih=>
     have:=a.wU;simp only[List.flatMap_cons,List.length_append,List.length_cons];omega
 have:=this t.args;rw[t.aM];simp only[List.length_cons];omega
end Go.Ab.Lw
namespace Go.Ab.Lw
open Ev
def m6:List AV:=[.pv (vI 0),.pv (vI 0),.pv (.str []),.pv (vI 0),.own [] 0,.own [] 1,.pv (vI 0),.pv (.str []),.pv (vI 0),.pv (vI 0),.own [] 2]
def sO(d:Dt):List AV:=[.pv (vI d.pos),.pv (.str d.name),.pv (.au (d.params.map .str)),.pv (.au (d.cons.map cR.pv))]
def O3(a:Ex)(as:List Ar):List AV:=[.pv (vI 8),.pv (vI 0),.pv (.str []),.pv (vI 0),.own [a.pv] 3,.own (as.map Ar.pv) 4,.pv (vI 0),.pv (.str []),.pv (vI 0),.pv (vI 0),.own [] 5]
def UG(c:cR)(vs:List bt):List AV:=[.pv (vI 0),.pv (.str c.name),.own (vs.map .str) 6,.pv (vI 0),.pv (vI 0),.pv (.str []),.pv (vI 0),.own [] 7,.own [] 8,.pv (vI 0),.pv (.str []),.pv (vI 0),.pv (vI 0),.own [] 9]
def E_(ds:List Dt)(dep:Nat)(d:Dt)(as:List Ar):Prop:=
 (∀x∈as,fc ds dep x.body)∧(∀x∈as,x.pos=0∧∀v∈x.vars,v∈oG)∧(∀(i:Nat) (c:cR) (x:Ar),d.cons[i]?=some c→as[i]?=some x→x.cZ=c.name∧x.vars.length=c.fields.length)
def Ex.gS(e:Ex):Bool:=decide (e.kind=1) || (decide (e.kind=2) || (decide (e.kind=3) || (decide (e.kind=10) || (decide (e.kind=9) || decide (e.kind=11)))))
section
variable {AQ:Nat→Option aA}
theorem c255(hQ:gG AQ){n:Int}(h0:0≤n)(h4:n<4):(aC AQ).p 255 [vI n]=some [.str (Lib.decDigits n.toNat)]:=by
 rw[FH hQ.WB rfl];have h1:-9223372036854775808≤n:=by omega
 have h2:n≤9223372036854775807:=by omega
 have h3:¬n<0:=by omega
 simp[sK,Lib.itoa,h1,h2,h3]
theorem c259(hQ:gG AQ){e:Ex}:(aC AQ).p 259 [e.pv]=some [.bool e.gS]:=by
 rw[ae (af:=g259) hQ.WE rfl (by decide)];by_cases h1:e.kind=1
 ·simp[g259,Ex.gS,h1]
 · by_cases h2:e.kind=2
   ·simp[g259,Ex.gS,h2]
   · by_cases h3:e.kind=3
     ·simp[g259,Ex.gS,h3]
     · by_cases h4:e.kind=10
       ·simp[g259,Ex.gS,h4]
       · by_cases h5:e.kind=9
         ·simp[g259,Ex.gS,h5]
         · by_cases h6:e.kind=11
           ·simp[g259,Ex.gS,h6]
           ·simp[g259,Ex.gS,h1,h2,h3,h4,h5,h6]
theorem c257(hQ:gG AQ){e:Ex}{i:Nat}{x:Ex}(hx:e.kids[i]?=some x){s:bt}(h:(aC AQ).p 248 [x.pv]=some [.str s]) :
   (aC AQ).i 257 [.pv (vI i),.aW 0 0] [some e.cl] []=some ([.pv (.str s)],[some e.cl],[]):=by
 have hi:=(List.getElem?_eq_some_iff.1 hx).1;rw[aE (af:=g257) hQ.WC (by simp[g257])];simp at h;simp[-getElem?_pos,g257,hx,h,hi]
theorem c269(hQ:gG AQ){xs:List bt}{sep:bt}(h1:xs.length≤1000000000)(h2:(Lib.join xs sep).length≤140737488355328):(aC AQ).p 269 [.au (xs.map .str),.str sep]=some [.str (Lib.join xs sep)]:=by
 rw[FH hQ.WJ rfl];simp only[yD,EO];rw[if_pos ⟨h1,h2⟩]
def jI(f:Ar→bt)(a:Ar):bt:=Lib.join (a.cZ::a.vars) [32]++[46,32]++f a
def oP(T:List bt):List AV:=T.map fun s=>.pv (.str s)
theorem F'{T:List bt}:(oP T).length=T.length:=by simp[oP]
theorem O4{T:List bt}{i:Nat}{s:bt}(hi:i<T.length):aQ (oP T) i [.pv (.str s)]=oP (T.set i s):=by
 unfold oP;rw[List.map_set,List.set_eq_take_append_cons_drop,if_pos (by simpa using hi)];simp[aQ]
theorem O5{T:List bt}:((eA (oP T)).bind (dP 1 false T.length)).map PV.au=some (.au (T.map .str)):=by
 have:eA (oP T)=some (T.map .str):=by
   induction T with
   |nil=>rfl
   |cons x r ih=>simp only[oP,List.map_cons,eA,kM]at ih⊢;rw[ih]
 rw[this];simp[dP]
theorem uS{T:List bt}:∀v∈oP T,∃p,v=AV.pv p:=by
 intro v hv;simp only[oP,List.mem_map]at hv;obtain⟨s,_,rfl⟩:=hv;exact⟨_,rfl⟩
theorem UH(hQ:gG AQ){aD:List Ar}{f:Ar→bt}{M:Nat}(hA:aD.length≤10)(hM:M≤1000000000000000)(hf:∀x∈aD,(aC AQ).p 248 [x.body.pv]=some [.str (f x)]∧(f x).length≤M∧x.vars.length≤10∧(Lib.join (x.cZ::x.vars) [32]).length≤10000) :
   ∀(n i:Nat),aD.length-i=n→i≤aD.length→∀T:List bt,T.length=aD.length →
   cl AQ g260L0 ⟨[(3,.aP 0 1 aD.length false),(9,.pv (.au (aD.map Ar.pv))),(10,.pv (vI aD.length)),(11,.pv (vI i))],[],[some (oP T)],[]⟩ =
     some (.exit 0,⟨[(3,.aP 0 1 aD.length false),(9,.pv (.au (aD.map Ar.pv))),(10,.pv (vI aD.length)),(11,.pv (vI aD.length)),(12,.pv (.bool false))],[],[some (oP (T.take i++(aD.drop i).map (jI f)))],[]⟩)
 |0,i,hn,hi,T,hT=>by
   have:i=aD.length:=by omega
   subst this;rw[List.take_of_length_le (by omega),List.drop_length];have hq:∀aI ts,a9 aI ts [some (oP T)]=([some (oP T)],aI,ts):=(aL.one uS).norm;simp only[List.map_nil,List.append_nil];generalize oP T=X at *;rw[g260L0e];simp[g260B0,hq]
 |n+1,i,hn,hi,T,hT=>by
   have hi:i<aD.length:=(by omega);obtain⟨x,hx⟩:=aV hi;obtain⟨cb,lb,lv,lj⟩:=hf x (aR hx);have cj:=c269 hQ (xs:=x.cZ::x.vars) (sep:=[32]) (by simp;omega) (by omega);have ih:=UH hQ hA hM hf n (i+1) (by omega) (by omega) (T.set i (jI f x)) (by simpa using hT)
   have e1:(T.set i (jI f x)).take (i+1)++(aD.drop (i+1)).map (jI f)=T.take i++(aD.drop i).map (jI f):=by
     rw[List.set_eq_take_append_cons_drop,if_pos (by omega),bj hx,List.take_append,List.take_of_length_le (by simp;omega)];have:i+1-(T.take i).length=1:=by simp;omega
     rw[this];simp
   rw[e1]at ih;have hset:=O4 (T:=T) (i:=i) (s:=jI f x) (by omega);have hq:∀aI ts,a9 aI ts [some (oP T)]=([some (oP T)],aI,ts):=(aL.one uS).norm;have hq1:∀aI ts,a9 aI ts [some (oP (T.set i (jI f x)))]=([some (oP (T.set i (jI f x)))],aI,ts):=(aL.one uS).norm;have hB:bV (oP T)=false:=bI uS;have hlen:(oP T).length=aD.length:=by rw[F',hT]
   have hb:(x.vars.length+1)*16≤140737488355328:=(by omega);have hb2:(1+x.vars.length)*16≤140737488355328:=(by omega);clear e1;generalize oP (T.set i (jI f x))=X1 at *;generalize oP T=X at *;generalize oP (T.take i++(aD.drop i).map (jI f))=X2 at *;unfold jI at hset;generalize Lib.join (x.cZ::x.vars) [32]=J at *;rw[g260L0e]at ih⊢;simp at cb ih cj;simp at hset;have hle:i+1≤aD.length:=(by omega);have hqL:∀aI ts,bh aI ts X1=(X1,aI,ts):=fun aI ts=>by have:=hq1 aI ts;simp[a9]at this;exact Prod.ext this.1 (Prod.ext this.2.1 this.2.2)
   try simp only[hqL]at ih
   by_cases hv:x.vars=[]
   ·simp[hv]at cj;simp (disch:=first|omega|(simp only[List.length_append,List.length_cons,List.length_nil];omega)) [-ef,gR,-getElem?_pos,g260B0,hq,hi,hx,cb,cj,hv,hB,hlen,hle,hset,ah];rw[g260L0e];simp[hqL,ih]
   ·simp (disch:=first|omega|(simp only[List.length_append,List.length_cons,List.length_nil];omega)) [-ef,gR,-getElem?_pos,g260B0,hq,hi,hx,cb,cj,hv,hb,hb2,hB,hlen,hle,hset,ah];rw[g260L0e];simp[hqL,ih]
theorem c260(hQ:gG AQ){aD:List Ar}{f:Ar→bt}{M:Nat}(hA:aD.length≤10)(hM:M≤1000000000000000)(hf:∀x∈aD,(aC AQ).p 248 [x.body.pv]=some [.str (f x)]∧(f x).length≤M∧x.vars.length≤10∧(Lib.join (x.cZ::x.vars) [32]).length≤10000)
   (hj:(Lib.join (aD.map (jI f)) [32,124,32]).length≤140737488355328):(aC AQ).p 260 [.au (aD.map Ar.pv)]=some [.str (Lib.join (aD.map (jI f)) [32,124,32])]:=by
 have h:=UH hQ hA hM hf _ 0 rfl (by omega) (List.replicate aD.length []) (by simp);have c:=c269 hQ (xs:=aD.map (jI f)) (sep:=[32,124,32]) (by simp;omega) hj;have hfr:=O5 (T:=aD.map (jI f));have hlen:=F' (T:=aD.map (jI f))
 have hrep:(List.replicate aD.length [AV.pv (PV.str [])]).flatten=oP (List.replicate aD.length []):=by
   simp[oP]
 have hb:(aD.length:Int)*16≤140737488355328:=by omega
 have h9:(aD.length:Int)≤9223372036854775807:=by omega
 rw[List.drop_zero,List.take_zero,List.nil_append]at h;rw[List.length_map]at hfr hlen;have hq:∀aI ts,a9 aI ts [some (oP (List.replicate aD.length []))]=([some (oP (List.replicate aD.length []))],aI,ts):=(aL.one uS).norm;generalize Lib.join (aD.map (jI f)) [32,124,32]=J at *;generalize aD.map (jI f)=Y at *;generalize oP Y=Z at *;generalize oP (List.replicate aD.length [])=X at *;rw[ae (af:=g260) hQ.WG rfl (by decide)];rw[g260L0e]at h;simp[hq]at h;simp at hfr c hrep;simp[-getElem?_pos,g260,hb,h9,hrep,g260L0e,hq,h,hlen,hfr,c]
end
end Go.Ab.Lw
namespace Go.Ab.Lw
open Ev
theorem join_le{l:List bt}{sep:bt}{M:Nat}(h:∀x∈l,x.length≤M):(Lib.join l sep).length≤l.length*(M+sep.length):=by
 cases l with
 |nil=>simp[Lib.join_nil]
 |cons x r=>
   rw[Lib.join_cons];have h1:=h x (by simp)
   have:∀r:List bt,(∀y∈r,y.length≤M)→(Lib.joinTail sep r).length≤r.length*(M+sep.length):=by
     intro r;induction r with
     |nil=>intro _;simp[Lib.joinTail]
     |cons y r ih=>
       intro hl;have a1:=ih fun z hz=>hl z (by simp[hz])
       have a2:=hl y (by simp);simp only[Lib.joinTail,List.map_cons,List.flatten_cons,List.length_append,List.length_cons,Nat.add_mul]at a1⊢;omega
   have a:=this r fun y hy=>h y (by simp[hy]);simp only[List.length_append,List.length_cons,Nat.add_mul]at a⊢;omega
theorem Mx{α:Type}{l:List α}{f:α→bt}{sep:bt}{g:α→Nat}(h:∀x∈l,(f x).length+sep.length≤g x):(Lib.join (l.map f) sep).length≤(l.map g).sum:=by
 have tail:∀r:List α,(∀x∈r,(f x).length+sep.length≤g x)→(Lib.joinTail sep (r.map f)).length≤(r.map g).sum:=by
   intro r;induction r with
   |nil=>intro _;simp[Lib.joinTail]
   |cons y r ih=>
     intro hl;have a1:=ih fun z hz=>hl z (by simp[hz])
     have a2:=hl y (by simp);simp only[Lib.joinTail,List.map_cons,List.flatten_cons,List.length_append,List.sum_cons]at a1⊢;omega
 cases l with
 |nil=>simp[Lib.join_nil]
 |cons x r=>
   rw[List.map_cons,Lib.join_cons];have h1:=h x (by simp);have a:=tail r fun y hy=>h y (by simp[hy])
   simp only[List.length_append,List.map_cons,List.sum_cons]at a⊢;omega
theorem qH{e a:Ex}(h:e.kids=[a]):a.sz+1≤e.sz:=by
 rw[e.kF,Ex.ch,h];simp;omega
theorem qI{e a b:Ex}(h:e.kids=[a,b]):a.sz+b.sz+1≤e.sz:=by
 rw[e.kF,Ex.ch,h];simp;omega
def kg:List Ar→Nat
 |[]=>0
 |x::r=>x.body.sz+kg r
theorem oH:∀{l:List Ar} {x:Ar},x∈l→x.body.sz≤kg l
 |y::r,x,h=>by
   simp only[kg];rcases List.mem_cons.1 h with rfl|h
   ·omega
   ·have:=oH h;omega
theorem Ga{e a:Ex}(h:e.kids=[a]):a.sz+kg e.aD+1=e.sz:=by
 have:∀l:List Ar,((l.map dt.body).map Ex.sz).sum=kg l:=by
   intro l;induction l with
   |nil=>rfl
   |cons x r ih=>simp only[List.map_cons,List.sum_cons,kg,ih]
 rw[e.kF,Ex.ch,h,List.map_append,List.sum_append,this];simp only[List.map_cons,List.map_nil,List.sum_cons,List.sum_nil];omega
structure Sl where
 bd:Bool
 ty:Ty
 home:Int
 base:Bool
def Sl.pv(x:Sl):PV:=.agg [.bool x.bd,vI x.ty.kind,.str x.ty.name,vI x.ty.id,vI x.ty.home,.au (x.ty.args.map Ty.pv),vI x.home,.bool x.base]
@[simp] theorem Sl.ml(x:Sl):x.pv=.agg [.bool x.bd,.int .i64 x.ty.kind,.str x.ty.name,.int .i64 x.ty.id,.int .i64 x.ty.home,.au (x.ty.args.map Ty.pv),.int .i64 x.home,.bool x.base]:=rfl
structure Ch where
 id:Int
 aI:Sl
 nw:Bool
def Ch.pv(x:Ch):PV:=.agg [vI x.id,.bool x.aI.bd,vI x.aI.ty.kind,.str x.aI.ty.name,vI x.aI.ty.id,vI x.aI.ty.home,.au (x.aI.ty.args.map Ty.pv),vI x.aI.home,.bool x.aI.base,.bool x.nw]
@[simp] theorem Ch.ml(x:Ch):x.pv=.agg [.int .i64 x.id,.bool x.aI.bd,.int .i64 x.aI.ty.kind,.str x.aI.ty.name,.int .i64 x.aI.ty.id,.int .i64 x.aI.ty.home,.au (x.aI.ty.args.map Ty.pv),.int .i64 x.aI.home,.bool x.aI.base,.bool x.nw]:=rfl
structure dO where
 sl:List Sl
 tr:List Ch
def dO.pv(s:dO):PV:=.agg [.au (s.sl.map Sl.pv),.au (s.tr.map Ch.pv)]
@[simp] theorem dO.ml(s:dO):s.pv=.agg [.au (s.sl.map Sl.pv),.au (s.tr.map Ch.pv)]:=rfl
structure dO.Ok(s:dO)(n m:Nat):Prop where
 sl:s.sl.length≤n
 tr:s.tr.length≤m
 ty:∀x∈s.sl,x.ty.Ok
theorem Qe:El Sl.pv 8 true:=⟨fun _=>rfl,fun _=>rfl⟩
theorem My:El Ch.pv 10 true:=⟨fun _=>rfl,fun _=>rfl⟩
def iL(s:List Sl)(t:Ty):Option Sl:=if t.kind=1∧0≤t.id then (match s[t.id.toNat]? with|some x=>if x.bd then some x else none|none=>none) else none
theorem gA{s:List Sl}{t:Ty}{x:Sl}(h:iL s t=some x):t.kind=1∧∃i:Nat,t.id=i∧s[i]?=some x∧x.bd=true:=by
 unfold iL at h;split at h
 · rename_i q;refine⟨q.1,t.id.toNat,by omega,?_⟩;split at h
   · rename_i y hy;split at h
     ·rename_i hb;cases h;exact⟨hy,hb⟩
     ·cases h
   ·cases h
 ·cases h
theorem c392{s:dO}{t:Ty}:(aC AP).p 392 [s.pv,t.pv]=some [.bool (iL s.sl t).isSome]:=by
 rw[ae (af:=g392) rfl rfl (by decide)];unfold iL;by_cases k:t.kind=1
 · by_cases h0:0≤t.id
   · obtain⟨i,hi⟩:∃i:Nat,t.id=i:=⟨t.id.toNat,by omega⟩;by_cases hl:i<s.sl.length
     ·obtain⟨x,hx⟩:=aV hl;simp (disch:=omega) [-getElem?_pos,g392,k,hi,hl,hx];cases x.bd<;>rfl
     ·have hx:s.sl[i]?=none:=(by simp;omega);simp (disch:=omega) [-getElem?_pos,g392,k,hi,hl,hx]
   ·simp (disch:=omega) [g392,k,h0]
 ·simp (disch:=omega) [g392,k]
def wk(s:List Sl):Nat→Ty→Ty
 |0,t=>t
 |n+1,t=>match iL s t with|some x=>wk s n x.ty|none=>t
theorem mF{s:List Sl}(hs:∀x∈s,x.ty.Ok):∀{n:Nat} {t:Ty},t.Ok→(wk s n t).Ok
 |0,t,h=>h
 |n+1,t,h=>by
   unfold wk;split
   ·rename_i x hx;obtain⟨_,i,_,hi,_⟩:=gA hx;exact mF hs (hs x (aR hi))
   ·exact h
def tC(t:Ty):List AV:=[.pv (vI t.kind),.pv (.str t.name),.pv (vI t.id),.pv (vI t.home),.pv (.au (t.args.map Ty.pv))]
def sC(s:dO):List AV:=[.pv (.au (s.sl.map Sl.pv)),.pv (.au (s.tr.map Ch.pv))]
def zC(k:Nat):List AV:=[.pv (vI 0),.pv (.str []),.pv (vI 0),.pv (vI 0),.own [] k]
theorem UI{s:dO}(hs:Sm s.sl):∀(n i:Nat),s.sl.length+1-i=n→i≤s.sl.length+1→∀t:Ty,∃(i':Nat),
   cl AP g386L0 ⟨[(2,.az 2 0),(3,.az 3 0),(4,.az 4 0),(5,.pv (vI i))],[(2,sC s),(3,tC t),(4,zC 0)],[],[0]⟩ =
     some (.exit 0,⟨[(2,.az 2 0),(3,.az 3 0),(4,.az 4 0),(5,.pv (vI i')),(15,.pv (.bool false))],[(2,sC s),(3,tC (wk s.sl n t)),(4,zC 0)],[],[0]⟩)
 |0,i,hn,hi,t=>by
   refine⟨i,?_⟩;have h1:¬(i:Int)≤s.sl.length:=by omega
   rw[g386L0e];simp[g386B0,sC,tC,zC,wk,h1]
 |n+1,i,hn,hi,t=>by
   have h1:(i:Int)≤s.sl.length:=(by omega);have k:=c392 (s:=s) (t:=t);unfold Sm at hs;rw[g386L0e];cases hb:iL s.sl t with
   |none=>
     refine⟨i,?_⟩;rw[hb]at k;simp at k;simp[g386B0,sC,tC,zC,wk,h1,hb,k]
   |some x=>
     obtain⟨_,j,hj,hx,_⟩:=gA hb;obtain⟨i',e⟩:=UI hs n (i+1) (by omega) (by omega) x.ty;refine⟨i',?_⟩;rw[hb]at k;have hl:j<s.sl.length:=by obtain⟨h,_⟩:=List.getElem?_eq_some_iff.1 hx;exact h
     rw[g386L0e]at e;simp[hj]at k;simp[sC,tC,zC]at e;simp (disch:=omega) [-getElem?_pos,g386B0,sC,tC,zC,wk,h1,hb,k,hj,hx,hl,ah];rw[g386L0e];simp[e]
theorem c386{s:dO}(hs:Sm s.sl){t:Ty}:(aC AP).p 386 [s.pv,t.pv]=some [(wk s.sl (s.sl.length+1) t).pv]:=by
 obtain⟨i',h⟩:=UI hs _ 0 rfl (by omega) t;rw[ae (af:=g386) rfl rfl (by decide)];rw[g386L0e]at h;simp[sC,tC,zC]at h;simp[g386,g386L0e,h]
def lA(s:List Sl)(t:Ty):Ty:=wk s (s.length+1) t
inductive Tr (s:List Sl):Ty→Nat→Prop
 |mk {t:Ty} (ns:List Nat):ns.length=(lA s t).args.length→(∀(i:Nat) a n,(lA s t).args[i]?=some a→ns[i]?=some n→Tr s a n)→Tr s t (ns.sum+1)
def NF(s:List Sl)(l:List Ty)(ns:List Nat):Prop:=ns.length=l.length∧∀(i:Nat) a n,l[i]?=some a→ns[i]?=some n→Tr s a n
theorem NF.nil{s:List Sl}:NF s [] []:=⟨rfl,by intro i a n h;simp at h⟩
theorem NF.snoc{s:List Sl}{l:List Ty}{ns:List Nat}(h:NF s l ns){a:Ty}{n:Nat}(ha:Tr s a n):NF s (l++[a]) (ns++[n]):=by
 refine⟨by simp[h.1],?_⟩;intro i b m hb hm;have hl:=h.1;by_cases hi:i<l.length
 ·rw[List.getElem?_append_left hi]at hb;rw[List.getElem?_append_left (by omega)]at hm;exact h.2 i b m hb hm
 · rw[List.getElem?_append_right (by omega)]at hb;rw[List.getElem?_append_right (by omega),hl]at hm;by_cases e:i-l.length=0
   ·rw[e]at hb hm;simp at hb hm;rw[←hb,←hm];exact ha
   ·have h1:1≤i-l.length:=(by omega);have:([a]:List Ty)[i-l.length]?=none:=(by simp;omega);rw[this]at hb;cases hb
theorem Tr.inv{s:List Sl}{t:Ty}{r:Nat}(h:Tr s t r):∃ns,NF s (lA s t).args ns∧r=ns.sum+1:=by
 cases h with
 |mk ns h1 h2=>exact⟨ns,⟨h1,h2⟩,rfl⟩
theorem yR:∀{ns:List Nat} {i n:Nat},ns[i]?=some n→n≤ns.sum
 |a::r,0,n,h=>by simp at h;subst h;simp
 |a::r,i+1,n,h=>by simp at h;have:=yR h;simp;omega
theorem UJ{s:dO}(hs:Sm s.sl)(hO:∀x∈s.sl,x.ty.Ok){m:Nat}(hm:m<1000000)(IH:∀m':Nat,m'<m→∀t,t.Ok→∃r:Nat,(aC AP).p 371 [s.pv,t.pv,vI m']=some [vI r]∧1≤r∧r≤m'+1∧(r≤m'→Tr s.sl t r))
   {x:Ty} (hx:x.Ok):∀(k i n:Nat),x.args.length-i=k→i≤x.args.length→1≤n→n≤m+1→(n≤m→∃ns,NF s.sl (x.args.take i) ns∧n=ns.sum+1)→∃i' n':Nat,
   cl AP g371L0 ⟨[(2,.pv (vI m)),(3,.az 3 0),(4,.az 4 0),(7,.pv (vI n)),(8,.pv (vI i))],[(3,sC s),(4,tC x)],[],[]⟩ =
     some (.exit 0,⟨[(2,.pv (vI m)),(3,.az 3 0),(4,.az 4 0),(7,.pv (vI n')),(8,.pv (vI i')),(21,.pv (.bool false))],[(3,sC s),(4,tC x)],[],[]⟩)∧1≤n'∧n'≤m+1∧(n'≤m→∃ns,NF s.sl x.args ns∧n'=ns.sum+1)
 |0,i,n,hk,hi,h1,h2,h3=>by
   have:i=x.args.length:=by omega
   subst this;refine⟨x.args.length,n,?_,h1,h2,by simpa using h3⟩;rw[g371L0e];simp[g371B0,sC,tC]
 |k+1,i,n,hk,hi,h1,h2,h3=>by
   have hi:i<x.args.length:=(by omega);obtain⟨a,ha⟩:=aV hi;have hsm:=hx.sm;unfold Sm at hsm;by_cases hn:n≤m
   · have g0:m-n<m:=by clear h3;omega
     obtain⟨r,e,r1,r2,r3⟩:=IH (m-n) g0 a (hx.gw a (aR ha));have hsub:((m:Int)-n)=((m-n:Nat):Int):=by clear h3 r3;omega
     have g5:n+r≤m→∃ns,NF s.sl (x.args.take (i+1)) ns∧n+r=ns.sum+1:=by
       intro h;obtain⟨ns,q,e2⟩:=h3 hn;refine⟨ns++[r],?_,by rw[List.sum_append,e2];simp;omega⟩;rw[List.take_add_one,ha];have hr:r≤m-n:=by clear h3;omega
       exact q.snoc (r3 hr)
     clear h3;have g1:x.args.length-(i+1)=k:=by clear g5 r3;omega
     have g2:1≤n+r:=by clear g5 r3;omega
     have g3:n+r≤m+1:=by clear g5 r3;omega
     obtain⟨i',n',e',q1,q2,q3⟩:=UJ hs hO hm IH hx k (i+1) (n+r) g1 hi g2 g3 g5;refine⟨i',n',?_,q1,q2,q3⟩;have hnm:(n:Int)≤m:=by omega
     rw[g371L0e]at e' ⊢;simp at e;simp[sC,tC]at e';simp (disch:=omega) [-getElem?_pos,g371B0,sC,tC,hi,ha,hnm,ah,hsub,e];rw[g371L0e];simp[e']
   · refine⟨i,n,?_,h1,h2,fun h=>absurd h hn⟩;clear h3;have hnm:¬(n:Int)≤m:=by omega
     rw[g371L0e];simp (disch:=omega) [-getElem?_pos,g371B0,sC,tC,hi,hnm]
theorem c371{s:dO}(hs:Sm s.sl)(hO:∀x∈s.sl,x.ty.Ok)(m:Nat)(hm:m<1000000):∀t:Ty,t.Ok→∃r:Nat,(aC AP).p 371 [s.pv,t.pv,vI m]=some [vI r]∧1≤r∧r≤m+1∧(r≤m→Tr s.sl t r):=by
 induction m using Nat.strongRecOn with
 |ind m ih=>
   intro t ht;have k:=c386 hs (t:=t);have hw:(wk s.sl (s.sl.length+1) t).Ok:=mF hO ht;obtain⟨i',n',e,q1,q2,q3⟩:=UJ hs hO hm (fun m' h t ht=>ih m' h (by omega) t ht) hw _ 0 1 rfl (by omega) (by omega) (by omega) (fun _=>⟨[],by simpa using NF.nil,rfl⟩);refine⟨min n' (m+1),?_,by clear q3;omega,by clear q3;omega,?_⟩
   · rw[ae (af:=g371) rfl rfl (by decide)];rw[g371L0e]at e;have hmin:min (n':Int) ((m:Int)+1)=((min n' (m+1):Nat):Int):=by omega
     generalize wk s.sl (s.sl.length+1) t=x at *;simp at k;simp[sC,tC]at e;simp (disch:=omega) [g371,k,g371L0e,e,ah,hmin];omega
   · intro h;have hq:n'≤m:=by clear q3;omega
     obtain⟨ns,a,b⟩:=q3 hq;have:min n' (m+1)=ns.sum+1:=by omega
     rw[this];exact .mk ns a.1 a.2
def uC(x:Ty)(acc:List Ty)(k:Nat):List AV:=[.pv (vI x.kind),.pv (.str x.name),.pv (vI x.id),.pv (vI x.home),.own (acc.map Ty.pv) k]
theorem UK{s:dO}{x:Ty}(hx:x.Ok){ns:List Nat}(hns:ns.length=x.args.length)(IH:∀(i:Nat) a n,x.args[i]?=some a→ns[i]?=some n→∃u:Ty,(aC AP).p 373 [s.pv,a.pv]=some [u.pv]∧u.Ok∧u.nodes.length=n):∀(k i:Nat),x.args.length-i=k→i≤x.args.length→∀acc:List Ty,acc.length=i→(∀u∈acc,u.Ok)→(acc.flatMap Ty.nodes).length=(ns.take i).sum→∃us:List Ty,
   cl AP g373L0 ⟨[(2,.az 2 0),(3,.az 3 0),(4,.az 4 0),(5,.az 5 0),(6,.pv (vI i))],[(2,sC s),(3,tC x),(4,zC 0),(5,uC x acc 1)],[],[0,acc.length]⟩ =
     some (.exit 0,⟨[(2,.az 2 0),(3,.az 3 0),(4,.az 4 0),(5,.az 5 0),(6,.pv (vI x.args.length)),(16,.pv (.bool false))],[(2,sC s),(3,tC x),(4,zC 0),(5,uC x us 1)],[],[0,us.length]⟩)∧us.length=x.args.length∧(∀u∈us,u.Ok)∧(us.flatMap Ty.nodes).length=ns.sum
 |0,i,hk,hi,acc,ha,hu,hc=>by
   have:i=x.args.length:=by omega
   subst this;refine⟨acc,?_,ha,hu,by rw[hc,←hns,List.take_length]⟩;rw[g373L0e];simp[g373B0,sC,tC,zC,uC]
 |k+1,i,hk,hi,acc,ha,hu,hc=>by
   have hi:i<x.args.length:=(by omega);obtain⟨a,hax⟩:=aV hi;obtain⟨n,hn⟩:=aV (l:=ns) (i:=i) (by omega);have hsm:=hx.sm;unfold Sm at hsm;obtain⟨u,e,hO,hnn⟩:=IH i a n hax hn
   obtain⟨us,e',h1,h2,h3⟩:=UK hx hns IH k (i+1) (by omega) (by omega) (acc++[u]) (by simp;omega) (by
     intro y hy;simp at hy;rcases hy with hy|rfl
     ·exact hu y hy
     ·exact hO) (by rw[List.take_add_one,hn,List.flatMap_append,List.length_append,hc];simp[hnn])
   refine⟨us,?_,h1,h2,h3⟩;have hb:(acc.length+1)*64≤140737488355328:=by omega
   rw[g373L0e]at e' ⊢;simp at e;simp[sC,tC,zC,uC]at e';simp (disch:=omega) [-getElem?_pos,g373B0,sC,tC,zC,uC,hi,hax,ah,e,hb];rw[g373L0e];simp[e']
theorem c373{s:dO}(hs:Sm s.sl)(hO:∀x∈s.sl,x.ty.Ok)(r:Nat):∀t:Ty,Tr s.sl t r→t.Ok→∃u:Ty,(aC AP).p 373 [s.pv,t.pv]=some [u.pv]∧u.Ok∧u.nodes.length=r:=by
 induction r using Nat.strongRecOn with
 |ind r ih=>
   intro t ht hto;have k:=c386 hs (t:=t);have hw:(wk s.sl (s.sl.length+1) t).Ok:=mF hO hto;obtain⟨ns,hn,hr⟩:=ht.inv;unfold lA at hn
   obtain⟨us,e,h1,h2,h3⟩:=UK (s:=s) hw hn.1 (fun i a n hi hni=>by
     have:=yR hni;exact ih n (by omega) a (hn.2 i a n hi hni) (hw.gw a (aR hi))) _ 0 rfl (by omega) [] rfl (by simp) rfl
   refine⟨⟨(wk s.sl (s.sl.length+1) t).kind,(wk s.sl (s.sl.length+1) t).name,(wk s.sl (s.sl.length+1) t).id,(wk s.sl (s.sl.length+1) t).home,us⟩,?_,⟨by have:=hw.sm;unfold Sm at *;simp only;omega,h2⟩,by rw[Ty.aM];simp only[List.length_cons];omega⟩;rw[ae (af:=g373) rfl rfl (by decide)];rw[g373L0e]at e;generalize wk s.sl (s.sl.length+1) t=x at *;simp at k;simp[sC,tC,zC,uC]at e;simp[g373,k,g373L0e,e]
theorem c355{s:dO}(hs:Sm s.sl)(hO:∀x∈s.sl,x.ty.Ok){m:Nat}(hm:m<1000000){t:Ty}(ht:t.Ok):∃r:Nat,(aC AP).p 355 [s.pv,t.pv,vI m]=some [vI r]∧1≤r∧r≤m+1∧(r≤m→Tr s.sl t r):=by
 obtain⟨r,e,h⟩:=c371 hs hO m hm t ht;refine⟨r,?_,h⟩;rw[ae (af:=g355) rfl rfl (by decide)];simp at e;have hmx:max (m:Int) 0=m:=by omega
 simp[g355,hmx,e]
theorem c358{s:dO}(hs:Sm s.sl)(hO:∀x∈s.sl,x.ty.Ok){t:Ty}(ht:t.Ok):∃(u:Ty) (b:Bool),(aC AP).p 358 [s.pv,t.pv]=some [u.pv,.bool b]∧u.Ok∧u.nodes.length≤4000:=by
 obtain⟨r,e,h1,h2,h3⟩:=c355 hs hO (m:=4000) (by omega) ht;simp at e;by_cases hr:r≤4000
 · obtain⟨u,e2,hu,hnu⟩:=c373 hs hO r t (h3 hr) ht;refine⟨u,true,?_,hu,by omega⟩;simp at e2;have hr':¬(4000:Int)<r:=by omega
   rw[ae (af:=g358) rfl rfl (by decide)];simp[g358,e,hr',e2]
 · refine⟨bq,false,?_,cI rfl,by rw[Ty.aM];simp[bq]⟩;have hr':(4000:Int)<r:=by omega
   rw[ae (af:=g358) rfl rfl (by decide)];simp[g358,e,hr',bq]
theorem c388:(aC AP).p 388 []=some [(dO.mk [] []).pv]:=by
 rw[ae (af:=g388) rfl rfl (by decide)];simp[g388]
def cV(s:dO)(home:Int)(b:Bool):dO:=⟨s.sl++[⟨false,bq,home,b⟩],s.tr++[⟨s.sl.length,⟨false,bq,0,false⟩,true⟩]⟩
theorem c381{s:dO}{n m:Nat}(hs:s.Ok n m)(hn:n≤1000000)(hm:m≤1000000000)(home:Int)(b:Bool):(aC AP).p 381 [s.pv,vI home,.bool b]=some [(cV s home b).pv,(bO s.sl.length).pv]:=by
 have k:=c63 (n:=s.sl.length);have h1:=hs.sl;have h2:=hs.tr;have b1:s.sl.length*88≤140737488355328:=by omega
 have b2:(s.sl.length+1)*88≤140737488355328:=by omega
 have b3:s.tr.length*104≤140737488355328:=by omega
 have b4:(s.tr.length+1)*104≤140737488355328:=by omega
 have e1:=Qe.head s.sl;have e2:=My.head s.tr;simp at k e1 e2;rw[ae (af:=g381) rfl rfl (by decide)];simp (disch:=omega) [g381,cV,bq,bO,k,b1,b2,b3,b4,e1,e2]
 (repeat' split)<;>simp_all
theorem UL{sz:Nat}{l:List PV}{k:IntKind}{h:Int}(h0:0≤h)(h1:h≤l.length):dK false sz false true false [.pv (.au l),.pv (.int k h)]=some (.pv (.au (l.take h.toNat))):=by
 simp[dK,cJ,eK,h0,h1]
theorem UM{sz τ:Nat}{l:List PV}{k:IntKind}{h:Int}(h0:0≤h)(h1:h≤l.length):dK false sz false true false [.own l τ,.pv (.int k h)]=some (.pv (.au (l.take h.toNat))):=by
 simp[dK,cJ,eK,h0,h1]
def Sl.cells(x:Sl):List PV:=[.bool x.bd,vI x.ty.kind,.str x.ty.name,vI x.ty.id,vI x.ty.home,.au (x.ty.args.map Ty.pv),vI x.home,.bool x.base]
theorem oI:Row Sl.cells 8:=⟨by omega,fun _=>rfl⟩
theorem RR{l:List Sl}:((eA (aN Sl.cells l)).bind (dP 8 true l.length)).map PV.au=some (.au (l.map Sl.pv)):=nf oI
theorem RS{l:List Sl}:((l.map Sl.pv).flatMap aX).map AV.pv=aN Sl.cells l:=ng oI
def gX(s:dO)(i:Nat)(o x:Sl):dO:=⟨s.sl.set i x,s.tr++[⟨i,o,false⟩]⟩
theorem c393{s:dO}{n m:Nat}(hs:s.Ok n m)(hn:n≤1000000)(hm:m≤1000000000){i:Nat}{o:Sl}(hi:s.sl[i]?=some o)(x:Sl):(aC AP).p 393 [s.pv,vI i,x.pv]=some [(gX s i o x).pv,.bool true]:=by
 have h1:=hs.sl;have h2:=hs.tr;have hl:i<s.sl.length:=by obtain⟨h,_⟩:=List.getElem?_eq_some_iff.1 hi;exact h
 have b1:s.sl.length*88≤140737488355328:=by omega
 have b3:s.tr.length*104≤140737488355328:=by omega
 have b4:(s.tr.length+1)*104≤140737488355328:=by omega
 have hge:¬s.sl.length≤i:=by omega
 have hle8:i*8+8≤s.sl.length*8:=by omega
 have hf:∀S:Sh,dd S (.az 8 0)=none:=fun _=>rfl;have e1:=Qe.head s.sl
 have e2:=My.head s.tr;have hne:¬s.sl=[]:=by intro h;rw[h]at hl;simp at hl
 have hmp:=RS (l:=s.sl);have hB:bV (aN Sl.cells s.sl)=false:=bI aY;have hB2:bV (aN Sl.cells (s.sl.set i x))=false:=bI aY;have hlen:(aN Sl.cells s.sl).length=s.sl.length*8:=bo oI;have hlen2:(aN Sl.cells (s.sl.set i x)).length=s.sl.length*8:=by rw[bo oI];simp
 have hle:=RM oI hl (o:=0) (k:=8) (by omega)
 have hset:=lq oI hi (y:=x) (o:=0) (vs:=x.cells) (by rw[oI.len];omega) (by
   simp[Sl.cells])
 have hq:∀aI ts,a9 aI ts [some (aN Sl.cells s.sl)]=([some (aN Sl.cells s.sl)],aI,ts):=(aL.one aY).norm;have hq2:∀aI ts,a9 aI ts [some (aN Sl.cells (s.sl.set i x))]=([some (aN Sl.cells (s.sl.set i x))],aI,ts):=(aL.one aY).norm;have hlst:=RR (l:=s.sl.set i x);rw[List.length_set]at hlst;simp only[Nat.add_zero]at hset hle;generalize aN Sl.cells (s.sl.set i x)=T1 at *;generalize aN Sl.cells s.sl=T at *;simp[Sl.cells]at hset;simp at hlst hmp e1 e2;rw[ae (af:=g393) rfl rfl (by decide)];simp (disch:=omega) [-getElem?_pos,g393,hi,hl,b1,b3,b4,e1,e2,hne,hmp,hB,hB2,hlen,hlen2,hset,hq,hq2,hlst,gX,hge,hle8,hf]
theorem c194g{t:Ty}(ht:t.Ok):∃(a b:Ty) (c:Bool),(aC AP).p 194 [t.pv]=some [a.pv,b.pv,.bool c]∧a.Ok∧b.Ok∧(c=true→t=⟨4,[45,62],t.id,t.home,[a,b]⟩):=by
 by_cases h:t.kind=4∧t.name=[45,62]∧t.args.length=2
 · obtain⟨h1,h2,h3⟩:=h
   match e:t.args,h3 with
   |[a,b],_=>
     refine⟨a,b,true,?_,ht.gw a (by simp[e]),ht.gw b (by simp[e]),?_⟩
     ·rw[ae (af:=g194) rfl rfl (by decide)];simp[g194,h1,h2,e]
     ·intro _;cases t;simp at h1 h2 e⊢;simp[h1,h2,e]
 · refine⟨bq,bq,false,?_,cI rfl,cI rfl,by simp⟩;rw[ae (af:=g194) rfl rfl (by decide)];by_cases h1:t.kind=4
   · by_cases h2:t.name=[45,62]
     · have h3:¬(t.args.length:Int)=2:=by
         intro q;exact h ⟨h1,h2,by omega⟩
       simp[g194,h1,h2,h3,bq]
     ·simp[g194,h1,h2,bq]
   ·simp[g194,h1,bq]
theorem WK{S:List Ty}{l:List Ty}(hS:Sm l)(hO:∀t∈l,t.Ok)(hk:∀x∈l.flatMap (Ty.fe 3),x∈S):∀(n i:Nat),l.length-i=n→i≤l.length→∀out,gm S out →
   cl AP g59L0 ⟨[(0,.pv (.au (l.map Ty.pv))),(3,.own (out.map Ty.pv) 0),(4,.pv (vI i))],[],[],[out.length]⟩ =
     some (.exit 0,⟨[(0,.pv (.au (l.map Ty.pv))),(3,.own ((((l.drop i).flatMap (Ty.fe 3)).foldl gW out).map Ty.pv) 0),(4,.pv (vI l.length)),(8,.pv (.bool false))],[],[],[(((l.drop i).flatMap (Ty.fe 3)).foldl gW out).length]⟩)
 |0,i,hn,hi,out,hc=>by
   have:i=l.length:=by omega
   subst this;rw[g59L0e];simp[g59B0]
 |n+1,i,hn,hi,out,hc=>by
   have hi:i<l.length:=(by omega);obtain⟨x,hx⟩:=aV hi;unfold Sm at hS;have hkx:∀y∈x.fe 3,y∈S:=fun y hy=>hk y (by simp only[List.mem_flatMap];exact⟨x,aR hx,hy⟩)
   have k:=c99 (kd:=3) (hO x (aR hx)) hkx out hc;have ih:=WK hS hO hk n (i+1) (by omega) (by omega) _ (hc.fold hkx);rw[g59L0e]at ih⊢;rw[bj hx];simp at k ih;simp (disch:=omega) [-getElem?_pos,g59B0,hx,hi,k,ah];rw[g59L0e];simp[ih]
theorem c59{S:List Ty}(hf:S.length<1099511627776)(hSo:∀x∈S,x.Ok){l:List Ty}(hS:Sm l)(hO:∀t∈l,t.Ok)(hk:∀x∈l.flatMap (Ty.fe 3),x∈S):∃r:List Ty,(aC AP).p 59 [.au (l.map Ty.pv)]=some [.au (r.map Ty.pv)]∧Sm r∧∀x∈r,x∈S:=by
 have c0:gm S []:=⟨by simp,by simp,hf,hSo⟩;have h:=WK hS hO hk _ 0 rfl (by omega) [] c0;have hc:=c0.fold hk;refine⟨_,?_,hc.len,hc.sub⟩;rw[ae (af:=g59) rfl rfl (by decide)];rw[g59L0e]at h;simp at h;simp[g59,g59L0e,h]
def nN(s:List Sl)(t:Ty):Bool:=decide (t.kind=1∧0≤t.id∧t.id<s.length)
theorem c396{s:dO}{t:Ty}:(aC AP).p 396 [s.pv,t.pv]=some [.bool (nN s.sl t)]:=by
 rw[ae (af:=g396) rfl rfl (by decide)];by_cases h1:t.kind=1
 · by_cases h2:0≤t.id
   · by_cases h3:t.id<s.sl.length
     ·simp[g396,nN,h1,h2,h3]
     ·simp[g396,nN,h1,h2,h3]
   ·simp[g396,nN,h1,h2]
 ·simp[g396,nN,h1]
inductive iA:Ty→Int→Prop
 |var {t:Ty}:t.kind=1→iA t t.id
 |arg {t a:Ty} {v:Int}:t.kind≠1→a∈t.args→iA a v→iA t v
def Edge(s:List Sl)(i v:Int):Prop:=∃(k:Nat) (x:Sl),i=k∧s[k]?=some x∧x.bd=true∧iA x.ty v
inductive Gb (s:List Sl):Int→Int→Prop
 |refl (i:Int):Gb s i i
 |step {i j k:Int}:Edge s i j→Gb s j k→Gb s i k
def JV(s:List Sl):Prop:=∃rk:Int→Nat,∀i v,Edge s i v→rk v<rk i
theorem JV.of{s s':List Sl}(h:JV s)(he:∀i v,Edge s' i v→Edge s i v):JV s':=by
 obtain⟨rk,hr⟩:=h;exact⟨rk,fun i v e=>hr i v (he i v e)⟩
theorem iA.bound(rk:Int→Nat)(t:Ty):∃M,∀v,iA t v→rk v<M:=by
 refine Ty.dF (p:=fun t=>∃M,∀v,iA t v→rk v<M) ?_ t;intro t ih;by_cases k:t.kind=1
 · refine⟨rk t.id+1,?_⟩;intro v h;cases h with
   |var _=>omega
   |arg q _ _=>exact absurd k q
 · have key:∀l:List Ty,(∀a∈l,∃M,∀v,iA a v→rk v<M)→∃M,∀a∈l,∀v,iA a v→rk v<M:=by
     intro l;induction l with
     |nil=>intro _;exact⟨0,by simp⟩
     |cons a r ihr=>
       intro h;obtain⟨M,hM⟩:=h a (by simp);obtain⟨N,hN⟩:=ihr fun b hb=>h b (by simp[hb]);refine⟨M+N,?_⟩;intro b hb v hv;simp at hb;rcases hb with rfl|hb
       ·have:=hM v hv;omega
       ·have:=hN b hb v hv;omega
   obtain⟨M,hM⟩:=key t.args ih;refine⟨M,?_⟩;intro v h;cases h with
   |var q=>exact absurd q k
   |arg _ ha h=>exact hM _ ha v h
theorem BJ{s:List Sl}{k:Nat}{x:Sl}{i v:Int}(h:Edge (s.set k x) i v):(i=k∧x.bd=true∧iA x.ty v)∨(i≠k∧Edge s i v):=by
 obtain⟨j,y,rfl,hy,hb,ho⟩:=h;rw[List.getElem?_set]at hy;by_cases e:k=j
 · subst e;by_cases hl:k<s.length
   ·simp[hl]at hy;subst hy;exact .inl ⟨rfl,hb,ho⟩
   ·simp[hl]at hy
 ·simp[e]at hy;exact .inr ⟨by omega,j,y,rfl,hy,hb,ho⟩
theorem BK{s:List Sl}{k:Nat}{o x:Sl}(h:JV s)(hk:s[k]?=some o)(hb:x.bd=o.bd)(ht:x.ty=o.ty):JV (s.set k x):=by
 refine h.of ?_;intro i v e;rcases BJ e with⟨rfl,b,oc⟩|⟨_,e⟩
 ·exact⟨k,o,rfl,hk,by rw[←hb];exact b,by rw[←ht];exact oc⟩
 ·exact e
theorem BL{s:List Sl}{k:Nat}{x:Sl}(h:JV s)(hn:∀v,iA x.ty v→¬Gb s v k):JV (s.set k x):=by
 classical
 obtain⟨rk,hr⟩:=h;obtain⟨M,hM⟩:=iA.bound rk x.ty;refine⟨fun j=>if Gb s j k then rk j+M else rk j,?_⟩;intro i v e;show (if Gb s v k then rk v+M else rk v)<(if Gb s i k then rk i+M else rk i);rcases BJ e with⟨rfl,b,oc⟩|⟨_,e⟩
 ·have h1:=hM v oc;rw[if_neg (hn v oc),if_pos (.refl _)];omega
 · have h1:=hr i v e;by_cases q:Gb s v k
   ·rw[if_pos q,if_pos (.step e q)];omega
   ·rw[if_neg q];split<;>omega
theorem Mz{s:List Sl}{x:Sl}(h:JV s)(hb:x.bd=false):JV (s++[x]):=by
 refine h.of ?_
 rintro i v ⟨k,y,rfl,hy,b,o⟩
 by_cases hl:k<s.length
 ·rw[List.getElem?_append_left hl]at hy;exact⟨k,y,rfl,hy,b,o⟩
 · rw[List.getElem?_append_right (by omega)]at hy;by_cases e:k-s.length=0
   ·rw[e]at hy;simp at hy;subst hy;rw[hb]at b;cases b
   · have:([x]:List Sl)[k-s.length]?=none:=by simp;omega
     rw[this]at hy;cases hy
def ub(s:List Sl):Nat:=s.countP fun x=>!x.bd
theorem sP:∀{s:List Sl} {k:Nat} {o x:Sl},s[k]?=some o→x.bd=o.bd→ub (s.set k x)=ub s
 |[],k,o,x,h,_=>by simp at h
 |a::r,0,o,x,h,hb=>by simp at h;subst h;simp[ub,List.countP_cons,hb]
 |a::r,k+1,o,x,h,hb=>by
   simp at h;have:=sP h hb;simp only[ub]at this;simp[ub,List.countP_cons,this]
theorem yS:∀{s:List Sl} {k:Nat} {o x:Sl},s[k]?=some o→o.bd=false→x.bd=true→ub (s.set k x)+1=ub s
 |[],k,o,x,h,_,_=>by simp at h
 |a::r,0,o,x,h,hb,hx=>by simp at h;subst h;simp[ub,List.countP_cons,hb,hx]
 |a::r,k+1,o,x,h,hb,hx=>by
   simp at h;have:=yS h hb hx;simp only[ub]at this;simp[ub,List.countP_cons];omega
def bT(dn:List Bool):List AV:=dn.map fun b=>.pv (.bool b)
def fX(s:dO)(T:List AV)(n:Nat)(out:List Int):Sh:=[some T,some [.pv (.au (s.sl.map Sl.pv)),.pv (.au (s.tr.map Ch.pv)),.own (out.map vI) 0,.aP 0 1 n false]]
structure Qf(T:List AV):Prop where
 norm:∀aI ts,bh aI ts T=(T,aI,ts)
 mp:bV T=false
 sh:∀k,T.map (da k)=T
theorem UN{s:dO}{S out:List Int}{t:Ty}(hk:t.kind=1)(hb:iL s.sl t=none)(hc:lQ S out){T:List AV}(hT:Qf T){n:Nat} :
   (aC AP).i 387 [.aW 1 0,.pv t.pv] (fX s T n out) [out.length]=some ([],fX s T n (if t.id∈out then out else out++[t.id]),[(if t.id∈out then out else out++[t.id]).length]):=by
 have k1:=c392 (s:=s) (t:=t);have hl:=hc.len;have k2:=c95 hl (y:=t.id);unfold Sm at hl;have hbb:(out.length+1)*8≤140737488355328:=by omega
 have hh:bf 1 (out.map vI)=true:=oB.head out;have hn:=hT.norm;rw[hb]at k1;simp[hk]at k1;rw[aE (af:=g387) rfl (by simp[g387])];by_cases e2:t.id∈out
 ·rw[decide_eq_true e2]at k2;simp[g387,fX,hk,k1,k2,e2,hn]
 ·rw[decide_eq_false e2]at k2;simp[g387,fX,hk,k1,k2,e2,hn,hbb,hh]
theorem UO{s:dO}{out:List Int}{t:Ty}{x:Sl}{i:Nat}(hi:t.id=i)(hk:t.kind=1)(hx:s.sl[i]?=some x)(hb:iL s.sl t=some x){T:List AV}(hT:Qf T){n:Nat}(hn:T.length=n)(hin:i<n)(hd:T[i]?=some (.pv (.bool true))) :
   (aC AP).i 387 [.aW 1 0,.pv t.pv] (fX s T n out) [out.length]=some ([],fX s T n out,[out.length]):=by
 have k1:=c392 (s:=s) (t:=t);have hnm:=hT.norm;have hmp:=hT.mp;have hsh:=hT.sh;have hle:i+1≤T.length:=by omega
 rw[hb]at k1;simp[hk,hi]at k1;rw[aE (af:=g387) rfl (by simp[g387])];simp (disch:=omega) [-getElem?_pos,g387,fX,hk,hi,k1,hnm,hin,hd,hmp,hle,bR]
theorem UP{s:dO}{out out':List Int}{t:Ty}{x:Sl}{i:Nat}(hi:t.id=i)(hk:t.kind=1)(hx:s.sl[i]?=some x)(hb:iL s.sl t=some x){T T1 T2:List AV}(hT:Qf T)(hT1:Qf T1)(hT2:Qf T2){n:Nat}(hn:T.length=n)(hin:i<n)(hd:T[i]?=some (.pv (.bool false)))
   (hs:aQ T i [.pv (.bool true)]=T1) (e:(aC AP).i 387 [.aW 1 0,.pv x.ty.pv] (fX s T1 n out) [out.length]=some ([],fX s T2 n out',[out'.length])) :
   (aC AP).i 387 [.aW 1 0,.pv t.pv] (fX s T n out) [out.length]=some ([],fX s T2 n out',[out'.length]):=by
 have k1:=c392 (s:=s) (t:=t);have hnm:=hT.norm;have hnm1:=hT1.norm;have hnm2:=hT2.norm;have hsh1:=hT1.sh;have hsh2:=hT2.sh;have hmp:=hT.mp;have hsh:=hT.sh;have hl:i<s.sl.length:=by obtain⟨h,_⟩:=List.getElem?_eq_some_iff.1 hx;exact h
 have hle:i+1≤T.length:=by omega
 rw[hb]at k1;simp[hk,hi]at k1;simp[fX]at e;simp at hs;rw[aE (af:=g387) rfl (by simp[g387])];simp (disch:=omega) [-getElem?_pos,g387,fX,hk,hi,k1,hnm,hnm1,hnm2,hin,hd,hx,hl,hmp,hs,hle,e,bR,hsh,hsh1,hsh2]
def RU(s:dO)(n:Nat)(t:Ty)(T:List AV)(out:List Int)(T':List AV)(out':List Int):Prop:=(aC AP).i 387 [.aW 1 0,.pv t.pv] (fX s T n out) [out.length]=some ([],fX s T' n out',[out'.length])
theorem UQ{s:dO}{n:Nat}{t:Ty}(ht:t.Ok)(J:Nat→List AV→List Int→Prop)(hP:∀i T out,J i T out→Qf T)
   (hJ:∀i a,t.args[i]?=some a→∀T out,J i T out→∃T' out',RU s n a T out T' out'∧J (i+1) T' out'):∀(k i:Nat),t.args.length-i=k→i≤t.args.length→∀T out,J i T out→∃T' out',
   cl AP g387L0 ⟨[(0,.aW 1 0),(3,.az 3 0),(4,.pv (vI i))],[(3,tC t)],fX s T n out,[out.length]⟩ =
     some (.exit 1,⟨[(0,.aW 1 0),(3,.az 3 0),(4,.pv (vI t.args.length)),(68,.pv (.bool false))],[(3,tC t)],fX s T' n out',[out'.length]⟩)∧J t.args.length T' out'
 |0,i,hk,hi,T,out,h=>by
   have:i=t.args.length:=by omega
   subst this;refine⟨T,out,?_,h⟩;have hn:=(hP _ _ _ h).norm;rw[g387L0e];simp[g387B0,tC,fX,hn]
 |k+1,i,hk,hi,T,out,h=>by
   have hi:i<t.args.length:=(by omega);obtain⟨a,ha⟩:=aV hi;have hsm:=ht.sm;unfold Sm at hsm;obtain⟨T1,out1,e,h1⟩:=hJ i a ha T out h;obtain⟨T',out',e',h2⟩:=UQ ht J hP hJ k (i+1) (by omega) (by omega) T1 out1 h1;refine⟨T',out',?_,h2⟩;have hn:=(hP _ _ _ h).norm;have hn1:=(hP _ _ _ h1).norm;have hs:=(hP _ _ _ h).sh;have hs1:=(hP _ _ _ h1).sh;unfold RU at e;rw[g387L0e]at e' ⊢;simp[fX]at e;simp[tC,fX,hn1]at e';simp (disch:=omega) [-getElem?_pos,g387B0,tC,fX,hi,ha,hn,hn1,hs,hs1,ah,e];rw[g387L0e];simp[e',hn1]
theorem US{s:dO}{n:Nat}{t:Ty}(ht:t.Ok)(hk:t.kind≠1)(J:Nat→List AV→List Int→Prop)(hP:∀i T out,J i T out→Qf T)
   (hJ:∀i a,t.args[i]?=some a→∀T out,J i T out→∃T' out',RU s n a T out T' out'∧J (i+1) T' out') {T:List AV} {out:List Int} (h:J 0 T out):∃T' out',RU s n t T out T' out'∧J t.args.length T' out':=by
 obtain⟨T',out',e,h1⟩:=UQ (s:=s) (n:=n) ht J hP hJ _ 0 rfl (by omega) T out h;refine⟨T',out',?_,h1⟩;have hn:=(hP _ _ _ h).norm;have hn1:=(hP _ _ _ h1).norm;have hs1:=(hP _ _ _ h1).sh;unfold RU;rw[aE (af:=g387) rfl (by simp[g387])];rw[g387L0e]at e;simp[tC,fX,hn]at e;simp[g387,fX,hk,hn,hn1,hs1,g387L0e,e]
def qJ(s:List Sl)(v:Int):Prop:=∃(k:Nat) (x:Sl),v=k∧s[k]?=some x∧x.bd=true
theorem jF{s:List Sl}{t:Ty}(hk:t.kind=1)(h:iL s t=none):¬qJ s t.id:=by
 rintro⟨k,x,e,hx,hb⟩
 unfold iL at h;have:0≤t.id:=by omega
 rw[if_pos ⟨hk,this⟩]at h;have hn:t.id.toNat=k:=by omega
 rw[hn,hx]at h;simp[hb]at h
theorem MA{s:List Sl}{i v:Int}(h:Edge s i v):qJ s i:=by
 obtain⟨k,x,e,hx,hb,_⟩:=h;exact⟨k,x,e,hx,hb⟩
theorem uT{s:List Sl}{i v:Int}(h:Gb s i v)(hb:¬qJ s i):v=i:=by
 cases h with
 |refl=>rfl
 |step e _=>exact absurd (MA e) hb
theorem jT{t:Ty}{w:Int}(hk:t.kind=1)(h:iA t w):w=t.id:=by
 cases h with
 |var _=>rfl
 |arg q _ _=>exact absurd hk q
theorem RV{s:List Sl}{rk:Int→Nat}(hr:∀i v,Edge s i v→rk v<rk i){i v:Int}(h:Gb s i v):rk v≤rk i:=by
 induction h with
 |refl=>omega
 |step e _ ih=>have:=hr _ _ e;omega
def Qg(s:List Sl)(j:Int)(out:List Int):Prop:=∀v,Gb s j v→¬qJ s v→v∈out
def RT(s:List Sl)(t:Ty)(v:Int):Prop:=∃w,iA t w∧Gb s w v
theorem Qg.mono{s:List Sl}{j:Int}{out out':List Int}(h:Qg s j out)(ho:∀v∈out,v∈out'):Qg s j out':=fun v hv hb=>ho v (h v hv hb)
theorem MB{dn:List Bool}:∀v∈bT dn,∃p,v=AV.pv p:=by
 intro v hv;simp only[bT,List.mem_map]at hv;obtain⟨b,_,rfl⟩:=hv;exact⟨_,rfl⟩
theorem mG{dn:List Bool}:Qf (bT dn):=⟨fun _ _=>mo MB,bI MB,fun _=>qB MB⟩
theorem RW{dn:List Bool}{i:Nat}(hi:i<dn.length)(b:Bool):aQ (bT dn) i [.pv (.bool b)]=bT (dn.set i b):=by
 have:(bT dn).length=dn.length:=by simp[bT]
 simp only[aQ,bT,List.length_cons,List.length_nil,Nat.zero_add];rw[←List.map_take,←List.map_drop,List.set_eq_take_append_cons_drop,if_pos hi];simp
theorem MC{dn:List Bool}{i j:Nat}(h:dn[j]?=some true):(dn.set i true)[j]?=some true:=by
 rw[List.getElem?_set];have hj:j<dn.length:=by obtain⟨h,_⟩:=List.getElem?_eq_some_iff.1 h;exact h
 by_cases e:i=j
 ·subst e;simp[hj]
 ·simp[e,h]
theorem BM{dn:List Bool}{i j:Nat}(h:(dn.set i true)[j]?=some true):i=j∨dn[j]?=some true:=by
 rw[List.getElem?_set]at h;by_cases e:i=j
 ·exact .inl e
 ·simp[e]at h;exact .inr h
structure UT(s:dO)(S:List Int)(t:Ty)(dn:List Bool)(out:List Int)(dn':List Bool)(out':List Int):Prop where
 pN:RU s s.sl.length t (bT dn) out (bT dn') out'
 len:dn'.length=s.sl.length
 Jt:lQ S out'
 sub:∀v∈out,v∈out'
 mono:∀j:Nat,dn[j]?=some true→dn'[j]?=some true
 all:∀v,RT s.sl t v→¬qJ s.sl v→v∈out'
 new:∀j:Nat,dn'[j]?=some true→dn[j]?=some true∨Qg s.sl j out'
structure Xv(s:dO)(S:List Int)(t:Ty)(dn:List Bool)(out:List Int)(i:Nat)(dn':List Bool)(out':List Int):Prop where
 len:dn'.length=s.sl.length
 Jt:lQ S out'
 sub:∀v∈out,v∈out'
 mono:∀j:Nat,dn[j]?=some true→dn'[j]?=some true
 all:∀a∈t.args.take i,∀v,RT s.sl a v→¬qJ s.sl v→v∈out'
 new:∀j:Nat,dn'[j]?=some true→dn[j]?=some true∨Qg s.sl j out'
theorem LW{s:dO}{S:List Int}{rk:Int→Nat}(hr:∀i v,Edge s.sl i v→rk v<rk i)(hO:∀x∈s.sl,x.ty.Ok)(hS:∀x∈s.sl,∀w,iA x.ty w→w∈S)(N:Nat) :
   ∀t:Ty,t.Ok→(∀w,iA t w→rk w<N)→(∀w,iA t w→w∈S)→∀(dn:List Bool) (out:List Int),dn.length=s.sl.length→lQ S out→(∀j:Nat,dn[j]?=some true→RT s.sl t j→Qg s.sl j out) →
     ∃dn' out',UT s S t dn out dn' out':=by
 induction N using Nat.strongRecOn with
 |ind N IH=>
   intro t
   refine Ty.dF (p:=fun t=>t.Ok→(∀w,iA t w→rk w<N)→(∀w,iA t w→w∈S)→∀(dn:List Bool) (out:List Int),dn.length=s.sl.length→lQ S out→(∀j:Nat,dn[j]?=some true→RT s.sl t j→Qg s.sl j out) →
     ∃dn' out',UT s S t dn out dn' out') ?_ t
   intro t ih ht hN hw dn out hd hc hpre;by_cases hk:t.kind=1
   · have oc:iA t t.id:=.var hk;cases hb:iL s.sl t with
     |none=>
       have hf:=jF hk hb;have e:=UN (n:=s.sl.length) hk hb hc (mG (dn:=dn))
       have ea:(if t.id∈out then out else out++[t.id])=eC out t:=by
         unfold eC;by_cases q:t.id∈out<;>simp[q,hk]
       rw[ea]at e
       have hs:∀v∈out,v∈eC out t:=by
         intro v hv;unfold eC;split
         ·simp[hv]
         ·exact hv
       refine⟨dn,eC out t,e,hd,hc.add (fun _=>hw _ oc),hs,fun _ h=>h,?_,fun _ h=>.inl h⟩
       rintro v ⟨w,ho,hv⟩ _
       have h1:=jT hk ho;subst h1;rw[uT hv hf];unfold eC;by_cases q:t.id∈out<;>simp[q,hk]
     |some x=>
       obtain⟨_,i,hi,hx,hbd⟩:=gA hb;have hl:i<s.sl.length:=by obtain⟨h,_⟩:=List.getElem?_eq_some_iff.1 hx;exact h
       have hTl:(bT dn).length=s.sl.length:=(by simp[bT,hd]);obtain⟨b,hdb⟩:=aV (l:=dn) (i:=i) (by omega);have hTd:(bT dn)[i]?=some (.pv (.bool b)):=(by simp[bT,hdb]);have Ju:∀w,iA x.ty w→Edge s.sl t.id w:=fun w ho=>⟨i,x,hi,hx,hbd,ho⟩
       cases b with
       |true=>
         have e:=UO (out:=out) hi hk hx hb (mG (dn:=dn)) hTl hl hTd;refine⟨dn,out,e,hd,hc,fun _ h=>h,fun _ h=>h,?_,fun _ h=>.inl h⟩
         rintro v ⟨w,ho,hv⟩ hnb
         have h1:=jT hk ho;subst h1;have:=hpre i hdb ⟨t.id,oc,by rw[hi];exact .refl _⟩;rw[hi]at hv;exact this v hv hnb
       |false=>
         have hlt:rk t.id<N:=hN _ oc
         obtain⟨dn',out',P⟩:=IH (rk t.id) hlt x.ty (hO x (aR hx)) (fun w ho=>hr _ _ (Ju w ho)) (hS x (aR hx)) (dn.set i true) out (by simp[hd]) hc (by
           intro j hj ⟨w,ho,hv⟩;have hlt2:rk j<rk t.id:=by have:=RV hr hv;have:=hr _ _ (Ju w ho);omega
           rcases BM hj with rfl|hj
           ·rw[hi]at hlt2;omega
           ·exact hpre j hj ⟨t.id,oc,.step (Ju w ho) hv⟩)
         have e:=UP hi hk hx hb (mG (dn:=dn)) (mG (dn:=dn.set i true)) (mG (dn:=dn')) hTl hl hTd (RW (by omega) true) P.pN
         have fin:Qg s.sl t.id out':=by
           intro v hv hnb;cases hv with
           |refl=>exact absurd ⟨i,x,hi,hx,hbd⟩ hnb
           |step e2 hv=>
             obtain⟨k,y,e3,hy,_,ho⟩:=e2;have:k=i:=by omega
             subst this;rw[hx]at hy;cases hy;exact P.all v ⟨_,ho,hv⟩ hnb
         refine⟨dn',out',e,P.len,P.Jt,P.sub,fun j h=>P.mono j (MC h),?_,?_⟩
         · rintro v ⟨w,ho,hv⟩ hnb
           have h1:=jT hk ho;subst h1;exact fin v hv hnb
         · intro j hj;rcases P.new j hj with h|h
           · rcases BM h with rfl|h
             ·exact .inr (by rw[←hi];exact fin)
             ·exact .inl h
           ·exact .inr h
   · obtain⟨T',out',e,dn',rfl,h⟩:=US (s:=s) (n:=s.sl.length) ht hk (fun i T o=>∃d,T=bT d∧Xv s S t dn out i d o) (by rintro i T o ⟨d,rfl,_⟩;exact mG) (by
       rintro i a ha T o ⟨d,rfl,h⟩
       have hm:=aR ha
       obtain⟨d',o',P⟩:=ih a hm (ht.gw a hm) (fun w ho=>hN w (.arg hk hm ho)) (fun w ho=>hw w (.arg hk hm ho)) d o h.len h.Jt (by
         intro j hj ⟨w,ho,hv⟩;rcases h.new j hj with hj|hj
         ·exact (hpre j hj ⟨w,.arg hk hm ho,hv⟩).mono h.sub
         ·exact hj)
       refine⟨bT d',o',P.pN,d',rfl,P.len,P.Jt,fun v hv=>P.sub v (h.sub v hv),fun j hj=>P.mono j (h.mono j hj),?_,?_⟩
       · intro b hb v hv hnb;rw[List.take_add_one,ha]at hb;simp at hb;rcases hb with hb|rfl
         ·exact P.sub v (h.all b hb v hv hnb)
         ·exact P.all v hv hnb
       · intro j hj;rcases P.new j hj with hj|hj
         · rcases h.new j hj with hj|hj
           ·exact .inl hj
           ·exact .inr (hj.mono P.sub)
         ·exact .inr hj) ⟨dn,rfl,hd,hc,fun _ h=>h,fun _ h=>h,by simp,fun _ h=>.inl h⟩
     refine⟨dn',out',e,h.len,h.Jt,h.sub,h.mono,?_,h.new⟩
     rintro v ⟨w,ho,hv⟩ hnb
     cases ho with
     |var q=>exact absurd q hk
     |arg _ ha ho=>exact h.all _ (by simpa using ha) v ⟨w,ho,hv⟩ hnb
def dS:List Ar→List Ex→List Ar
 |a::as,x::xs=>⟨a.pos,a.cZ,a.vars,x⟩::dS as xs
 |as,_=>as
theorem kH:∀{as:List Ar} {xs:List Ex},(dS as xs).length=as.length
 |[],xs=>by cases xs<;>rfl
 |a::as,[]=>rfl
 |a::as,x::xs=>by simp[dS,kH (as:=as) (xs:=xs)]
def Ex.kq(e:Ex)(c:List Ex):Ex:=if c.length=e.kids.length+e.aD.length then ⟨e.kind,e.pos,e.name,e.num,c.take e.kids.length,dS e.aD (c.drop e.kids.length),e.ty⟩ else e
theorem Fa{l:List Ar}:((eA (aN Ar.cells l)).bind (dP 14 true l.length)).map PV.au=some (.au (l.map Ar.pv)):=nf f_
theorem MD{l:List Ar}:((l.map Ar.pv).flatMap aX).map AV.pv=aN Ar.cells l:=ng f_
theorem uU{xs:List Ex}:dS [] xs=[]:=by cases xs<;>rfl
def yT(cs:List cR)(s:bt):Option Nat:=bM (fun c=>decide (c.name=s)) cs
def iu:List Dt→bt→Nat→Option (Nat×Nat)
 |[],_,_=>none
 |d::r,s,i=>match yT d.cons s with
   |some k=>some (i,k)
   |none=>iu r s (i+1)
def rF:Option (Nat×Nat)→List PV
 |some (i,k)=>[vI i,vI k,.bool true]
 |none=>[vI 0,vI 0,.bool false]
theorem Qh{ds:List Dt}{s:bt}{i:Nat}{cs:List cR}(hS:Sm cs):∀(n k:Nat),cs.length-k=n→k≤cs.length →
   cl AP g190L1 ⟨[(1,.pv (.str s)),(7,.pv (vI i)),(11,.pv (.au (ds.map Dt.pv))),(12,.pv (vI ds.length)),(13,.pv (vI i)),(19,.pv (.au (cs.map cR.pv))),(20,.pv (vI cs.length)),(21,.pv (vI k))],[],[],[]⟩ =
     match bM (fun c=>decide (c.name=s)) (cs.drop k) with
     |some j=>some (.ret,⟨[(4,.pv (vI i)),(5,.pv (vI (k+j:Nat))),(6,.pv (.bool true))],[],[],[]⟩)
     |none=>some (.exit 2,⟨[(1,.pv (.str s)),(7,.pv (vI i)),(11,.pv (.au (ds.map Dt.pv))),(12,.pv (vI ds.length)),(13,.pv (vI i)),(19,.pv (.au (cs.map cR.pv))),(20,.pv (vI cs.length)),(21,.pv (vI cs.length)),(22,.pv (.bool false))],[],[],[]⟩)
 |0,k,hn,hk=>by
   have:k=cs.length:=by omega
   subst this;rw[g190L1e];simp[g190B1,bM]
 |n+1,k,hn,hk=>by
   have hk:k<cs.length:=(by omega);obtain⟨x,hx⟩:=aV hk;unfold Sm at hS;have ih:=Qh (ds:=ds) (s:=s) (i:=i) hS n (k+1) (by omega) (by omega);rw[g190L1e]at ih⊢;rw[bj hx];simp at ih;by_cases e:x.name=s
   ·simp (disch:=omega) [-getElem?_pos,g190B1,hx,hk,e,bM]
   · simp (disch:=omega) [-getElem?_pos,g190B1,hx,hk,e,bM,ah];rw[g190L1e];simp[ih];cases bM (fun c=>decide (c.name=s)) (cs.drop (k+1)) with
     |none=>rfl
     |some j=>simp;omega
theorem UU{ds:List Dt}(hS:Sm ds)(hc:∀d∈ds,Sm d.cons)(s:bt):∀(n i:Nat),ds.length-i=n→i≤ds.length →
   cl AP g190L0 ⟨[(1,.pv (.str s)),(11,.pv (.au (ds.map Dt.pv))),(12,.pv (vI ds.length)),(13,.pv (vI i))],[],[],[]⟩ =
     match iu (ds.drop i) s i with
     |some q=>some (.ret,⟨[(4,.pv (vI q.1)),(5,.pv (vI q.2)),(6,.pv (.bool true))],[],[],[]⟩)
     |none=>some (.exit 0,⟨[(1,.pv (.str s)),(11,.pv (.au (ds.map Dt.pv))),(12,.pv (vI ds.length)),(13,.pv (vI ds.length)),(14,.pv (.bool false))],[],[],[]⟩)
 |0,i,hn,hi=>by
   have:i=ds.length:=by omega
   subst this;rw[g190L0e];simp[g190B0,iu]
 |n+1,i,hn,hi=>by
   have hi:i<ds.length:=(by omega);obtain⟨d,hd⟩:=aV hi;unfold Sm at hS;have ih:=UU hS hc s n (i+1) (by omega) (by omega);have h:=Qh (ds:=ds) (s:=s) (i:=i) (hc d (aR hd)) _ 0 rfl (by omega);rw[g190L1e]at h;rw[g190L0e]at ih⊢;rw[bj hd];simp at ih h;cases e:bM (fun c=>decide (c.name=s)) d.cons with
   |some k=>
     rw[e]at h;simp at h;simp (disch:=omega) [-getElem?_pos,g190B0,hd,hi,iu,yT,e,g190L1e,h]
   |none=>
     rw[e]at h;simp at h;simp (disch:=omega) [-getElem?_pos,g190B0,hd,hi,iu,yT,e,g190L1e,h,ah];rw[g190L0e];simp[ih]
theorem c190{ds:List Dt}(hS:Sm ds)(hc:∀d∈ds,Sm d.cons){s:bt}:(aC AP).p 190 [.au (ds.map Dt.pv),.str s]=some (rF (iu ds s 0)):=by
 have h:=UU hS hc s _ 0 rfl (by omega);rw[ae (af:=g190) rfl rfl (by decide)];rw[g190L0e]at h;simp at h;cases e:iu ds s 0 with
 |none=>rw[e]at h;simp at h;simp[g190,g190L0e,h,rF]
 |some q=>rw[e]at h;simp at h;simp[g190,g190L0e,h,rF]
theorem Qi{ds:List Dt}{s:bt}{i:Nat}{d:Dt}(hd:ds[i]?=some d)(hS:Sm d.cons):∀(n k:Nat),d.cons.length-k=n→k≤d.cons.length →
   cl AP g191L1 ⟨[(0,.pv (.au (ds.map Dt.pv))),(1,.pv (.str s)),(7,.pv (vI i)),(8,.pv (vI k))],[],[],[]⟩ =
     match bM (fun c=>decide (c.name=s)) (d.cons.drop k) with
     |some j=>some (.ret,⟨[(4,.pv (vI i)),(5,.pv (vI (k+j:Nat))),(6,.pv (.bool true))],[],[],[]⟩)
     |none=>some (.exit 2,⟨[(0,.pv (.au (ds.map Dt.pv))),(1,.pv (.str s)),(7,.pv (vI i)),(8,.pv (vI d.cons.length)),(22,.pv (.bool false))],[],[],[]⟩)
 |0,k,hn,hk=>by
   have:k=d.cons.length:=by omega
   subst this;rw[g191L1e];simp[-getElem?_pos,g191B1,bM,hd]
 |n+1,k,hn,hk=>by
   have hk:k<d.cons.length:=(by omega);obtain⟨x,hx⟩:=aV hk;unfold Sm at hS;have ih:=Qi (s:=s) hd hS n (k+1) (by omega) (by omega);rw[g191L1e]at ih⊢;rw[bj hx];simp at ih;by_cases e:x.name=s
   ·simp (disch:=omega) [-getElem?_pos,g191B1,hd,hx,hk,e,bM]
   · simp (disch:=omega) [-getElem?_pos,g191B1,hd,hx,hk,e,bM,ah];rw[g191L1e];simp[ih];cases bM (fun c=>decide (c.name=s)) (d.cons.drop (k+1)) with
     |none=>rfl
     |some j=>simp;omega
theorem UW{ds:List Dt}(hS:Sm ds)(hc:∀d∈ds,Sm d.cons)(s:bt):∀(n i:Nat),ds.length-i=n→i≤ds.length →
   cl AP g191L0 ⟨[(0,.pv (.au (ds.map Dt.pv))),(1,.pv (.str s)),(7,.pv (vI i))],[],[],[]⟩ =
     match iu (ds.drop i) s i with
     |some q=>some (.ret,⟨[(4,.pv (vI q.1)),(5,.pv (vI q.2)),(6,.pv (.bool true))],[],[],[]⟩)
     |none=>some (.exit 0,⟨[(0,.pv (.au (ds.map Dt.pv))),(1,.pv (.str s)),(7,.pv (vI ds.length)),(12,.pv (.bool false))],[],[],[]⟩)
 |0,i,hn,hi=>by
   have:i=ds.length:=by omega
   subst this;rw[g191L0e];simp[g191B0,iu]
 |n+1,i,hn,hi=>by
   have hi:i<ds.length:=(by omega);obtain⟨d,hd⟩:=aV hi;unfold Sm at hS;have ih:=UW hS hc s n (i+1) (by omega) (by omega);have h:=Qi (s:=s) hd (hc d (aR hd)) _ 0 rfl (by omega);rw[g191L1e]at h;rw[g191L0e]at ih⊢;rw[bj hd];simp at ih h;cases e:bM (fun c=>decide (c.name=s)) d.cons with
   |some k=>
     rw[e]at h;simp at h;simp (disch:=omega) [-getElem?_pos,g191B0,hd,hi,iu,yT,e,g191L1e,h]
   |none=>
     rw[e]at h;simp at h;simp (disch:=omega) [-getElem?_pos,g191B0,hd,hi,iu,yT,e,g191L1e,h,ah];rw[g191L0e];simp[ih]
theorem c191{ds:List Dt}(hS:Sm ds)(hc:∀d∈ds,Sm d.cons){s:bt}:(aC AP).p 191 [.au (ds.map Dt.pv),.str s]=some (rF (iu ds s 0)):=by
 have h:=UW hS hc s _ 0 rfl (by omega);rw[ae (af:=g191) rfl rfl (by decide)];rw[g191L0e]at h;simp at h;cases e:iu ds s 0 with
 |none=>rw[e]at h;simp at h;simp[g191,g191L0e,h,rF]
 |some q=>rw[e]at h;simp at h;simp[g191,g191L0e,h,rF]
theorem O6{cs:List cR}{s:bt}{k:Nat}(h:yT cs s=some k):∃c,cs[k]?=some c∧c.name=s:=by
 unfold yT at h;induction cs generalizing k with
 |nil=>simp[bM]at h
 |cons a r ih=>
   simp only[bM]at h;split at h
   ·rename_i e;cases h;exact⟨a,rfl,by simpa using e⟩
   ·simp only[Option.map_eq_some_iff]at h;obtain⟨j,hj,rfl⟩:=h;obtain⟨c,h1,h2⟩:=ih hj;exact⟨c,by simpa using h1,h2⟩
theorem yU{s:bt}:∀{ds:List Dt} {n:Nat} {q:Nat×Nat},iu ds s n=some q→n≤q.1∧∃d c,ds[q.1-n]?=some d∧d.cons[q.2]?=some c∧c.name=s
 |[],n,q,h=>by simp[iu]at h
 |d::r,n,q,h=>by
   simp only[iu]at h;split at h
   ·rename_i k e;cases h;obtain⟨c,h1,h2⟩:=O6 e;exact⟨Nat.le_refl _,d,c,by simp,h1,h2⟩
   ·obtain⟨h1,d',c,h2,h3,h4⟩:=yU h;refine⟨by omega,d',c,?_,h3,h4⟩;rw[show q.1-n=(q.1-(n+1))+1 from by omega];simpa using h2
def nO(d:Dt)(as:List Ar):Bool:=decide (d.cons.map cR.name=as.map dt.cZ)
def nP(ds:List Dt)(as:List Ar):Option Nat:=bM (fun d=>nO d as) ds
def BN:Option Nat→List PV
 |some i=>[vI i,.bool true]
 |none=>[vI 0,.bool false]
theorem O7:SP cR.pv (fun c:cR=>[vI c.pos,.str c.name,.au (c.fields.map Ty.pv)]) 3:=⟨fun _=>rfl,fun _=>rfl,fun _=>by simp⟩
theorem RX:SP Ar.pv Ar.cells 14:=⟨fun _=>rfl,fun x=>f_.len x,fun x=>by simp[Ar.cells,Ex.bm]⟩
theorem uV:∀{cs:List cR} {as:List Ar},lP (fun (c:cR) (a:Ar)=>decide (c.name=a.cZ)) cs as=decide (cs.map cR.name=as.map dt.cZ)
 |[],[]=>by simp[lP]
 |c::cs,a::as=>by simp only[lP,uV (cs:=cs) (as:=as),List.map_cons,List.cons.injEq,Bool.decide_and]
 |[],_::_=>by simp[lP]
 |_::_,[]=>by simp[lP]
theorem RY{sh:Sh}(hq:aL sh){cs:List cR}:Ma (.fn 419 []) sh (fun c:cR=>[vI c.pos,.str c.name,.au (c.fields.map Ty.pv)]) Ar.cells (fun (c:cR) (a:Ar)=>decide (c.name=a.cZ)) cs:=by
 intro x _ y
 have c:(aC AP).i 419 [.pv x.pv,.pv (Ar.pv y)] sh []=some ([.pv (.bool (decide (x.name=y.cZ)))],sh,[]):=by
   rw[aE (af:=g419) rfl (by simp[g419])];by_cases e:x.name=y.cZ<;>simp[g419,hq.norm,e]
 simp at c;simp[Ar.cells,Ex.bm,hq.norm,hq.shift,c]
theorem c418{sh:Sh}(hq:aL sh){cs:List cR}(hS:Sm cs){as:List Ar}:(aC AP).i 418 [.pv (.au (cs.map cR.pv)),.pv (.au (as.map Ar.pv)),.fn 419 []] sh []=some ([.pv (.bool (decide (cs.map cR.name=as.map dt.cZ)))],sh,[]):=by
 rw[←uV];exact Xs O7 RX (z1:=[vI 0,.str [],.au []]) (z2:=[vI 0,.str [],.au [],vI 0,vI 0,.str [],vI 0,.au [],.au [],vI 0,.str [],vI 0,vI 0,.au []]) rfl rfl (m:=418) rfl hS hq rfl (RY hq)
theorem RZ{sh:Sh}(hq:aL sh){as:List Ar}{b:Nat}(hb:sh[b]?=some (some [.pv (.au (as.map Ar.pv))])){ds:List Dt}(hc:∀d∈ds,Sm d.cons):yL (.fn 417 [.aW b 0]) sh Dt.pv (fun d=>nO d as) ds:=by
 intro d hd;have k:=c418 hq (hc d hd) (as:=as)
 have c:(aC AP).i 417 [.pv d.pv,.aW b 0] sh []=some ([.pv (.bool (nO d as))],sh,[]):=by
   rw[aE (af:=g417) rfl (by simp[g417])];simp[-getElem?_pos,g417,hq.norm,hq.shift,hb,k,nO]
 simp at c;simp[hq.norm,hq.shift,c]
theorem c407{ds:List Dt}(hS:Sm ds)(hc:∀d∈ds,Sm d.cons){as:List Ar}:(aC AP).p 407 [.au (ds.map Dt.pv),.au (as.map Ar.pv)]=some (BN (nP ds as)):=by
 have hq:aL [some [AV.pv (.au (as.map Ar.pv))]]:=aL.one (by intro v hv;simp at hv;exact⟨_,hv⟩);have k:=Ue Uc (k:=416) rfl hS hq (g:=417) (cap:=[.aW 0 0]) rfl (RZ hq (b:=0) rfl hc);rw[ae (af:=g407) rfl rfl (by decide)];unfold nP;cases e:bM (fun d=>nO d as) ds with
 |none=>rw[e]at k;simp[kb]at k;simp[g407,k,BN]
 |some i=>rw[e]at k;simp[kb]at k;simp[g407,k,BN]
abbrev Jv:=Int×Int
def fP(f:Jv):PV:=.agg [vI f.1,vI f.2]
@[simp] theorem LD(f:Jv):fP f=.agg [vI f.1,vI f.2]:=rfl
def findF(ds:List Dt):List Ar→Option Jv
 |[]=>none
 |a::r=>match iu ds a.cZ 0 with
   |none=>some (9,a.pos)
   |some _=>findF ds r
noncomputable def uW:List bt→List bt→Bool
 |_,[]=>false
 |p,x::r=>decide (x∈p) || uW (p++[x]) r
noncomputable def BO:List cR→List Ar→Jv
 |c::cs,a::as=>if a.vars.length≠c.fields.length then (8,a.pos) else if uW [] a.vars=true then (6,a.pos) else BO cs as
 |_,_=>(0,0)
noncomputable def nQ(ds:List Dt)(e:Ex):Jv:=match findF ds e.aD with
 |some f=>f
 |none=>match nP ds e.aD with
   |none=>(10,e.pos)
   |some i=>match ds[i]? with
     |some d=>BO d.cons e.aD
     |none=>(0,0)
abbrev m2(f:Jv):List AV:=[.pv (vI f.1),.pv (vI f.2)]
theorem ME{ds:List Dt}{as:List Ar}{i:Nat}(h:nP ds as=some i):∃d,ds[i]?=some d∧as.length=d.cons.length:=by
 unfold nP at h
 have key:∀{l:List Dt} {k:Nat},bM (fun d=>nO d as) l=some k→∃d,l[k]?=some d∧nO d as=true:=by
   intro l;induction l with
   |nil=>intro k h;simp[bM]at h
   |cons x r ih=>
     intro k h;simp only[bM]at h;split at h
     ·rename_i e;cases h;exact⟨x,rfl,e⟩
     · cases h':bM (fun d=>nO d as) r with
       |none=>rw[h']at h;simp at h
       |some k'=>rw[h']at h;simp at h;subst h;simpa using ih h'
 obtain⟨d,h1,h2⟩:=key h;refine⟨d,h1,?_⟩;unfold nO at h2;have:=congrArg List.length (of_decide_eq_true h2);simpa using this.symm
theorem uX:∀{cs:List cR} {as:List Ar},(BO cs as).1=0→BO cs as=(0,0)
 |[],_,_=>by simp[BO]
 |_::_,[],_=>by simp[BO]
 |c::cs,a::as,h=>by
   simp only[BO]at h⊢;split at h
   ·simp at h
   · rename_i h1;rw[if_neg h1];split at h
     ·simp at h
     ·rename_i h2;rw[if_neg h2];exact uX h
theorem Qj{ds:List Dt}(hS:Sm ds)(hc:∀d∈ds,Sm d.cons){e:Ex}(hA:e.aD.length≤1000):∀(n i:Nat),e.aD.length-i=n→i≤e.aD.length →
   cl AP g415L0 ⟨[(0,.pv (.au (ds.map Dt.pv))),(3,.az 3 0),(4,.az 4 0),(17,.pv (.au (e.aD.map Ar.pv))),(18,.pv (vI e.aD.length)),(19,.pv (vI i))],[(3,e.cl),(4,m2 (0,0))],[],[]⟩ =
     match findF ds (e.aD.drop i) with
     |some f=>some (.ret,⟨[(4,.az 4 0)],[(4,m2 f)],[],[]⟩)
     |none=>some (.exit 0,⟨[(0,.pv (.au (ds.map Dt.pv))),(3,.az 3 0),(4,.az 4 0),(17,.pv (.au (e.aD.map Ar.pv))),(18,.pv (vI e.aD.length)),(19,.pv (vI e.aD.length)),(20,.pv (.bool false))],[(3,e.cl),(4,m2 (0,0))],[],[]⟩)
 |0,i,hn,hi=>by
   have:i=e.aD.length:=by omega
   subst this;rw[g415L0e];simp[g415B0,findF]
 |n+1,i,hn,hi=>by
   have hi:i<e.aD.length:=(by omega);obtain⟨a,ha⟩:=aV hi;have ih:=Qj hS hc hA n (i+1) (by omega) (by omega);have k:=c190 hS hc (s:=a.cZ);rw[g415L0e]at ih⊢;rw[bj ha];simp only[findF];simp at ih;cases q:iu ds a.cZ 0 with
   |none=>
     rw[q]at k;simp[rF]at k;simp (disch:=omega) [-getElem?_pos,g415B0,hi,ha,k]
   |some r=>
     rw[q]at k;simp[rF]at k;simp (disch:=omega) [-getElem?_pos,g415B0,hi,ha,k,ah];rw[g415L0e];simp[ih]
@[simp] def Ar.cl(a:Ar):List AV:=.pv (vI a.pos)::.pv (.str a.cZ)::.pv (.au (a.vars.map .str))::a.body.cl
theorem Qk{ds:List Dt}{Cm i:Nat}{as:List Ar}{a:Ar}(hv:a.vars.length≤1000):∀(n k:Nat),a.vars.length-k=n→k≤a.vars.length →
   cl AP g415L2 ⟨[(0,.pv (.au (ds.map Dt.pv))),(4,.az 4 0),(10,.pv (vI Cm)),(13,.az 13 0),(50,.pv (.au (as.map Ar.pv))),(51,.pv (vI as.length)),(52,.pv (vI i)),(75,.pv (.au (a.vars.map .str))),(76,.pv (vI a.vars.length)),(77,.pv (vI k))],[(4,m2 (0,0)),(13,Ar.cl a)],[],[]⟩ =
     if uW (a.vars.take k) (a.vars.drop k)=true then some (.ret,⟨[(4,.az 4 0)],[(4,m2 (6,a.pos))],[],[]⟩)
     else some (.exit 4,⟨[(0,.pv (.au (ds.map Dt.pv))),(4,.az 4 0),(10,.pv (vI Cm)),(13,.az 13 0),(50,.pv (.au (as.map Ar.pv))),(51,.pv (vI as.length)),(52,.pv (vI i)),(75,.pv (.au (a.vars.map .str))),(76,.pv (vI a.vars.length)),(77,.pv (vI a.vars.length)),(78,.pv (.bool false))],[(4,m2 (0,0)),(13,Ar.cl a)],[],[]⟩)
 |0,k,hn,hk=>by
   have:k=a.vars.length:=by omega
   subst this;rw[g415L2e];simp[g415B2,uW]
 |n+1,k,hn,hk=>by
   have hk:k<a.vars.length:=(by omega);obtain⟨x,hx⟩:=aV hk;have ih:=Qk (ds:=ds) (Cm:=Cm) (i:=i) (as:=as) hv n (k+1) (by omega) (by omega);have k1:=c214 (s:=a.vars.take k) (by unfold Sm;simp;omega) (y:=x);have hsl:=UL (sz:=1) (l:=a.vars.map PV.str) (k:=.i64) (h:=k) (by omega) (by simp;omega);simp at hsl;rw[List.map_take]at k1;rw[List.take_add_one,hx]at ih;simp only[Option.toList_some]at ih;rw[g415L2e]at ih⊢;rw[bj hx];simp at ih;by_cases q:x∈a.vars.take k
   ·have hq:uW (a.vars.take k) (x::a.vars.drop (k+1))=true:=(by simp[uW,q]);rw[hq];rw[decide_eq_true q]at k1;simp (disch:=omega) [-getElem?_pos,g415B2,hk,hx,hsl,k1]
   ·have hq:uW (a.vars.take k) (x::a.vars.drop (k+1))=uW (a.vars.take k++[x]) (a.vars.drop (k+1)):=(by simp[uW,q]);rw[hq];rw[decide_eq_false q]at k1;simp (disch:=omega) [-getElem?_pos,g415B2,hk,hx,hsl,k1,ah];rw[g415L2e];simp[ih];by_cases q3:uW (a.vars.take k++[x]) (a.vars.drop (k+1))=true<;>simp[q3]
theorem Ql{ds:List Dt}{Cm:Nat}{d:Dt}(hd:ds[Cm]?=some d){as:List Ar}(hA:as.length≤1000)(hv:∀a∈as,a.vars.length≤1000)(hl:as.length=d.cons.length):∀(n i:Nat),as.length-i=n→i≤as.length →
   cl AP g415L1 ⟨[(0,.pv (.au (ds.map Dt.pv))),(4,.az 4 0),(10,.pv (vI Cm)),(50,.pv (.au (as.map Ar.pv))),(51,.pv (vI as.length)),(52,.pv (vI i))],[(4,m2 (0,0))],[],[]⟩ =
     if (BO (d.cons.drop i) (as.drop i)).1≠0 then some (.ret,⟨[(4,.az 4 0)],[(4,m2 (BO (d.cons.drop i) (as.drop i)))],[],[]⟩)
     else some (.exit 2,⟨[(0,.pv (.au (ds.map Dt.pv))),(4,.az 4 0),(10,.pv (vI Cm)),(50,.pv (.au (as.map Ar.pv))),(51,.pv (vI as.length)),(52,.pv (vI as.length)),(53,.pv (.bool false))],[(4,m2 (0,0))],[],[]⟩)
 |0,i,hn,hi=>by
   have:i=as.length:=by omega
   subst this;rw[g415L1e,mm (l:=d.cons) (by omega),mm (l:=as) (by omega)];simp[g415B1,BO]
 |n+1,i,hn,hi=>by
   have hi:i<as.length:=(by omega);have hi2:i<d.cons.length:=(by omega);have hil:=(List.getElem?_eq_some_iff.1 hd).1;obtain⟨a,ha⟩:=aV hi;obtain⟨c,hc⟩:=aV hi2;have ih:=Ql hd hA hv hl n (i+1) (by omega) (by omega);have h:=Qk (ds:=ds) (Cm:=Cm) (i:=i) (as:=as) (hv a (aR ha)) _ 0 rfl (by omega);rw[List.take_zero,List.drop_zero]at h;rw[g415L2e]at h;rw[g415L1e]at ih⊢;rw[bj ha,bj hc];simp only[BO];simp at ih h;by_cases q:a.vars.length=c.fields.length
   · by_cases q2:uW [] a.vars=true
     ·simp[q2,q]at h;simp (disch:=omega) [-getElem?_pos,g415B1,hi,hi2,hil,ha,hc,hd,q,q2,g415L2e,h]
     ·simp[q2,q]at h;simp (disch:=omega) [-getElem?_pos,g415B1,hi,hi2,hil,ha,hc,hd,q,q2,g415L2e,h,ah];rw[g415L1e];simp[ih]
   ·have q':¬(a.vars.length:Int)=c.fields.length:=(by omega);simp (disch:=omega) [-getElem?_pos,g415B1,hi,hi2,hil,ha,hc,hd,q,q']
theorem c415{ds:List Dt}(hS:Sm ds)(hc:∀d∈ds,Sm d.cons){e:Ex}(hO:e.Ok):(aC AP).p 415 [.au (ds.map Dt.pv),e.pv]=some [fP (nQ ds e)]:=by
 have hA:=hO.a;have h:=Qj hS hc hA _ 0 rfl (by omega);rw[ae (af:=g415) rfl rfl (by decide)];unfold nQ;rw[List.drop_zero]at h;cases q:findF ds e.aD with
 |some f=>
   rw[q]at h;simp at h;simp[g415,h]
 |none=>
   rw[q]at h;simp at h;have k:=c407 hS hc (as:=e.aD);cases q2:nP ds e.aD with
   |none=>
     rw[q2]at k;simp[BN]at k;simp[g415,h,k]
   |some i=>
     rw[q2]at k;simp[BN]at k;obtain⟨d,hd,hl⟩:=ME q2;have h2:=Ql hd hA hO.v hl _ 0 rfl (by omega);rw[List.drop_zero,List.drop_zero]at h2;simp only[hd];by_cases q3:(BO d.cons e.aD).1=0
     ·have:=uX q3;rw[this]at h2⊢;simp at h2;simp[g415,h,k,h2]
     ·simp[q3]at h2;simp[g415,h,k,h2]
theorem c409{a b:List bt}(h:a.length+b.length≤1000000000000):(aC AP).p 409 [.au (a.map .str),.au (b.map .str)]=some [.au ((a++b).map .str)]:=by
 rw[ae (af:=g409) rfl rfl (by decide)];have h1:a.length*16≤140737488355328:=by omega
 have h2:(a.length+b.length)*16≤140737488355328:=by omega
 have h3:b.length*16≤140737488355328:=by omega
 by_cases ha:a=[]
 · subst ha;by_cases hb:b=[]
   ·subst hb;simp[g409]
   ·simp[g409,hb,h3]
 · by_cases hb:b=[]
   ·subst hb;simp[g409,ha,h1]
   ·simp[g409,ha,hb,h1,h2]
inductive Ex.JW (P:Ex→Prop):Ex→Prop
 |mk {e:Ex}:P e→(∀x∈e.ch,Ex.JW P x)→Ex.JW P e
theorem Ex.JW.h{P:Ex→Prop}{e:Ex}(h:e.JW P):P e:=by cases h;assumption
theorem Ex.JW.c{P:Ex→Prop}{e:Ex}(h:e.JW P):∀x∈e.ch,x.JW P:=by cases h;assumption
inductive Ex.uY:Nat→Ex→Prop
 |mk {n:Nat} {e:Ex}:(∀x∈e.ch,Ex.uY n x)→Ex.uY (n+1) e
theorem Ex.uY.c{n:Nat}{e:Ex}(h:Ex.uY (n+1) e):∀x∈e.ch,Ex.uY n x:=by cases h;assumption
noncomputable def iY(ds:List Dt)(names:List bt)(e:Ex):Jv:=
 if e.kind=1 then (if e.name∈names then (0,0) else (9,e.pos))
 else if e.kind=2 then (if (iu ds e.name 0).isSome then (0,0) else (9,e.pos))
 else if e.kind=8 then nQ ds e
 else if e.kind=9 then (if e.ty.formed ds []=0 then (0,0) else (e.ty.formed ds [],e.pos))
 else (0,0)
def zg(f:Nat→Ex→Jv):Nat→List Ex→Jv
 |_,[]=>(0,0)
 |i,x::r=>if (f i x).1≠0 then f i x else zg f (i+1) r
theorem qK{f g:Nat→Ex→Jv}:∀{l:List Ex} {i:Nat},(∀i,∀x∈l,f i x=g i x)→zg f i l=zg g i l
 |[],_,_=>rfl
 |x::r,i,h=>by
   simp only[zg];rw[h i x (by simp),qK (l:=r) fun i y hy=>h i y (by simp[hy])]
theorem Ex.O8{e x:Ex}(h:x∈e.ch):SizeOf.sizeOf x<SizeOf.sizeOf e:=by
 rw[Ex.ch,List.mem_append,List.mem_map]at h;cases e;rcases h with h|⟨a,ha,rfl⟩
 ·have:=_root_.List.sizeOf_lt_of_mem h;simp at *;omega
 ·have:=_root_.List.sizeOf_lt_of_mem ha;have:=dt.qF a;simp at *;omega
open Classical in
noncomputable def Ex.aN(ds:List Dt)(e:Ex)(names:List bt):Jv:=
 if (iY ds names e).1≠0 then iY ds names e
 else zg (fun i x=>if _h:x∈e.ch then Ex.aN ds x (names++fy e i) else (0,0)) 0 e.ch
termination_by e
decreasing_by exact Ex.O8 _h
theorem Ex.yV(ds:List Dt)(e:Ex)(names:List bt):e.aN ds names=if (iY ds names e).1≠0 then iY ds names e else zg (fun i x=>x.aN ds (names++fy e i)) 0 e.ch:=by
 rw[Ex.aN];split
 ·rfl
 ·exact qK fun i x hx=>by rw[dif_pos hx]
theorem Fb{ds:List Dt}{e:Ex}(h:(nQ ds e).1=0):nQ ds e=(0,0):=by
 unfold nQ at h⊢
 have hf:∀{as:List Ar} {f:Jv},findF ds as=some f→f.1=9:=by
   intro as;induction as with
   |nil=>intro f h;simp[findF]at h
   |cons a r ih=>
     intro f h;simp only[findF]at h;split at h
     ·cases h;rfl
     ·exact ih h
 cases q:findF ds e.aD with
 |some f=>rw[q]at h;simp only at h;rw[hf q]at h;cases h
 |none=>
   rw[q]at h;simp only at h⊢;cases q2:nP ds e.aD with
   |none=>rw[q2]at h;simp at h
   |some i=>
     rw[q2]at h;simp only at h⊢;cases q3:ds[i]? with
     |none=>rfl
     |some d=>rw[q3]at h;exact uX h
theorem BP{f:Nat→Ex→Jv}(hf:∀i x,(f i x).1=0→f i x=(0,0)):∀{l:List Ex} {i:Nat},(zg f i l).1=0→zg f i l=(0,0)
 |[],_,_=>rfl
 |x::r,i,h=>by
   simp only[zg]at h⊢;split
   ·rename_i h1;rw[if_pos h1]at h;exact absurd h h1
   ·rename_i h1;rw[if_neg h1]at h;exact BP hf h
theorem MF{ds:List Dt}:∀{e:Ex} {names:List bt},(e.aN ds names).1=0→e.aN ds names=(0,0):=by
 intro e;refine Ex.recC (p:=fun e=>∀{names:List bt},(e.aN ds names).1=0→e.aN ds names=(0,0)) ?_ e;intro e ih names h;rw[Ex.yV]at h⊢;split
 ·rename_i h1;rw[if_pos h1]at h;exact absurd h h1
 · rename_i h1;rw[if_neg h1]at h
   have key:∀{l:List Ex} {i:Nat},(∀x∈l,x∈e.ch)→(zg (fun i x=>x.aN ds (names++fy e i)) i l).1=0→zg (fun i x=>x.aN ds (names++fy e i)) i l=(0,0):=by
     intro l;induction l with
     |nil=>intro i _ _;rfl
     |cons x r ihr=>
       intro i hl h;simp only[zg]at h⊢;split
       ·rename_i h1;rw[if_pos h1]at h;exact absurd h h1
       ·rename_i h1;rw[if_neg h1]at h;exact ihr (fun y hy=>hl y (by simp[hy])) h
   exact key (fun x hx=>hx) h
structure wW(e:Ex):Prop where
 ok:e.Ok
 one:e.One
 cw:e.JW fun x=>x.ty.Cw
theorem wW.c{e x:Ex}(h:wW e)(hx:x∈e.ch):wW x:=⟨h.ok.c x hx,h.one.c x hx,h.cw.c x hx⟩
theorem UX{ds:List Dt}{names:List bt}{e:Ex}(he:wW e)(hn:names.length≤900000000)
   (ih:∀i,∀x∈e.ch,(aC AP).p 405 [.au (ds.map Dt.pv),.au ((names++fy e i).map .str),x.pv]=some [fP (x.aN ds (names++fy e i))]):∀(n i:Nat),e.ch.length-i=n→i≤e.ch.length →
   cl AP g405L0 ⟨[(0,.pv (.au (ds.map Dt.pv))),(1,.pv (.au (names.map .str))),(5,.az 5 0),(6,.az 6 0),(64,.pv (.au (e.ch.map Ex.pv))),(65,.pv (vI e.ch.length)),(66,.pv (vI i))],[(5,e.cl),(6,m2 (0,0))],[],[]⟩ =
     if (zg (fun i x=>x.aN ds (names++fy e i)) i (e.ch.drop i)).1≠0 then some (.ret,⟨[(6,.az 6 0)],[(6,m2 (zg (fun i x=>x.aN ds (names++fy e i)) i (e.ch.drop i)))],[],[]⟩)
     else some (.exit 1,⟨[(0,.pv (.au (ds.map Dt.pv))),(1,.pv (.au (names.map .str))),(5,.az 5 0),(6,.az 6 0),(64,.pv (.au (e.ch.map Ex.pv))),(65,.pv (vI e.ch.length)),(66,.pv (vI e.ch.length)),(67,.pv (.bool false))],[(5,e.cl),(6,m2 (0,0))],[],[]⟩)
 |0,i,hk,hi=>by
   have:i=e.ch.length:=by omega
   subst this;rw[List.drop_length];generalize e.ch=C;rw[g405L0e];simp[g405B0,zg]
 |n+1,i,hk,hi=>by
   have hi:i<e.ch.length:=(by omega);obtain⟨x,hx⟩:=aV hi;have hlen:=Ex.dQ (e:=e);have hk1:=he.ok.k;have hk2:=he.ok.a;have hr:=UX he hn ih n (i+1) (by omega) (by omega);have k1:=c411 hi he.one.h he.ok;have hbl:=pO he.ok (i:=i);have k2:=c409 (a:=names) (b:=fy e i) (by omega);have k3:=ih i x (aR hx);rw[bj hx];simp only[zg];generalize hN:names++fy e i=N at *;generalize hF:x.aN ds N=F at *;generalize hG:zg (fun i x=>x.aN ds (names++fy e i)) (i+1) (e.ch.drop (i+1))=G at *;clear ih;generalize fy e i=B at *;generalize e.ch=C at *;rw[g405L0e]at hr⊢;simp at k1 k2 k3 hr;by_cases q:F.1=0
   ·simp (disch:=omega) [-getElem?_pos,g405B0,hi,hx,k1,k2,k3,q,ah];rw[g405L0e];simp[hr]
   ·simp (disch:=omega) [-getElem?_pos,g405B0,hi,hx,k1,k2,k3,q]
theorem c405{ds:List Dt}(hS:Sm ds)(hc:∀d∈ds,Sm d.cons):∀(n:Nat) {e:Ex},wW e→e.uY n→∀names:List bt,names.length+1000*n≤900000000→(aC AP).p 405 [.au (ds.map Dt.pv),.au (names.map .str),e.pv]=some [fP (e.aN ds names)]
 |0,e,_,hh,_,_=>by cases hh
 |n+1,e,he,hh,names,hl=>by
   have ih:∀i,∀x∈e.ch,(aC AP).p 405 [.au (ds.map Dt.pv),.au ((names++fy e i).map .str),x.pv]=some [fP (x.aN ds (names++fy e i))]:=fun i x hx=>
     c405 hS hc n (he.c hx) (hh.c x hx) _ (by have:=pO he.ok (i:=i);simp;omega)
   have h:=UX he (by omega) ih _ 0 rfl (by omega);have k1:=c414 he.ok;rw[List.drop_zero]at h;rw[Ex.yV];have hz:=BP (f:=fun i x=>x.aN ds (names++fy e i)) (fun i x h=>MF h) (l:=e.ch) (i:=0);clear ih;have k2:=c214 (s:=names) (by unfold Sm;omega) (y:=e.name);have k3:=c190 hS hc (s:=e.name);have k4:=c415 hS hc he.ok;have k5:=c185 hS (l:=[]) (by simp[Sm]) he.ok.t;generalize zg (fun i x=>x.aN ds (names++fy e i)) 0 e.ch=G at *;generalize e.ch=C at *;rw[ae (af:=g405) rfl rfl (by decide)];simp at k1 k2 k3 k4 k5
   have hG:(G=(0,0)∧G.1=0)∨(¬G.1=0):=by
     by_cases q:G.1=0
     ·exact .inl ⟨hz q,q⟩
     ·exact .inr q
   clear hz;generalize hQ:nQ ds e=Q at *;generalize hT:e.ty.formed ds []=T at *;by_cases q1:e.kind=1
   · simp only[q1]at k1;by_cases q2:e.name∈names
     ·rcases hG with⟨rfl,hG⟩|hG<;>simp[hG,q1]at h<;>simp[q2]at k2<;>simp[g405,iY,q1,q2,k1,k2,h,hG]
     ·simp[q2]at k2;simp[g405,iY,q1,q2,k2]
   · by_cases q3:e.kind=2
     · simp only[q3]at k1;cases q4:iu ds e.name 0 with
       |none=>
         rw[q4]at k3;simp[rF]at k3;simp[g405,iY,q3,q4,k3]
       |some r=>
         rw[q4]at k3;simp[rF]at k3;rcases hG with⟨rfl,hG⟩|hG<;>simp[hG,q3]at h<;>simp[g405,iY,q3,q4,k1,k3,h,hG]
     · by_cases q5:e.kind=8
       · simp only[q5]at k1;by_cases q6:Q.1=0
         · have:Q=(0,0):=by rw[←hQ]at q6⊢;exact Fb q6
           subst this;rcases hG with⟨rfl,hG⟩|hG<;>simp[hG,q5]at h<;>simp[q5]at k4<;>simp[g405,iY,q5,hQ,k1,k4,h,hG]
         ·simp[q5]at k4;simp[g405,iY,q5,hQ,k4,q6]
       · by_cases q7:e.kind=9
         · simp only[q7]at k1;by_cases q8:T=0
           ·subst q8;rcases hG with⟨rfl,hG⟩|hG<;>simp[hG,q7]at h<;>simp[g405,iY,q7,hT,k1,k5,h,hG]
           ·simp[g405,iY,q7,hT,k5,q8]
         ·rcases hG with⟨rfl,hG⟩|hG<;>simp[hG]at h<;>simp[g405,iY,q1,q3,q5,q7,k1,h,hG]
inductive Lk:Ex→Ex→Prop
 |mk {e f:Ex}:f.kind=e.kind→f.name=e.name→f.num=e.num→f.ty=e.ty→f.kids.length=e.kids.length→f.aD.map (fun a=>(a.cZ,a.vars))=e.aD.map (fun a=>(a.cZ,a.vars)) →
     (∀(i:Nat) (x y:Ex),e.ch[i]?=some x→f.ch[i]?=some y→Lk x y)→Lk e f
def pP(b:Nat):List AV:=[.pv (vI 0),.pv (vI 0),.pv (.str []),.pv (vI 0),.own [] b,.own [] (b+1),.pv (vI 0),.pv (.str []),.pv (vI 0),.pv (vI 0),.own [] (b+2)]
theorem mH:∀{as:List Ar} {xs:List Ex},xs.length=as.length→(dS as xs).map dt.body=xs
 |[],[],_=>rfl
 |[],_::_,h=>by simp at h
 |_::_,[],h=>by simp at h
 |a::as,x::xs,h=>by simp only[dS,List.map_cons,mH (as:=as) (xs:=xs) (by simpa using h)]
theorem sQ:∀{as:List Ar} {xs:List Ex},(dS as xs).map (fun a=>(a.cZ,a.vars))=as.map (fun a=>(a.cZ,a.vars))
 |[],xs=>by cases xs<;>rfl
 |a::as,[]=>rfl
 |a::as,x::xs=>by simp only[dS,List.map_cons,sQ (as:=as) (xs:=xs)]
theorem uZ{e:Ex}{c:List Ex}(h:c.length=e.kids.length+e.aD.length):(e.kq c).ch=c:=by
 unfold Ex.kq;rw[if_pos h];simp only[Ex.ch];rw[mH (by simp;omega),List.take_append_drop]
theorem Jw{sz n:Nat}{ag:Bool}:Od sz n ag none=none:=rfl
theorem O9{o:Option (List PV)}:py none o=none:=rfl
theorem O_{p:PV}:py (some p) none=none:=rfl
theorem c372{s:dO}{S:List Int}(hs:s.sl.length≤1000000)(ha:JV s.sl)(hO:∀x∈s.sl,x.ty.Ok)(hS:∀x∈s.sl,∀w,iA x.ty w→w∈S)(hf:S.length<1099511627776){t:Ty}(ht:t.Ok)(hw:∀w,iA t w→w∈S) :
   ∃out,(aC AP).p 372 [s.pv,.au [t.pv]]=some [.au (out.map vI)]∧lQ S out∧∀v,RT s.sl t v→¬qJ s.sl v→v∈out:=by
 obtain⟨rk,hr⟩:=ha;obtain⟨N,hN⟩:=iA.bound rk t
 obtain⟨dn',out,P⟩:=LW hr hO hS N t ht hN hw (List.replicate s.sl.length false) [] (by simp) (uK hf) (by
   intro j hj;exfalso;by_cases q:j<s.sl.length
   ·simp[List.getElem?_replicate,q]at hj
   ·simp[List.getElem?_replicate,q]at hj)
 refine⟨out,?_,P.Jt,P.all⟩;have e:=P.pN;have hb:bT (List.replicate s.sl.length false)=List.replicate s.sl.length (.pv (.bool false)):=by simp[bT]
 have hp:=mG (dn:=List.replicate s.sl.length false);have hp':=mG (dn:=dn');unfold RU at e;rw[hb]at e hp;have b1:(s.sl.length:Int)≤9223372036854775807:=by omega
 have b2:(s.sl.length:Int)≤140737488355328:=by omega
 have hn:=hp.norm;have hn':=hp'.norm;have hh:=hp.sh;have hh':=hp'.sh;have hm:=hp.mp;generalize bT dn'=T' at *
 have hfl:(List.replicate s.sl.length [AV.pv (.bool false)]).flatten=List.replicate s.sl.length (.pv (.bool false)):=by
   generalize s.sl.length=n;induction n with
   |zero=>rfl
   |succ n ih=>rw[List.replicate_succ,List.flatten_cons,ih,List.replicate_succ];rfl
 generalize List.replicate s.sl.length (AV.pv (.bool false))=T at *;simp[fX]at e;rw[ae (af:=g372) rfl rfl (by decide)];simp (disch:=omega) [g372,b1,b2,hn,hn',hh,hh',hm,hfl,g372L0e,g372B0,e,ah,Jw,O9,O_,ug]
theorem pQ{k:Int}{t:Ty}:(t.fe k).length≤t.nodes.length:=by
 refine Ty.dF (p:=fun t=>(t.fe k).length≤t.nodes.length) ?_ t;intro t ih;rw[Ty.mu,Ty.aM];split
 ·simp
 · have key:∀l:List Ty,(∀a∈l,(a.fe k).length≤a.nodes.length)→(l.flatMap (Ty.fe k)).length≤(l.flatMap Ty.nodes).length:=by
     intro l;induction l with
     |nil=>intro _;simp
     |cons a r ihr=>
       intro h;have h1:=h a (by simp);have h2:=ihr fun b hb=>h b (by simp[hb])
       simp only[List.flatMap_cons,List.length_append];omega
   have:=key t.args ih;simp only[List.length_cons];omega
theorem mI{k:Int}{t:Ty}:∀x∈t.fe k,x.args=[]:=by
 refine Ty.dF (p:=fun t=>∀x∈t.fe k,x.args=[]) ?_ t;intro t ih x hx;rw[Ty.mu]at hx;split at hx
 ·rename_i q;simp at hx;subst hx;exact List.length_eq_zero_iff.1 q.2
 ·simp only[List.mem_flatMap]at hx;obtain⟨a,ha,hx⟩:=hx;exact ih a ha x hx
theorem c59t{u:Ty}(hu:u.Ok)(hn:u.nodes.length≤4000):∃r:List Ty,(aC AP).p 59 [.au [u.pv]]=some [.au (r.map Ty.pv)]∧Sm r:=by
 have hl:=pQ (k:=3) (t:=u);obtain⟨r,e,h,_⟩:=c59 (S:=u.fe 3) (by omega) (fun x hx=>cI (mI x hx)) (l:=[u]) (by simp[Sm]) (by simpa using hu) (by simp);exact⟨r,e,h⟩
structure Inv(n M:Nat)(S:List Int)(s:dO):Prop where
 len:s.sl.length=n
 NG:s.tr.length+(n+2)*ub s.sl≤M
 ok:∀x∈s.sl,x.ty.Ok
 nj:∀x∈s.sl,∀w,iA x.ty w→w∈S
 MG:JV s.sl
 wf:∀x∈s.sl,x.ty.Kw
theorem mem_set{α:Type}{l:List α}{k:Nat}{x y:α}(h:y∈l.set k x):y=x∨y∈l:=by
 rcases List.mem_or_eq_of_mem_set h with h|h
 ·exact .inr h
 ·exact .inl h
theorem bX{s:dO}{i:Nat}{o x:Sl}:(gX s i o x).sl=s.sl.set i x:=rfl
theorem nk{s:dO}{i:Nat}{o x:Sl}:(gX s i o x).tr.length=s.tr.length+1:=by simp[gX]
theorem yW{s:List Sl}{k:Nat}{o:Sl}(hk:s[k]?=some o)(h:¬qJ s (k:Int)):o.bd=false:=by
 cases e:o.bd with
 |false=>rfl
 |true=>exact absurd ⟨k,o,rfl,hk,e⟩ h
theorem MH{n M:Nat}{S:List Int}{s:dO}(I:Inv n M S s){i j:Nat}{l h l' h':Sl}(hl:s.sl[i]?=some l)(hh:s.sl[j]?=some h)(hij:i≠j)(fi:¬qJ s.sl (i:Int))(fj:¬qJ s.sl (j:Int))
   (hl1:l'.bd=l.bd) (hl2:l'.ty=l.ty) (hh1:h'.bd=true) (hh2:h'.ty=bO i) (hi:(i:Int)∈S) :
   Inv n M S (gX (gX s i l l') j h h')∧ub (gX (gX s i l l') j h h').sl<ub s.sl:=by
 have hj':(gX s i l l').sl[j]?=some h:=by
   rw[bX,List.getElem?_set,if_neg hij,hh]
 have u1:=sP hl hl1;have u2:=yS hj' (yW hh fj) hh1;rw[bX]at u2;have hp:=I.NG;refine⟨⟨by simp[gX,I.len],?_,?_,?_,?_,?_⟩,?_⟩
 · rw[nk,nk];simp only[bX];have:(n+2)*ub s.sl=(n+2)*ub ((s.sl.set i l').set j h')+(n+2):=by rw[←u1,←u2,Nat.mul_add,Nat.mul_one]
   omega
 · intro x hx;simp only[bX]at hx;rcases mem_set hx with rfl|hx
   ·rw[hh2];exact cI rfl
   · rcases mem_set hx with rfl|hx
     ·rw[hl2];exact I.ok l (aR hl)
     ·exact I.ok x hx
 · intro x hx w ho;simp only[bX]at hx;rcases mem_set hx with rfl|hx
   ·rw[hh2]at ho;rw[jT (t:=bO i) rfl ho];exact hi
   · rcases mem_set hx with rfl|hx
     ·rw[hl2]at ho;exact I.nj l (aR hl) w ho
     ·exact I.nj x hx w ho
 · simp only[bX];refine BL (BK I.MG hl hl1 hl2) ?_;intro v ho hv;rw[hh2]at ho;have e:=jT (t:=bO i) rfl ho;have e2:v=(i:Int):=e;subst e2
   have fi':¬qJ (s.sl.set i l') (i:Int):=by
     rintro⟨k,x,q,hx,hb⟩
     have:k=i:=by omega
     subst this;have hlt:k<s.sl.length:=by obtain⟨h,_⟩:=List.getElem?_eq_some_iff.1 hl;exact h
     rw[List.getElem?_set,if_pos rfl,if_pos hlt]at hx;cases hx;rw[hl1,yW hl fi]at hb;cases hb
   have:=uT hv fi';omega
 · intro x hx;simp only[bX]at hx;rcases mem_set hx with rfl|hx
   ·rw[hh2];exact⟨by simp[bO],by simp[bO],by simp[bO]⟩
   · rcases mem_set hx with rfl|hx
     ·rw[hl2];exact I.wf l (aR hl)
     ·exact I.wf x hx
 ·simp only[bX];omega
theorem Inv.NH{n M:Nat}{S:List Int}{s:dO}(I:Inv n M S s):s.Ok n (M+10):=⟨by rw[I.len];omega,by have:=I.NG;have:0≤(n+2)*ub s.sl:=Nat.zero_le _;omega,I.ok⟩
theorem Inv.WL{n M:Nat}{S:List Int}{s:dO}(I:Inv n M S s){i:Nat}{o x:Sl}(hx:x.ty.Ok):(gX s i o x).Ok n (M+10):=⟨by rw[bX,List.length_set,I.len];omega,by rw[nk];have:=I.NG;have:0≤(n+2)*ub s.sl:=Nat.zero_le _;omega,by
 intro y hy;rw[bX]at hy;rcases mem_set hy with rfl|hy
 ·exact hx
 ·exact I.ok y hy⟩
theorem c397{n M:Nat}{S:List Int}{s:dO}(I:Inv n M S s)(hn:n≤1000000)(hM:M≤100000000){x y:Ty}{i j:Nat}(hxi:x.id=i)(hyj:y.id=j)(hi:i<n)(hj:j<n)(fi:¬qJ s.sl (i:Int))(fj:¬qJ s.sl (j:Int))(hiS:(i:Int)∈S)(hjS:(j:Int)∈S) :
   ∃s',(aC AP).p 397 [s.pv,x.pv,y.pv]=some [s'.pv]∧Inv n M S s'∧(s'=s∨ub s'.sl<ub s.sl):=by
 by_cases hij:i=j
 · refine⟨s,?_,I,.inl rfl⟩;have h2:x.id=y.id:=by rw[hxi,hyj,hij]
   rw[ae (af:=g397) rfl rfl (by decide)];simp[g397,h2]
 · have hne:¬(i:Int)=j:=(by omega);obtain⟨a,ha⟩:=aV (l:=s.sl) (i:=min i j) (by rw[I.len];omega);obtain⟨b,hb⟩:=aV (l:=s.sl) (i:=max i j) (by rw[I.len];omega);have hab:min i j≠max i j:=by omega
   have fa:¬qJ s.sl ((min i j:Nat):Int):=by
     by_cases q:i≤j
     ·rw[Nat.min_eq_left q];exact fi
     ·rw[Nat.min_eq_right (by omega)];exact fj
   have fb:¬qJ s.sl ((max i j:Nat):Int):=by
     by_cases q:i≤j
     ·rw[Nat.max_eq_right q];exact fj
     ·rw[Nat.max_eq_left (by omega)];exact fi
   have haS:((min i j:Nat):Int)∈S:=by
     by_cases q:i≤j
     ·rw[Nat.min_eq_left q];exact hiS
     ·rw[Nat.min_eq_right (by omega)];exact hjS
   have hmin:(if j<i then (j:Int) else (i:Int))=((min i j:Nat):Int):=by split<;>omega
   have hmax:(if i<j then (j:Int) else (i:Int))=((max i j:Nat):Int):=by split<;>omega
   have hlo:min i j<s.sl.length:=(by rw[I.len];omega);have hhi:max i j<s.sl.length:=(by rw[I.len];omega);generalize min i j=p at *;generalize max i j=q at *;have k0:=c63 (n:=p);let a':Sl:=⟨a.bd,a.ty,if b.home<a.home then b.home else a.home,a.base || b.base⟩;let b':Sl:=⟨true,bO p,b.home,b.base⟩;have aO:a'.ty.Ok:=I.ok a (aR ha);have k1:=c393 I.NH (by omega) (by omega) ha a';have hb1:(gX s p a a').sl[q]?=some b:=(by rw[bX,List.getElem?_set,if_neg hab,hb]);have k2:=c393 (I.WL (i:=p) (o:=a) aO) (by omega) (by omega) hb1 b';obtain⟨J,hu⟩:=MH I (l':=a') (h':=b') ha hb hab fa fb rfl rfl rfl rfl haS;refine⟨gX (gX s p a a') q b b',?_,J,.inr hu⟩;generalize gX (gX s p a a') q b b'=s2 at *;generalize gX s p a a'=s1 at *;simp[a',b',bO]at k0 k1 k2;rw[ae (af:=g397) rfl rfl (by decide)];cases hab1:a.base
   ·simp[hab1]at k1;simp (disch:=omega) [-getElem?_pos,g397,hxi,hyj,hne,hmin,hmax,ha,hb,hlo,hhi,k0,k1,k2,hab1]
   ·simp[hab1]at k1;simp (disch:=omega) [-getElem?_pos,g397,hxi,hyj,hne,hmin,hmax,ha,hb,hlo,hhi,k0,k1,k2,hab1]
end Go.Ab.Lw
