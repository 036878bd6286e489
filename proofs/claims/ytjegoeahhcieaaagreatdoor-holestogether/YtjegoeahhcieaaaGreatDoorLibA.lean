import Derived.Test.YtjegoeahhcieaaaGreatDoorCodeA
import Derived.KernelRfl
/-
  The program's data.
  The makers: what their functions Kl.
  The makers: what their functions Kl.
  The data declarations that programs are made of: what the reader makes of their text.
  The makers: data declarations, chosen by bits.
  The makers: types and substitutions off the tape.
  Types and substitutions: what replaces variables.
  Types: rebuilding with new leaves.
  Types and substitutions: the program's replacing, finding, composing.
  Substitutions: composing; equality of types and of substitutions.
  Chapter 13: the plain laws, and the law that composition composes.
  Chapter 13: equality of substitutions; the laws SubstAssociates and SubstEqual.
  Functions of package slices over any elements.
  Ranges over a slice backward.
  Names, and which types are valid.
  Contexts: their entries; looking names up.
  What the pure data of a parameter looks RW.
  Chapter 3: what its laws make; the laws TypesValid and TypesEqual.
  The variables of types, by the program and by the reference.
  The reference's variables of types; they are the program's.
  Contexts: schemes, adding, hidden entries; what law 19 makes.
  Law 19 makes contexts; the law EnvironLooks.
  The maker of types over any list of data types.
  Correct types in declarations.
  Expressions.
  The reference's store of type variables: what it looks RW, bound variables, walks.
  The reference's store: sizes and resolved types.
  The reference's store: resolving, new variables, changes.
  slices.DeleteFunc over an array of texts that may be written.
  Arrays of structs in shared memory: their cells one behind the other.
  Chapter 13: valid and idempotent substitutions.
  The reference's store: a slot is set.
  The reference's unifier: arrows, rigid constants, variables of a store, joining.
  The reference's store: acyclic stores.
  The reference's store: a finder Mq.
  The reference's store: a finder finds every variable that is reached and not bound.
  Expressions: children, the part at a path, and the names that are bound.
  The names that are visible at a path.
  Chapter 9: where a constructor is.
  Scopes: to which declaration aY belong.
  Scopes: the errors of a case itself, by the reference.
  Scopes: the first error of an expression.
  Positions are numbered.
  The reference's store: the variables of a type.
  Chapter 3: opening.
  Contexts: their free variables; the law EnvironSeen.
  Types by the kinds of their nodes.
  The reference's unifier: joining two variables.
  The reference's unifier: joining two variables, the walk.
  The reference's unifier: binding a variable, the loops.
  The reference's unifier: binding a variable.
  The reference's unifier: binding a variable, the walk.
  The reference's unifier: ends of walks, the loop over the arguments.
  The reference's unifier.
  The reference's unifier, from outside; marking a variable.
  The search's reference: a variable is marked; new variables aV a store fit.
  The maker of raw expressions.
  The reference's inference: the machine, derivations, new variables, equations, records.
  Chapter 9: written type variables become quantified ones.
  Chapter 9: the names of written type variables.
  Chapter 9: what its laws make.
  Chapter 9: declarations off the tape.
  Chapter 9: the scheme of a constructor.
  Chapter 9: the first error of a list of declarations, by the program.
  Chapter 9: the first error of a list of declarations, by the reference.
  Chapter 9: Check by the reference: the fields.
  The law DeclareFinds.
  The law DeclareFields.
  Chapter 9: what a correct list of declarations is.
  The law EnvironSeen.
  Valid schemes: the program's and the reference's answers are one.
  Closing and mono, by the program.
  Signatures of the reference.
  The maker of programs: small parts, 2.
  The maker of programs: the scheme of a let.
  The maker of programs: does an expression have a part of a kind?
  The search's reference: canonical variables.
  The search's reference: a scheme under a substitution; the beginning of a store.
  The search's reference: the beginning of a store, new variables.
  The search's reference: the beginning of a store.
-/
set_option linter.unusedVariables false
set_option linter.unusedSimpArgs false
set_option linter.unnecessarySimpa false
set_option maxRecDepth 100000
set_option maxHeartbeats 8000000
namespace Go.Ab.Lw
structure Ty where
 kind:Int
 name:List UInt8
 id:Int
 home:Int
 args:List Ty
 deriving Inhabited
noncomputable instance:DecidableEq Ty:=fun _ _=>Classical.propDecidable _
mutual
def Ty.pv:Ty→PV
 |⟨k,n,i,h,as⟩=>.agg [.int .i64 k,.str n,.int .i64 i,.int .i64 h,.aw (Ty.cz as)]
def Ty.cz:List Ty→List PV
 |[]=>[]
 |a::r=>a.pv::Ty.cz r
end
theorem Ty.j8:∀l:List Ty,Ty.cz l=l.map Ty.pv
 |[]=>by simp[Ty.cz]
 |a::r=>by simp[Ty.cz,Ty.j8 r]
@[simp] theorem Ty.jD(t:Ty):t.pv=.agg [.int .i64 t.kind,.str t.name,.int .i64 t.id,.int .i64 t.home,.aw (t.args.map Ty.pv)]:=by
 cases t;simp only[Ty.pv,Ty.j8]
theorem Ty.dJ{p:Ty→Prop}(h:∀t:Ty,(∀x∈t.args,p x)→p t):∀t,p t
 |⟨k,n,i,hm,as⟩=>h _ (fun x _hx=>Ty.dJ h x)
termination_by t=>SizeOf.sizeOf t
decreasing_by have:=_root_.List.sizeOf_lt_of_mem _hx;simp at *;omega
structure mG where
 pos:Int
 name:List UInt8
 fields:List Ty
 deriving Inhabited
structure Dt where
 pos:Int
 name:List UInt8
 params:List (List UInt8)
 cons:List mG
 deriving Inhabited
def mG.pv(c:mG):PV:=.agg [.int .i64 c.pos,.str c.name,.aw (c.fields.map Ty.pv)]
def Dt.pv(d:Dt):PV:=.agg [.int .i64 d.pos,.str d.name,.aw (d.params.map .str),.aw (d.cons.map mG.pv)]
@[simp] theorem mG.jD(c:mG):c.pv=.agg [.int .i64 c.pos,.str c.name,.aw (c.fields.map Ty.pv)]:=rfl
@[simp] theorem Dt.jD(d:Dt):d.pv=.agg [.int .i64 d.pos,.str d.name,.aw (d.params.map .str),.aw (d.cons.map mG.pv)]:=rfl
structure As where
 id:Int
 ty:Ty
 deriving Inhabited
def As.pv(a:As):PV:=.agg [.int .i64 a.id,.int .i64 a.ty.kind,.str a.ty.name,.int .i64 a.ty.id,.int .i64 a.ty.home,.aw (a.ty.args.map Ty.pv)]
@[simp] theorem As.jD(a:As):a.pv=.agg [.int .i64 a.id,.int .i64 a.ty.kind,.str a.ty.name,.int .i64 a.ty.id,.int .i64 a.ty.home,.aw (a.ty.args.map Ty.pv)]:=rfl
@[simp] theorem As.eta(t:As):As.mk t.id t.ty=t:=rfl
abbrev vI(n:Int):PV:=.int .i64 n
def tp(L:List Int)(i:Int):Sh:=[some [.pv (.aw (L.map vI)),.pv (vI i)]]
@[simp] theorem WW(L:List Int)(i:Int):tp L i=[some [.pv (.aw (L.map vI)),.pv (vI i)]]:=rfl
def Sm{α:Type}(l:List α):Prop:=l.length<1099511627776
@[simp] theorem Wt(n:Nat):((n:Int)<0)↔False:=by simp
@[simp] theorem V7(n:Nat):((n:Int)+1<0)↔False:=by simp;omega
theorem bl{α:Type}{l:List α}{i:Nat}{x:α}(h:l[i]?=some x):l.drop i=x::l.drop (i+1):=by
 obtain⟨hi,rfl⟩:=List.getElem?_eq_some_iff.1 h;exact List.drop_eq_getElem_cons hi
theorem aP{α:Type}{l:List α}{i:Nat}(h:i<l.length):∃x,l[i]?=some x:=⟨_,List.getElem?_eq_getElem h⟩
theorem aQ{α:Type}{l:List α}{i:Nat}{x:α}(h:l[i]?=some x):x∈l:=List.mem_of_getElem? h
theorem Qg{α:Type}{l:List α}{i:Nat}(h:l.length≤i):l.drop i=[]:=List.drop_eq_nil_of_le h
open Ev
theorem c26{n m:Int}(h1:1≤m)(h2:m<4611686018427387904):∃r,(aF AP).p 26 [vI n,vI m]=some [vI r]∧0≤r∧r<m:=by
 rw[ah (af:=g26) rfl rfl (by decide)];have a1:=Int.tmod_lt_of_pos n (show 0<m by omega);have a2:=Int.lt_tmod_of_pos n (show 0<m by omega);have e1:¬m<1:=by omega
 have e2:¬m=0:=by omega
 by_cases h:n.tmod m<0
 ·refine⟨n.tmod m+m,?_,by omega,by omega⟩;simp (disch:=omega) [g26,e1,e2,h,aq]
 ·refine⟨n.tmod m,?_,by omega,by omega⟩;simp[g26,e1,e2,h]
theorem c63{n:Int}:(aF AP).p 63 [vI n]=some [(Ty.mk 1 [] n 0 []).pv]:=by
 rw[ah (af:=g63) rfl rfl (by decide)];simp[g63]
theorem c71{n m:Int}:(aF AP).p 71 [vI n,vI m]=some [(Ty.mk 3 [] m n []).pv]:=by
 rw[ah (af:=g71) rfl rfl (by decide)];simp[g71]
theorem c72{n:Int}:(aF AP).p 72 [vI n]=some [(Ty.mk 2 [] n 0 []).pv]:=by
 rw[ah (af:=g72) rfl rfl (by decide)];simp[g72]
theorem c62{s:List UInt8}{l:List Ty}(h:Sm l):(aF AP).p 62 [.str s,.aw (l.map Ty.pv)]=some [(Ty.mk 4 s 0 0 l).pv]:=by
 unfold Sm at h;rw[ah (af:=g62) rfl rfl (by decide)];cases l with
 |nil=>simp[g62]
 |cons a r=>
   have:(r.length+1)*64≤140737488355328:=by simp at h;omega
   simp[g62,this]
theorem c34:(aF AP).p 34 []=some [(Ty.mk 4 [73,110,116] 0 0 []).pv]:=by
 rw[ah (af:=g34) rfl rfl (by decide)];have h:=c62 (s:=[73,110,116]) (l:=[]) (by simp[Sm]);simp at h;simp[g34,h]
theorem c69{a b:Ty}:(aF AP).p 69 [a.pv,b.pv]=some [(Ty.mk 4 [45,62] 0 0 [a,b]).pv]:=by
 rw[ah (af:=g69) rfl rfl (by decide)];have h:=c62 (s:=[45,62]) (l:=[a,b]) (by simp[Sm]);simp at h;simp[g69,h]
theorem c15{l:List Int}:(aF AP).p 15 [.aw (l.map vI)]=some [.bool (decide (l.length≤60))]:=by
 rw[ah (af:=g15) rfl rfl (by decide)];simp[g15];omega
def Calm(sh:Sh):Prop:=∀aN ts,cg aN ts sh=(sh,aN,ts)
theorem F4{L:List Int}{i:Int}:Calm (tp L i):=fun _ _=>rfl
def aK(n:Int):Ty:=⟨1,[],n,0,[]⟩
def dm(h n:Int):Ty:=⟨3,[],n,h,[]⟩
def br(n:Int):Ty:=⟨2,[],n,0,[]⟩
def bj:Ty:=⟨4,[73,110,116],0,0,[]⟩
theorem c70_4{sh:Sh}(h:Calm sh):(aF AP).i 70 [.pv (vI 4)] sh []=some ([.own ([aK 0,aK 1,aK 2,aK 3].map Ty.pv) 0],sh,[4]):=by
 have hh:=h;unfold Calm at h;rw[aB (af:=g70) rfl (by decide)];have c0:=c63 (n:=0);have c1:=c63 (n:=1);have c2:=c63 (n:=2);have c3:=c63 (n:=3);simp at c0 c1 c2 c3;simp (disch:=omega) [-getElem?_pos,g70,g70L0e,g70B0,aq,c0,c1,c2,c3,h,aK]
def lG:List Ty:=[aK 0,aK 1,aK 2,aK 3,dm 0 0,dm 1 0,dm (-1) 2,br 0]
def Uz:List UInt8:=[100,97,116,97,32,66,111,111,108,32,61,32,84,114,117,101,32,124,32,70,97,108,115,101,59,32,100,97,116,97,32,79,112,116,105,111,110,32,97,32,61,32,78,111,110,101,32,124,32,83,111,109,101,32,97,59,32,100,97,116,97,32,76,105,115,116,32,97,32,61,32,78,105,108,32,124,32,67,111,110,115,32,97,32,40,76,105,115,116,32,97,41,59,100,97,116,97,32,80,97,105,114,32,97,32,98,32,61,32,80,97,105,114,32,97,32,98,59,32,100,97,116,97,32,78,97,116,32,61,32,90,101,114,111,32,124,32,83,117,99,99,32,78,97,116,59,32,100,97,116,97,32,70,117,110,32,97,32,98,32,61,32,70,117,110,32,40,97,32,45,62,32,98,41,59,32,100,97,116,97,32,84,119,111,32,97,32,61,32,66,111,116,104,32,97,32,97,32,124,32,79,110,101,32,40,79,112,116,105,111,110,32,97,41,59]
def Qh:List PV:=[.aw [.agg [.int .i64 4,.str [100,97,116,97],.int .i64 0],.agg [.int .i64 2,.str [66,111,111,108],.int .i64 5],.agg [.int .i64 5,.str [61],.int .i64 10],.agg [.int .i64 2,.str [84,114,117,101],.int .i64 12],.agg [.int .i64 5,.str [124],.int .i64 17],.agg [.int .i64 2,.str [70,97,108,115,101],.int .i64 19],.agg [.int .i64 5,.str [59],.int .i64 24],.agg [.int .i64 4,.str [100,97,116,97],.int .i64 26],.agg [.int .i64 2,.str [79,112,116,105,111,110],.int .i64 31],.agg [.int .i64 1,.str [97],.int .i64 38],.agg [.int .i64 5,.str [61],.int .i64 40],.agg [.int .i64 2,.str [78,111,110,101],.int .i64 42],.agg [.int .i64 5,.str [124],.int .i64 47],.agg [.int .i64 2,.str [83,111,109,101],.int .i64 49],.agg [.int .i64 1,.str [97],.int .i64 54],.agg [.int .i64 5,.str [59],.int .i64 55],.agg [.int .i64 4,.str [100,97,116,97],.int .i64 57],.agg [.int .i64 2,.str [76,105,115,116],.int .i64 62],.agg [.int .i64 1,.str [97],.int .i64 67],.agg [.int .i64 5,.str [61],.int .i64 69],.agg [.int .i64 2,.str [78,105,108],.int .i64 71],.agg [.int .i64 5,.str [124],.int .i64 75],.agg [.int .i64 2,.str [67,111,110,115],.int .i64 77],.agg [.int .i64 1,.str [97],.int .i64 82],.agg [.int .i64 5,.str [40],.int .i64 84],.agg [.int .i64 2,.str [76,105,115,116],.int .i64 85],.agg [.int .i64 1,.str [97],.int .i64 90],.agg [.int .i64 5,.str [41],.int .i64 91],.agg [.int .i64 5,.str [59],.int .i64 92],.agg [.int .i64 4,.str [100,97,116,97],.int .i64 93],.agg [.int .i64 2,.str [80,97,105,114],.int .i64 98],.agg [.int .i64 1,.str [97],.int .i64 103],.agg [.int .i64 1,.str [98],.int .i64 105],.agg [.int .i64 5,.str [61],.int .i64 107],.agg [.int .i64 2,.str [80,97,105,114],.int .i64 109],.agg [.int .i64 1,.str [97],.int .i64 114],.agg [.int .i64 1,.str [98],.int .i64 116],.agg [.int .i64 5,.str [59],.int .i64 117],.agg [.int .i64 4,.str [100,97,116,97],.int .i64 119],.agg [.int .i64 2,.str [78,97,116],.int .i64 124],.agg [.int .i64 5,.str [61],.int .i64 128],.agg [.int .i64 2,.str [90,101,114,111],.int .i64 130],.agg [.int .i64 5,.str [124],.int .i64 135],.agg [.int .i64 2,.str [83,117,99,99],.int .i64 137],.agg [.int .i64 2,.str [78,97,116],.int .i64 142],.agg [.int .i64 5,.str [59],.int .i64 145],.agg [.int .i64 4,.str [100,97,116,97],.int .i64 147],.agg [.int .i64 2,.str [70,117,110],.int .i64 152],.agg [.int .i64 1,.str [97],.int .i64 156],.agg [.int .i64 1,.str [98],.int .i64 158],.agg [.int .i64 5,.str [61],.int .i64 160],.agg [.int .i64 2,.str [70,117,110],.int .i64 162],.agg [.int .i64 5,.str [40],.int .i64 166],.agg [.int .i64 1,.str [97],.int .i64 167],.agg [.int .i64 5,.str [45,62],.int .i64 169],.agg [.int .i64 1,.str [98],.int .i64 172],.agg [.int .i64 5,.str [41],.int .i64 173],.agg [.int .i64 5,.str [59],.int .i64 174],.agg [.int .i64 4,.str [100,97,116,97],.int .i64 176],.agg [.int .i64 2,.str [84,119,111],.int .i64 181],.agg [.int .i64 1,.str [97],.int .i64 185],.agg [.int .i64 5,.str [61],.int .i64 187],.agg [.int .i64 2,.str [66,111,116,104],.int .i64 189],.agg [.int .i64 1,.str [97],.int .i64 194],.agg [.int .i64 1,.str [97],.int .i64 196],.agg [.int .i64 5,.str [124],.int .i64 198],.agg [.int .i64 2,.str [79,110,101],.int .i64 200],.agg [.int .i64 5,.str [40],.int .i64 204],.agg [.int .i64 2,.str [79,112,116,105,111,110],.int .i64 205],.agg [.int .i64 1,.str [97],.int .i64 212],.agg [.int .i64 5,.str [41],.int .i64 213],.agg [.int .i64 5,.str [59],.int .i64 214]],.agg [.int .i64 0,.int .i64 0]]
def cq:List Dt:=[⟨0,[66,111,111,108],[],[⟨12,[84,114,117,101],[]⟩,⟨19,[70,97,108,115,101],[]⟩]⟩,
 ⟨26,[79,112,116,105,111,110],[[97]],[⟨42,[78,111,110,101],[]⟩,⟨49,[83,111,109,101],[⟨5,[97],0,0,[]⟩]⟩]⟩,
 ⟨57,[76,105,115,116],[[97]],[⟨71,[78,105,108],[]⟩,⟨77,[67,111,110,115],[⟨5,[97],0,0,[]⟩,⟨4,[76,105,115,116],0,0,[⟨5,[97],0,0,[]⟩]⟩]⟩]⟩,
 ⟨93,[80,97,105,114],[[97],[98]],[⟨109,[80,97,105,114],[⟨5,[97],0,0,[]⟩,⟨5,[98],0,0,[]⟩]⟩]⟩,
 ⟨119,[78,97,116],[],[⟨130,[90,101,114,111],[]⟩,⟨137,[83,117,99,99],[⟨4,[78,97,116],0,0,[]⟩]⟩]⟩,
 ⟨147,[70,117,110],[[97],[98]],[⟨162,[70,117,110],[⟨4,[45,62],0,0,[⟨5,[97],0,0,[]⟩,⟨5,[98],0,0,[]⟩]⟩]⟩]⟩,
 ⟨176,[84,119,111],[[97]],[⟨189,[66,111,116,104],[⟨5,[97],0,0,[]⟩,⟨5,[97],0,0,[]⟩]⟩,⟨200,[79,110,101],[⟨4,[79,112,116,105,111,110],0,0,[⟨5,[97],0,0,[]⟩]⟩]⟩]⟩]
theorem UA:(aF AP).p 118 [.str Uz]=some Qh:=Fc.Uy (k:=400) (n:=20) (by kernel_rfl)
def WX(g:Nat)(x:List PV):Option (List PV):=match g,x with
 |118,[.str s]=>if s=Uz then some Qh else none
 |_,_=>none
theorem SB:∀g x r,WX g x=some r→(aF AP).p g x=some r:=by
 intro g x r h;unfold WX at h;split at h
 · split at h
   ·rename_i e;subst e;cases h;exact UA
   ·cases h
 ·cases h
theorem c79:(aF AP).p 79 []=some [.aw (cq.map Dt.pv)]:=Fc.Qf (k:=400) (n:=40) SB (by kernel_rfl)
@[simp] theorem TD{l:List Dt}:a_ 4 (l.map Dt.pv)=true:=by cases l<;>simp
@[simp] theorem TE{l:List Ty}:a_ 5 (l.map Ty.pv)=true:=by cases l<;>simp
@[simp] theorem TF{l:List As}:a_ 6 (l.map As.pv)=true:=by cases l<;>simp
theorem Mr{n:Int}(h1:0≤n)(h2:n<18446744073709551616):IntKind.u64.wrap n=n:=by
 simp[IntKind.wrap,IntKind.bits,IntKind.signed];omega
def UB(bits:Int)(ds:List Dt):Option (aU×St):=
 some (.exit 0,⟨[(0,.pv (vI bits)),(3,.pv (.aw (cq.map Dt.pv))),(4,.own (ds.map Dt.pv) 0),(5,.pv (vI 7)),(24,.pv (.bool false))],[],[],[ds.length]⟩)
theorem V8(bits:Int):∀(n i:Nat),7-i=n→i≤7→∀acc:List Dt,(∀d∈acc,d∈cq)→acc.length≤1+i →
   ∃ds:List Dt,cl AP g32L0 ⟨[(0,.pv (vI bits)),(3,.pv (.aw (cq.map Dt.pv))),(4,.own (acc.map Dt.pv) 0),(5,.pv (vI i))],[],[],[acc.length]⟩=UB bits ds ∧
     (∀d∈ds,d∈cq)∧ds.length≤8
 |0,i,hn,hi,acc,ha,hl=>by
   have:i=7:=by omega
   subst this;refine⟨acc,?_,ha,by omega⟩;rw[g32L0e];have h7:cq.length=7:=rfl;simp[g32B0,h7,UB]
 |n+1,i,hn,hi,acc,ha,hl=>by
   have h7:cq.length=7:=rfl;have hi:i<7:=(by omega);obtain⟨x,hx⟩:=aP (l:=cq) (i:=i) (by omega);have hb:(acc.length+1)*72≤140737488355328:=by omega
   obtain⟨d1,e1,m1,l1⟩:=V8 bits n (i+1) (by omega) (by omega) (acc++[x]) (by
     intro d hd;simp at hd;rcases hd with hd|rfl
     ·exact ha d hd
     ·exact aQ hx) (by simp;omega)
   obtain⟨d2,e2,m2,l2⟩:=V8 bits n (i+1) (by omega) (by omega) acc ha (by omega);simp at e1 e2;have hi':(i:Int)<7:=by omega
   have key:∀S,S=cl AP g32L0 ⟨[(0,.pv (vI bits)),(3,.pv (.aw (cq.map Dt.pv))),(4,.own (acc.map Dt.pv) 0),(5,.pv (vI i))],[],[],[acc.length]⟩→S=UB bits d1∨S=UB bits d2:=by
     intro S hS;rw[g32L0e]at hS;simp (disch:=omega) [-getElem?_pos,g32B0,h7,hi',hx,aq,Mr,hb,e1,e2]at hS;subst hS
     (repeat' split)<;>simp
   rcases key _ rfl with h|h
   ·exact⟨d1,h,m1,l1⟩
   ·exact⟨d2,h,m2,l2⟩
theorem c32(bits:Int):∃ds:List Dt,(aF AP).p 32 [vI bits]=some [.aw (ds.map Dt.pv)]∧(∀d∈ds,d∈cq)∧ds.length≤8:=by
 have hp:=c79;have h7:cq.length=7:=rfl;obtain⟨x,hx⟩:=aP (l:=cq) (i:=1) (by decide);obtain⟨d1,e1,m1,l1⟩:=V8 bits 7 0 rfl (by omega) [x] (by intro d hd;simp at hd;subst hd;exact aQ hx) (by simp);obtain⟨d2,e2,m2,l2⟩:=V8 bits 7 0 rfl (by omega) [] (by simp) (by simp);rw[g32L0e]at e1 e2;simp at e1 e2
 have key:∀S,S=(aF AP).p 32 [vI bits]→S=some [.aw (d1.map Dt.pv)]∨S=some [.aw (d2.map Dt.pv)]:=by
   intro S hS;rw[ah (af:=g32) rfl rfl (by decide)]at hS;simp[-getElem?_pos,g32,hp,g32L0e,hx,e1,e2,UB]at hS;subst hS
   (repeat' split)<;>simp
 rcases key _ rfl with h|h
 ·exact⟨d1,h,m1,l1⟩
 ·exact⟨d2,h,m2,l2⟩
def Ty.av(t:Ty):AV:=.agg [.pv (vI t.kind),.pv (.str t.name),.pv (vI t.id),.pv (vI t.home),.pv (.aw (t.args.map Ty.pv))]
@[simp] theorem Ty.WY(t:Ty):t.av=.agg [.pv (vI t.kind),.pv (.str t.name),.pv (vI t.id),.pv (vI t.home),.pv (.aw (t.args.map Ty.pv))]:=rfl
theorem yn{r:Int}{n:Nat}(h0:0≤r)(h1:r<n):∃m:Nat,r=m∧m<n:=⟨r.toNat,by omega,by omega⟩
inductive Ty.Ok:Ty→Prop
 |mk {t:Ty}:Sm t.args→(∀x∈t.args,Ty.Ok x)→Ty.Ok t
theorem Ty.Ok.sm{t:Ty}(h:t.Ok):Sm t.args:=by cases h;assumption
theorem Ty.Ok.gh{t:Ty}(h:t.Ok):∀x∈t.args,x.Ok:=by cases h;assumption
inductive Ty.Wf:Ty→Prop
 |mk {t:Ty}:(t.kind=1→t.args=[])→(∀x∈t.args,Ty.Wf x)→Ty.Wf t
theorem Ty.Wf.var{t:Ty}(h:t.Wf):t.kind=1→t.args=[]:=by cases h;assumption
theorem Ty.Wf.gh{t:Ty}(h:t.Wf):∀x∈t.args,x.Wf:=by cases h;assumption
def iQ:List As→Int→Option Ty
 |[],_=>none
 |a::r,id=>if a.id=id then some a.ty else iQ r id
mutual
def Ty.sub(s:List As):Ty→Ty
 |⟨k,n,i,h,as⟩=>if k=1 then (iQ s i).getD ⟨k,n,i,h,as⟩ else ⟨k,n,i,h,Ty.Ms s as⟩
def Ty.Ms(s:List As):List Ty→List Ty
 |[]=>[]
 |a::r=>a.sub s::Ty.Ms s r
end
theorem Ty.Bt(s:List As):∀l:List Ty,Ty.Ms s l=l.map (Ty.sub s)
 |[]=>by simp[Ty.Ms]
 |a::r=>by simp[Ty.Ms,Ty.Bt s r]
theorem Ty.sub_eq(s:List As)(t:Ty):t.sub s=if t.kind=1 then (iQ s t.id).getD t else ⟨t.kind,t.name,t.id,t.home,t.args.map (Ty.sub s)⟩:=by
 cases t;simp only[Ty.sub,Ty.Bt]
def Mu(s:List As)(t:Ty):Option Ty→Option (aU×St)
 |some a=>some (.ret,⟨[(4,.au 4 0)],[(4,[.pv (vI a.kind),.pv (.str a.name),.pv (vI a.id),.pv (vI a.home),.pv (.aw (a.args.map Ty.pv))])],[],[0]⟩)
 |none=>some (.exit 0,⟨[(1,.pv (.aw (s.map As.pv))),(2,.au 2 0),(4,.au 4 0),(5,.pv (vI s.length)),(14,.pv (.bool false))],
     [(2,[.pv (vI t.kind),.pv (.str t.name),.pv (vI t.id),.pv (vI t.home),.pv (.aw (t.args.map Ty.pv))]),(4,[.pv (vI 0),.pv (.str []),.pv (vI 0),.pv (vI 0),.own [] 0])],[],[0]⟩)
theorem UC{s:List As}(hS:Sm s)(t:Ty):∀(n i:Nat),s.length-i=n→i≤s.length →
   cl AP g46L0 ⟨[(1,.pv (.aw (s.map As.pv))),(2,.au 2 0),(4,.au 4 0),(5,.pv (vI i))],
     [(2,[.pv (vI t.kind),.pv (.str t.name),.pv (vI t.id),.pv (vI t.home),.pv (.aw (t.args.map Ty.pv))]),(4,[.pv (vI 0),.pv (.str []),.pv (vI 0),.pv (vI 0),.own [] 0])],[],[0]⟩=Mu s t (iQ (s.drop i) t.id)
 |0,i,hn,hi=>by
   have:i=s.length:=by omega
   subst this;rw[g46L0e];simp[g46B0,iQ,Mu]
 |n+1,i,hn,hi=>by
   have hi:i<s.length:=(by omega);obtain⟨x,hx⟩:=aP hi;unfold Sm at hS;have ih:=UC hS t n (i+1) (by omega) (by omega);simp at ih;rw[g46L0e,bl hx];by_cases e:x.id=t.id
   ·simp (disch:=omega) [-getElem?_pos,g46B0,hx,hi,e,iQ,Mu]
   ·simp (disch:=omega) [-getElem?_pos,g46B0,hx,hi,e,iQ,aq,ih]
theorem UD{s:List As}{t:Ty}(hS:Sm t.args)(h:∀x∈t.args,(aF AP).p 46 [x.pv,.aw (s.map As.pv)]=some [(x.sub s).pv]):∀(n i:Nat),t.args.length-i=n→i≤t.args.length→∀acc:List Ty,acc=(t.args.take i).map (Ty.sub s) →
   cl AP g46L1 ⟨[(1,.pv (.aw (s.map As.pv))),(2,.au 2 0),(4,.au 4 0),(6,.au 6 0),(7,.pv (vI i))],
     [(2,[.pv (vI t.kind),.pv (.str t.name),.pv (vI t.id),.pv (vI t.home),.pv (.aw (t.args.map Ty.pv))]),(4,[.pv (vI 0),.pv (.str []),.pv (vI 0),.pv (vI 0),.own [] 0]),
       (6,[.pv (vI t.kind),.pv (.str t.name),.pv (vI t.id),.pv (vI t.home),.own (acc.map Ty.pv) 1])],[],[0,acc.length]⟩ =
     some (.exit 2,⟨[(1,.pv (.aw (s.map As.pv))),(2,.au 2 0),(4,.au 4 0),(6,.au 6 0),(7,.pv (vI t.args.length)),(37,.pv (.bool false))],
     [(2,[.pv (vI t.kind),.pv (.str t.name),.pv (vI t.id),.pv (vI t.home),.pv (.aw (t.args.map Ty.pv))]),(4,[.pv (vI 0),.pv (.str []),.pv (vI 0),.pv (vI 0),.own [] 0]),
       (6,[.pv (vI t.kind),.pv (.str t.name),.pv (vI t.id),.pv (vI t.home),.own ((t.args.map (Ty.sub s)).map Ty.pv) 1])],[],[0,t.args.length]⟩)
 |0,i,hn,hi,acc,ha=>by
   have:i=t.args.length:=by omega
   subst this;subst ha;rw[g46L1e];simp[g46B1]
 |n+1,i,hn,hi,acc,ha=>by
   have hi:i<t.args.length:=(by omega);obtain⟨x,hx⟩:=aP hi;unfold Sm at hS;have hb:(acc.length+1)*64≤140737488355328:=by subst ha;simp;omega
   have hc:=h x (aQ hx);have ih:=UD hS h n (i+1) (by omega) (by omega) (acc++[x.sub s]) (by rw[List.take_add_one,hx,ha];simp);rw[g46L1e]at ih⊢;simp at ih hc;simp (disch:=omega) [-getElem?_pos,g46B1,hx,hi,hc,hb,aq];rw[g46L1e];simp[ih]
theorem c46{s:List As}(hS:Sm s){t:Ty}(hO:t.Ok):(aF AP).p 46 [t.pv,.aw (s.map As.pv)]=some [(t.sub s).pv]:=by
 revert hO
 refine Ty.dJ (p:=fun t=>t.Ok→(aF AP).p 46 [t.pv,.aw (s.map As.pv)]=some [(t.sub s).pv]) ?_ t;intro t ih hO;rw[ah (af:=g46) rfl rfl (by decide)];by_cases hk:t.kind=1
 · have h:=UC hS t _ 0 rfl (by omega);rw[g46L0e]at h;simp at h;cases hf:iQ s t.id with
   |none=>
     rw[hf]at h;simp[Mu,hk]at h;simp[g46,hk,g46L0e,h,Ty.sub_eq,hf]
   |some a=>
     rw[hf]at h;simp[Mu,hk]at h;simp[g46,hk,g46L0e,h,Ty.sub_eq,hf]
 ·have h:=UD (s:=s) hO.sm (fun x hx=>ih x hx (hO.gh x hx)) _ 0 rfl (by omega) [] (by simp);rw[g46L1e]at h;simp at h;simp[g46,hk,g46L1e,h,Ty.sub_eq]
def bf(sh:Sh):Prop:=∀cs,some cs∈sh→∀v∈cs,∃p,v=AV.pv p
theorem t4{aN ts:aG}:∀{cs:List AV},(∀v∈cs,∃p,v=AV.pv p)→bn aN ts cs=(cs,aN,ts)
 |[],_=>rfl
 |v::r,h=>by
   obtain⟨p,rfl⟩:=h v (by simp);simp only[tz,AF,t4 (cs:=r) (fun v hv=>h v (by simp[hv]))]
theorem bf.norm:∀{sh:Sh},bf sh→∀aN ts,cg aN ts sh=(sh,aN,ts)
 |[],_,_,_=>rfl
 |none::sh,h,aN,ts=>by
   simp only[tD,bf.norm (sh:=sh) (fun cs hc=>h cs (by simp[hc]))]
 |some cs::sh,h,aN,ts=>by
   simp only[oj,t4 (h cs (by simp)),bf.norm (sh:=sh) (fun cs hc=>h cs (by simp[hc]))]
theorem qa{n:Nat}:∀{cs:List AV},(∀v∈cs,∃p,v=AV.pv p)→cs.map (cm n)=cs
 |[],_=>rfl
 |v::r,h=>by
   obtain⟨p,rfl⟩:=h v (by simp);simp only[List.map_cons,v_,qa (cs:=r) (fun v hv=>h v (by simp[hv]))]
theorem bf.shift:∀{sh:Sh},bf sh→∀n,gi n sh=sh
 |[],_,_=>rfl
 |none::sh,h,n=>by
   simp only[qN,bf.shift (sh:=sh) (fun cs hc=>h cs (by simp[hc]))]
 |some cs::sh,h,n=>by
   simp only[qO,qa (h cs (by simp)),bf.shift (sh:=sh) (fun cs hc=>h cs (by simp[hc]))]
theorem bf.app{a b:Sh}(ha:bf a)(hb:bf b):bf (a++b):=by
 intro cs hc;simp only[List.mem_append]at hc;rcases hc with hc|hc
 ·exact ha cs hc
 ·exact hb cs hc
theorem bf.one{cs:List AV}(h:∀v∈cs,∃p,v=AV.pv p):bf [some cs]:=by
 intro cs' hc;simp at hc;subst hc;exact h
@[simp] theorem Wu{α:Type}{l:List α}{x:α}:(l++[x])[l.length]?=some x:=by simp
def Ty.cl(t:Ty):List AV:=[.pv (vI t.kind),.pv (.str t.name),.pv (vI t.id),.pv (vI t.home),.pv (.aw (t.args.map Ty.pv))]
def Qi:List AV:=[.pv (vI 0),.pv (.str []),.pv (vI 0),.pv (vI 0),.pv (.aw [])]
def fQ(d:List Ty)(m:Nat):List AV:=d.flatMap Ty.cl++(List.replicate m Qi).flatten
theorem Bu{d:List Ty}:(d.flatMap Ty.cl).length=d.length*5:=by
 induction d with
 |nil=>rfl
 |cons a r ih=>simp[ih,Ty.cl,Nat.add_mul]
theorem Pc{m:Nat}:((List.replicate m Qi).flatten).length=m*5:=by
 simp[Qi]
theorem ph{d:List Ty}{m:Nat}:(fQ d m).length=(d.length+m)*5:=by
 simp only[fQ,List.length_append,Bu,Pc,Nat.add_mul]
theorem Mv{d:List Ty}{m:Nat}{t:Ty}:aR (fQ d (m+1)) (d.length*5) t.cl=fQ (d++[t]) m:=by
 have e:fQ d (m+1)=d.flatMap Ty.cl++(Qi++(List.replicate m Qi).flatten):=by simp[fQ,List.replicate_succ]
 have hl:(d.flatMap Ty.cl).length=d.length*5:=Bu;rw[aE,e,←hl,List.take_left,List.drop_append,List.drop_eq_nil_of_le (by omega)];have:(d.flatMap Ty.cl).length+t.cl.length-(d.flatMap Ty.cl).length=5:=by simp[Ty.cl]
 rw[this];simp[fQ,Qi]
theorem j_{d:List Ty}{m:Nat}:∀v∈fQ d m,∃p,v=AV.pv p:=by
 intro v hv;simp only[fQ,List.mem_append,List.mem_flatMap,List.mem_flatten,List.mem_replicate]at hv;rcases hv with⟨t,_,hv⟩|⟨l,⟨_,rfl⟩,hv⟩
 ·simp[Ty.cl]at hv;rcases hv with rfl|rfl|rfl|rfl|rfl<;>exact⟨_,rfl⟩
 ·simp[Qi]at hv;rcases hv with rfl|rfl|rfl|rfl|rfl<;>exact⟨_,rfl⟩
theorem bV{l:List AV}(h:∀v∈l,∃p,v=.pv p):bY l=false:=by
 cases l with
 |nil=>rfl
 |cons c r=>obtain⟨p,rfl⟩:=h c (by simp);rfl
@[simp] theorem TG{d:List Ty}{m:Nat}:bY (fQ d m)=false:=bV j_
theorem Mw{a b:List AV}{x y:List PV}(ha:fC a=some x)(hb:fC b=some y):fC (a++b)=some (x++y):=by
 induction a generalizing x with
 |nil=>simp at ha;subst ha;exact hb
 |cons v r ih=>
   simp only[pX]at ha;simp only[List.cons_append,pX];cases h1:me v with
   |none=>rw[h1]at ha;cases ha
   |some p=>
     cases h2:fC r with
     |none=>rw[h1,h2]at ha;cases ha
     |some q=>
       rw[h1,h2]at ha;simp at ha;subst ha;rw[ih h2];rfl
theorem Bw:∀{d:List Ty},((fC (fQ d 0)).bind (fD 5 true d.length)).map PV.aw=some (.aw (d.map Ty.pv)):=by
 have key:∀d:List Ty,∃ps,fC (d.flatMap Ty.cl)=some ps∧(chunk 5 d.length ps).map PV.agg=d.map Ty.pv:=by
   intro d;induction d with
   |nil=>exact⟨[],rfl,rfl⟩
   |cons t r ih=>
     obtain⟨ps,h1,h2⟩:=ih;refine⟨[vI t.kind,.str t.name,vI t.id,vI t.home,.aw (t.args.map Ty.pv)]++ps,?_,?_⟩
     ·rw[List.flatMap_cons];exact Mw (by simp[Ty.cl]) h1
     ·simp only[List.length_cons,chunk];simp[h2]
 intro d;obtain⟨ps,h1,h2⟩:=key d;have:fQ d 0=d.flatMap Ty.cl:=by simp[fQ]
 rw[this,h1];simp only[Option.bind_some,fD,if_true,Option.map_some,h2]
mutual
def Ty.qW(f:Ty→Ty):Ty→Ty
 |⟨k,n,i,h,as⟩=>match as with
   |[]=>f ⟨k,n,i,h,[]⟩
   |a::r=>⟨k,n,i,h,a.qW f::Ty.Mx f r⟩
def Ty.Mx(f:Ty→Ty):List Ty→List Ty
 |[]=>[]
 |a::r=>a.qW f::Ty.Mx f r
end
theorem Ty.Bx(f:Ty→Ty):∀l:List Ty,Ty.Mx f l=l.map (Ty.qW f)
 |[]=>by simp[Ty.Mx]
 |a::r=>by simp[Ty.Mx,Ty.Bx f r]
theorem Ty.pj{f:Ty→Ty}{t:Ty}(h:t.args=[]):t.qW f=f t:=by
 obtain⟨k,n,i,hm,as⟩:=t;simp at h;subst h;simp[Ty.qW]
theorem Ty.mH{f:Ty→Ty}{t:Ty}(h:¬t.args=[]):t.qW f=⟨t.kind,t.name,t.id,t.home,t.args.map (Ty.qW f)⟩:=by
 obtain⟨k,n,i,hm,as⟩:=t;cases as with
 |nil=>simp at h
 |cons a r=>simp[Ty.qW,Ty.Bx]
theorem c22{s:List As}(hS:Sm s){t:Ty}(hO:t.Ok):(aF AP).p 22 [.aw (s.map As.pv),t.pv]=some [(t.sub s).pv]:=by
 have h:=c46 hS hO;simp at h;rw[ah (af:=g22) rfl rfl (by decide)];simp[g22,h]
noncomputable instance:DecidableEq As:=fun _ _=>Classical.propDecidable _
theorem WZ{as bs:List Ty}(hS:Sm as)(hl:as.length=bs.length)(h:∀x∈as,∀y,(aF AP).p 20 [x.pv,y.pv]=some [.bool (decide (x=y))]):∀(n i:Nat),as.length-i=n→i≤as.length →
   cl AP g57L0 ⟨[(0,.pv (.aw (as.map Ty.pv))),(1,.pv (.aw (bs.map Ty.pv))),(5,.pv (.int .i64 i))],[],[],[]⟩ =
     if as.drop i=bs.drop i then some (.exit 0,⟨[(0,.pv (.aw (as.map Ty.pv))),(1,.pv (.aw (bs.map Ty.pv))),(5,.pv (.int .i64 as.length)),(14,.pv (.bool false))],[],[],[]⟩)
     else some (.ret,⟨[(4,.pv (.bool false))],[],[],[]⟩)
 |0,i,hn,hi=>by
   have:i=as.length:=by omega
   subst this;rw[g57L0e];simp[g57B0,hl]
 |n+1,i,hn,hi=>by
   have hi:i<as.length:=(by omega);obtain⟨x,hx⟩:=aP hi;obtain⟨y,hy⟩:=aP (hl ▸ hi);have hc:=h x (aQ hx) y;simp at hc;rw[g57L0e,bl hx,bl hy];unfold Sm at hS;have ih:=WZ hS hl h n (i+1) (by omega) (by omega);simp at ih;simp (disch:=omega) [-getElem?_pos,g57B0,hx,hy,hi,hc,aq,ih];by_cases e:x=y<;>simp[e]
theorem c57{as bs:List Ty}(hS:Sm as)(h:∀x∈as,∀y,(aF AP).p 20 [x.pv,y.pv]=some [.bool (decide (x=y))]) :
   (aF AP).p 57 [.aw (as.map Ty.pv),.aw (bs.map Ty.pv)]=some [.bool (decide (as=bs))]:=by
 rw[ah (af:=g57) rfl rfl (by decide)];by_cases hl:as.length=bs.length
 ·have hL:=WZ hS hl h _ 0 rfl (by omega);simp at hL;simp[g57,hl,hL];by_cases e:as=bs<;>simp[e]
 ·have:¬as=bs:=fun e=>hl (by rw[e]);simp[g57,hl,this];omega
theorem c20{a b:Ty}(hO:a.Ok):(aF AP).p 20 [a.pv,b.pv]=some [.bool (decide (a=b))]:=by
 revert b hO
 refine Ty.dJ (p:=fun a=>∀{b:Ty},a.Ok→(aF AP).p 20 [a.pv,b.pv]=some [.bool (decide (a=b))]) ?_ a;intro a ih b hO;have h:=c57 (bs:=b.args) hO.sm (fun x hx y=>ih x hx (hO.gh x hx));rw[ah (af:=g20) rfl rfl (by decide)];simp[g20,h];cases a;cases b;simp
 (repeat' split)<;>simp_all
theorem i5:∀{s:List As} {id:Int} {t:Ty},iQ s id=some t→∃a∈s,a.ty=t
 |a::r,id,t,h=>by
   simp only[iQ]at h;split at h
   ·cases h;exact⟨a,by simp,rfl⟩
   ·obtain⟨b,hb,e⟩:=i5 h;exact⟨b,by simp[hb],e⟩
theorem yp{s:List As}(hs:∀a∈s,a.ty.Ok){t:Ty}(h:t.Ok):(t.sub s).Ok:=by
 revert h
 refine Ty.dJ (p:=fun t=>t.Ok→(t.sub s).Ok) ?_ t;intro t ih h;rw[Ty.sub_eq];split
 · cases hf:iQ s t.id with
   |none=>simpa using h
   |some a=>obtain⟨b,hb,rfl⟩:=i5 hf;simpa using hs b hb
 ·refine⟨by have:=h.sm;unfold Sm at *;simpa using this,?_⟩;intro x hx;simp at hx;obtain⟨y,hy,rfl⟩:=hx;exact ih y hy (h.gh y hy)
theorem yq:∀{a b:List As} {id:Int},iQ (a++b) id=(iQ a id).or (iQ b id)
 |[],b,id=>by simp[iQ]
 |x::a,b,id=>by
   simp only[List.cons_append,iQ];split
   ·rfl
   ·exact yq
theorem c87{n:Int}:(aF AP).p 87 [vI n]=some [(aK n).pv]:=by
 rw[ah (af:=g87) rfl rfl (by decide)];simp[g87,aK]
def db{α:Type}(p:α→Bool):List α→Option Nat
 |[]=>none
 |a::r=>if p a=true then some 0 else (db p r).map (·+1)
theorem i_{α:Type}{p:α→Bool}:∀{l:List α},db p l=none↔∀x∈l,p x=false
 |[]=>by simp[db]
 |a::r=>by
   simp only[db];by_cases h:p a=true
   ·simp[h]
   ·have h:p a=false:=(by simpa using h);simp[h,i_]
def JC(F:AV)(s:List Int)(sh:Sh)(i:Nat):Option Nat→Option (aU×St)
 |some k=>some (.ret,⟨[(4,.pv (vI (i+k:Nat)))],[],sh,[]⟩)
 |none=>some (.exit 0,⟨[(0,.pv (.aw (s.map vI))),(1,F),(7,.pv (vI s.length)),(8,.pv (vI s.length)),(9,.pv (.bool false))],[],sh,[]⟩)
structure El{α:Type}(f:α→PV)(sz:Nat)(ag:Bool):Prop where
 len:∀x,(aZ (f x)).length=sz
 of:∀x,cJ ag sz (aZ (f x))=some (.pv (f x))
theorem El.head{α:Type}{f:α→PV}{sz:Nat}{ag:Bool}(h:El f sz ag)(l:List α):a_ sz (l.map f)=true:=by
 cases l with
 |nil=>rfl
 |cons x r=>simp[a_,h.len x]
theorem kq:El vI 1 false:=⟨fun _=>rfl,fun _=>rfl⟩
theorem SC:El PV.str 1 false:=⟨fun _=>rfl,fun _=>rfl⟩
theorem pk:El Ty.pv 5 true:=⟨fun x=>by simp,fun x=>by simp⟩
def yt(o:Option Nat):Int:=match o with|some k=>k|none=>-1
theorem Bz{α:Type}{p:α→Bool}{s:List α}:decide (0≤yt (db p s))=s.any p:=by
 cases hi:db p s with
 |none=>
   have:s.any p=false:=by rw[List.any_eq_false];intro x hx;rw[i_.1 hi x hx];simp
   rw[this];rfl
 |some k=>
   have:s.any p=true:=by
     cases e:s.any p with
     |true=>rfl
     |false=>rw[List.any_eq_false]at e;have:=i_.2 (fun x hx=>by simpa using e x hx);rw[hi]at this;cases this
   rw[this];simp[yt]
def My(f:St→Option (aU×St))(live:List Nat)(pi px sz:Nat)(ag:Bool)(env:List (Nat×AV))(r:List (PV×Nat)):Option (aU×St)→Option (aU×St)
 |some (.normal,st')=>jf f live pi px sz ag env r st'
 |some (e,st')=>some (e,{ st' with env:=env })
 |none=>none
@[simp] theorem NV{f:St→Option (aU×St)}{live:List Nat}{pi px sz:Nat}{ag:Bool}{env:List (Nat×AV)}{r:List (PV×Nat)}{st:St}:My f live pi px sz ag env r (some (.normal,st))=jf f live pi px sz ag env r st:=rfl
@[simp] theorem SD{f:St→Option (aU×St)}{live:List Nat}{pi px sz:Nat}{ag:Bool}{env e:List (Nat×AV)}{r:List (PV×Nat)}{mem:List (Nat×List AV)}{sh:Sh}{aa:aG}:My f live pi px sz ag env r (some (.ret,⟨e,mem,sh,aa⟩))=some (.ret,⟨env,mem,sh,aa⟩):=rfl
@[simp] theorem TH{f:St→Option (aU×St)}{live:List Nat}{pi px sz:Nat}{ag:Bool}{env e:List (Nat×AV)}{mem:List (Nat×List AV)}{sh:Sh}{aa:aG}:jf f live pi px sz ag env [] ⟨e,mem,sh,aa⟩=some (.normal,⟨env,mem,sh,aa⟩):=rfl
def Wv(g:St→Option (aU×St)):Option (aU×St)→Option (aU×St)
 |some (.normal,st')=>g st'
 |_=>none
@[simp] theorem Qj{g:St→Option (aU×St)}{st:St}:Wv g (some (.normal,st))=g st:=rfl
abbrev vC(c:Int):PV:=.int .u8 c
abbrev Sc:=As
structure En where
 name:List UInt8
 sc:Sc
 deriving Inhabited
def En.pv(a:En):PV:=.agg [.str a.name,.int .i64 a.sc.id,.int .i64 a.sc.ty.kind,.str a.sc.ty.name,.int .i64 a.sc.ty.id,.int .i64 a.sc.ty.home,.aw (a.sc.ty.args.map Ty.pv)]
@[simp] theorem En.jD(a:En):a.pv=.agg [.str a.name,.int .i64 a.sc.id,.int .i64 a.sc.ty.kind,.str a.sc.ty.name,.int .i64 a.sc.ty.id,.int .i64 a.sc.ty.home,.aw (a.sc.ty.args.map Ty.pv)]:=rfl
@[simp] theorem En.eta(t:En):En.mk t.name t.sc=t:=rfl
theorem UE:El En.pv 7 true:=⟨fun x=>by simp,fun x=>by simp⟩
noncomputable instance:DecidableEq En:=fun _ _=>Classical.propDecidable _
@[simp] theorem TI{l:List En}:a_ 7 (l.map En.pv)=true:=UE.head l
def e_:Sc:=⟨0,⟨0,[],0,0,[]⟩⟩
def vn:List En→List UInt8→Option Sc
 |[],_=>none
 |a::r,s=>match vn r s with
   |some c=>some c
   |none=>if a.name=s then some a.sc else none
theorem Mz(l:List En)(a:En)(s:List UInt8):vn (l++[a]) s=if a.name=s then some a.sc else vn l s:=by
 induction l with
 |nil=>simp[vn]
 |cons b r ih=>
   simp only[List.cons_append,vn,ih];by_cases h:a.name=s
   ·simp[h]
   ·simp[h]
def MA(o:Option Sc):List PV:=[(o.getD e_).pv,.bool o.isSome]
theorem UF{l:List En}(hS:Sm l){s:List UInt8}:∀(k:Nat),k≤l.length →
   cl AP g181L0 ⟨[(0,.pv (.aw (l.map En.pv))),(1,.pv (.str s)),(4,.au 4 0),(6,.pv (vI ((k:Int)-1)))],[(4,[.pv (vI 0),.pv (vI 0),.pv (.str []),.pv (vI 0),.pv (vI 0),.own [] 0])],[],[0]⟩ =
     match vn (l.take k) s with
     |some c=>some (.ret,⟨[(4,.au 4 0),(5,.pv (.bool true))],[(4,[.pv (vI c.id),.pv (vI c.ty.kind),.pv (.str c.ty.name),.pv (vI c.ty.id),.pv (vI c.ty.home),.pv (.aw (c.ty.args.map Ty.pv))])],[],[0]⟩)
     |none=>some (.exit 0,⟨[(0,.pv (.aw (l.map En.pv))),(1,.pv (.str s)),(4,.au 4 0),(6,.pv (vI (-1))),(11,.pv (.bool false))],[(4,[.pv (vI 0),.pv (vI 0),.pv (.str []),.pv (vI 0),.pv (vI 0),.own [] 0])],[],[0]⟩)
 |0,_=>by
   rw[g181L0e];simp[g181B0,vn]
 |k+1,hk=>by
   obtain⟨x,hx⟩:=aP (l:=l) (i:=k) (by omega);have ih:=UF hS (s:=s) k (by omega);unfold Sm at hS;have e1:((k+1:Nat):Int)-1=k:=by omega
   rw[g181L0e,e1,List.take_add_one,hx];simp only[Option.toList_some,Mz];by_cases e:x.name=s
   ·simp (disch:=omega) [-getElem?_pos,g181B0,hx,e]
   ·simp (disch:=omega) [-getElem?_pos,g181B0,hx,e,aq];simpa using ih
theorem c181{l:List En}(hS:Sm l){s:List UInt8}:(aF AP).p 181 [.aw (l.map En.pv),.str s]=some (MA (vn l s)):=by
 have h:=UF hS (s:=s) l.length (Nat.le_refl _);unfold Sm at hS;rw[ah (af:=g181) rfl rfl (by decide)];rw[List.take_length]at h;rw[g181L0e]at h;cases e:vn l s with
 |none=>
   rw[e]at h;simp at h;simp (disch:=omega) [g181,aq,g181L0e,h,MA,e_]
 |some c=>
   rw[e]at h;simp at h;simp (disch:=omega) [g181,aq,g181L0e,h,MA]
section
variable {P:Program} {n:Nat} {t e:TypeId} {p:PV}
theorem rU(hu:P.underlying t=some (.int .i64))(h:wt P n t p):∃i,p=vI i:=by
 cases n with
 |zero=>simp[wt]at h
 |succ n=>simp only[wt,hu]at h;obtain⟨i,rfl,_⟩:=h;exact⟨i,rfl⟩
theorem MB{α:Type}{f:α→PV}(hu:P.underlying t=some (.slice e))(he:∀(m:Nat) (q:PV),wt P m e q→∃x,q=f x)(h:wt P n t p):∃l:List α,p=.aw (l.map f):=by
 cases n with
 |zero=>simp[wt]at h
 |succ n=>
   simp only[wt,hu]at h;obtain⟨els,rfl,_,h⟩:=h
   have key:∀els:List PV,(∀q∈els,wt P n e q)→∃l:List α,els=l.map f:=by
     intro els;induction els with
     |nil=>intro _;exact⟨[],rfl⟩
     |cons q r ih=>
       intro h;obtain⟨x,rfl⟩:=he n q (h q (by simp));obtain⟨l,rfl⟩:=ih (fun q hq=>h q (by simp[hq]));exact⟨x::l,rfl⟩
   obtain⟨l,rfl⟩:=key els h;exact⟨l,rfl⟩
theorem mI(hu:P.underlying t=some (.slice e))(he:P.underlying e=some (.int .i64))(h:wt P n t p):∃L:List Int,p=.aw (L.map vI):=
 MB hu (fun _ _ h=>rU he h) h
end
end Go.Ab.Lw
namespace Go.Ab.Lw
open Ev
def ka(s:List UInt8):Ty:=⟨5,s,0,0,[]⟩
theorem c106{s:List UInt8}:(aF AP).p 106 [.str s]=some [(ka s).pv]:=by
 rw[ah (af:=g106) rfl rfl (by decide)];simp[g106,ka]
def ic:List Ty:=[ka [97],ka [98],ka [99]]
theorem c67:(aF AP).p 67 []=some [.aw (ic.map Ty.pv)]:=by
 have h1:=c106 (s:=[97]);have h2:=c106 (s:=[98]);have h3:=c106 (s:=[99]);simp at h1 h2 h3;rw[ah (af:=g67) rfl rfl (by decide)];simp[g67,h1,h2,h3,ic]
theorem c28i{sh:Sh}(hc:Calm sh)(hs:∀n,gi n sh=sh):(aF AP).i 28 [] sh []=some ([.own (lG.map Ty.pv) 0],sh,[8]):=by
 have hh:=hc;unfold Calm at hc;rw[aB (af:=g28) rfl (by simp[g28])];have h:=c70_4 hh;have c1:=c71 (n:=0) (m:=0);have c2:=c71 (n:=1) (m:=0);have c3:=c71 (n:=-1) (m:=2);have c4:=c72 (n:=0);simp[aK]at h c1 c2 c3 c4;simp[g28,h,hc,hs,c1,c2,c3,c4,lG,aK,dm,br]
def UG:ae:=
 (.seq
  (.oG [⟨some 9,none,[.t 8,.t 7],.v (.bin .lss)⟩] [0,1,7,8,9])
  (.seq
   (.cond (.t 9)
    .skip
    (.exit 0))
   (.seq
    (.block 1
     (.seq
      (.oG [⟨some 10,none,[.t 8],.v (.mv)⟩,
        ⟨some 5,none,[.t 10],.v (.mv)⟩] [0,1,5,7,8])
      (.seq
       (.oG [⟨some 11,none,[.t 1],.v (.mv)⟩,
         ⟨some 12,none,[.t 0],.v (.mv)⟩,
         ⟨some 13,none,[.t 5],.v (.mv)⟩,
         ⟨some 14,none,[.t 12,.t 13],.v (.fU 1)⟩,
         ⟨some 15,none,[.t 14],.v (.fW 1 false)⟩,
         ⟨some 16,none,[.t 11,.t 15],.v (.bin .eql)⟩] [0,1,5,7,8,16])
       (.cond (.t 16)
        (.seq
         (.oG [⟨some 17,none,[.t 5],.v (.mv)⟩,
           ⟨some 4,none,[.t 17],.v (.mv)⟩] [4])
         .ret)
        .skip))))
    (.oG [⟨some 18,none,[.t 8,.c (.pv (.int .i64 1))],.v (.bin .add)⟩,
      ⟨some 8,none,[.t 18],.v (.mv)⟩] [0,1,7,8]))))
def V_:ae:=.loop [0,1,7,8] UG
theorem MC{st:St}:cl AP V_ st=after (cl AP V_) (cl AP UG (norm (restrict [0,1,7,8] st))):=aD
def UH:aC:=⟨2,19,[.t 4],
 (.seq
  (.oG [⟨some 4,none,[.c (.pv (.int .i64 0))],.v (.mv)⟩] [0,1])
  (.seq
   (.seq
    (.oG [⟨some 6,none,[.t 0],.v (.mv)⟩,
      ⟨some 7,none,[.t 6],.v (.len)⟩,
      ⟨some 8,none,[.c (.pv (.int .i64 0))],.v (.mv)⟩] [0,1,7,8])
    (.block 0
     V_))
   (.seq
    (.oG [⟨some 4,none,[.c (.pv (.int .i64 (-1)))],.v (.mv)⟩] [4])
    .ret))),none,false⟩
def Ww(g:Nat):aC:=⟨2,9,[.t 4],
 (.seq
  (.oG [⟨some 4,none,[.c (.pv (.bool false))],.v (.mv)⟩] [0,1])
  (.seq
   (.oG [⟨some 5,none,[.t 0],.v (.mv)⟩,
     ⟨some 6,none,[.t 1],.v (.mv)⟩,
     ⟨some 7,none,[.t 5,.t 6],.aJ g⟩,
     ⟨some 8,none,[.t 7,.c (.pv (.int .i64 0))],.v (.bin .geq)⟩,
     ⟨some 4,none,[.t 8],.v (.mv)⟩] [4])
   .ret)),none,false⟩
structure V'{α:Type}[DecidableEq α](f:α→PV):Prop where
 el:El f 1 false
 eq:∀x y,bA (.bin .eql) [.pv (f x),.pv (f y)]=some (.pv (.bool (decide (x=y))))
theorem Pd:V' vI:=⟨kq,fun x y=>by simp;rw[Bool.eq_iff_iff];simp⟩
def TJ{α:Type}(f:α→PV)(s:List α)(y:α)(i:Nat):Option Nat→Option (aU×St)
 |some k=>some (.ret,⟨[(4,.pv (vI (i+k:Nat)))],[],[],[]⟩)
 |none=>some (.exit 0,⟨[(0,.pv (.aw (s.map f))),(1,.pv (f y)),(7,.pv (vI s.length)),(8,.pv (vI s.length)),(9,.pv (.bool false))],[],[],[]⟩)
theorem W0{α:Type}[DecidableEq α]{f:α→PV}(he:V' f){s:List α}(hS:Sm s)(y:α):∀(n i:Nat),s.length-i=n→i≤s.length →
   cl AP V_ ⟨[(0,.pv (.aw (s.map f))),(1,.pv (f y)),(7,.pv (vI s.length)),(8,.pv (vI i))],[],[],[]⟩=TJ f s y i (db (fun x=>decide (y=x)) (s.drop i))
 |0,i,hn,hi=>by
   have:i=s.length:=by omega
   subst this;rw[MC];simp[UG,db,TJ]
 |n+1,i,hn,hi=>by
   have hi:i<s.length:=(by omega);obtain⟨x,hx⟩:=aP hi;unfold Sm at hS;have ih:=W0 he hS y n (i+1) (by omega) (by omega);simp at ih;have h1:=he.el.len x;have h2:=he.el.of x;have h3:=he.eq y x;rw[MC,bl hx];by_cases e:y=x
   ·rw[decide_eq_true e]at h3;simp (disch:=omega) [-getElem?_pos,UG,hx,hi,e,db,TJ,h1,h2];rw[←e]at h3⊢;simp[h3]
   · rw[decide_eq_false e]at h3;simp (disch:=omega) [-getElem?_pos,UG,hx,hi,e,db,aq,ih,h1,h2,h3];cases db (fun x=>decide (y=x)) (s.drop (i+1)) with
     |none=>rfl
     |some k=>simp[TJ];omega
theorem Xn{α:Type}[DecidableEq α]{f:α→PV}(he:V' f){k:Nat}(hk:AP k=some UH){s:List α}(hS:Sm s){y:α}:(aF AP).p k [.aw (s.map f),f y]=some [vI (yt (db (fun x=>decide (y=x)) s))]:=by
 have h:=W0 he hS y _ 0 rfl (by omega);simp at h;rw[ah hk rfl (by simp[UH])];cases hi:db (fun x=>decide (y=x)) s with
 |none=>rw[hi]at h;simp[TJ]at h;simp[UH,h,yt]
 |some k=>rw[hi]at h;simp[TJ]at h;simp[UH,h,yt]
theorem Pe{α:Type}[DecidableEq α]{s:List α}{y:α}:(s.any fun x=>decide (y=x))=decide (y∈s):=by
 rw[Bool.eq_iff_iff];simp
theorem Xo{α:Type}[DecidableEq α]{f:α→PV}(he:V' f){m k:Nat}(hm:AP m=some (Ww k))(hk:AP k=some UH){s:List α}(hS:Sm s){y:α}:(aF AP).p m [.aw (s.map f),f y]=some [.bool (decide (y∈s))]:=by
 have h:=Xn he hk hS (y:=y);rw[ah hm rfl (by simp[Ww]),←Pe,←Bz];simp[Ww,h]
theorem c98{s:List Int}(hS:Sm s){y:Int}:(aF AP).p 98 [.aw (s.map vI),vI y]=some [.bool (decide (y∈s))]:=Xo Pd (k:=116) rfl rfl hS
theorem W6{s:List Int}(hS:Sm s)(y:Int):∀(n i:Nat),s.length-i=n→i≤s.length →
   cl AP g95L0 ⟨[(0,.pv (.aw (s.map vI))),(1,.pv (vI y)),(5,.pv (vI i))],[],[],[]⟩ =
     if y∈s.drop i then some (.ret,⟨[(4,.pv (.bool true))],[],[],[]⟩) else some (.exit 0,⟨[(0,.pv (.aw (s.map vI))),(1,.pv (vI y)),(5,.pv (vI s.length)),(9,.pv (.bool false))],[],[],[]⟩)
 |0,i,hn,hi=>by
   have:i=s.length:=by omega
   subst this;rw[g95L0e];simp[g95B0]
 |n+1,i,hn,hi=>by
   have hi:i<s.length:=(by omega);obtain⟨x,hx⟩:=aP hi;unfold Sm at hS;have ih:=W6 hS y n (i+1) (by omega) (by omega);simp at ih;rw[g95L0e,bl hx];by_cases e:x=y
   ·simp (disch:=omega) [-getElem?_pos,g95B0,hx,hi,e]
   ·have e':¬y=x:=fun h=>e h.symm;simp (disch:=omega) [-getElem?_pos,g95B0,hx,hi,e,e',aq,ih]
theorem c95{s:List Int}(hS:Sm s){y:Int}:(aF AP).p 95 [.aw (s.map vI),vI y]=some [.bool (decide (y∈s))]:=by
 have h:=W6 hS y _ 0 rfl (by omega);simp at h;rw[ah (af:=g95) rfl rfl (by decide)];by_cases e:y∈s<;>simp[g95,h,e]
mutual
def Ty.nodes:Ty→List Ty
 |⟨k,n,i,h,as⟩=>⟨k,n,i,h,as⟩::Ty.t5 as
def Ty.t5:List Ty→List Ty
 |[]=>[]
 |a::r=>a.nodes++Ty.t5 r
end
theorem Ty.wB:∀l:List Ty,Ty.t5 l=l.flatMap Ty.nodes
 |[]=>by simp[Ty.t5]
 |a::r=>by simp[Ty.t5,Ty.wB r]
theorem Ty.aL(t:Ty):t.nodes=t::t.args.flatMap Ty.nodes:=by cases t;simp only[Ty.nodes,Ty.wB]
theorem fp{α:Type}[DecidableEq α]:∀{l S:List α},l.Nodup→(∀x∈l,x∈S)→l.length≤S.length
 |[],_,_,_=>by simp
 |x::r,S,hn,h=>by
   have hx:=h x (by simp)
   have hr:=fp (l:=r) (S:=S.erase x) (List.nodup_cons.1 hn).2 (fun y hy=>by
     rw[List.mem_erase_of_ne]
     ·exact h y (by simp[hy])
     ·rintro rfl;exact (List.nodup_cons.1 hn).1 hy)
   have:=List.length_erase_of_mem hx;have:0<S.length:=List.length_pos_of_mem hx;simp;omega
def cS(out:List Int)(x:Ty):List Int:=if x.kind=1∧x.id∉out then out++[x.id] else out
structure iC(S out:List Int):Prop where
 nodup:out.Nodup
 sub:∀x∈out,x∈S
 rV:S.length<1099511627776
theorem iC.len{S out:List Int}(h:iC S out):Sm out:=by
 have:=fp h.nodup h.sub;have:=h.rV;unfold Sm;omega
theorem iC.add{S out:List Int}(h:iC S out){x:Ty}(hx:x.kind=1→x.id∈S):iC S (cS out x):=by
 unfold cS;split
 · rename_i e;refine⟨?_,?_,h.rV⟩
   · rw[List.nodup_append];refine⟨h.nodup,by simp,?_⟩;intro a ha b hb;simp at hb;subst hb
     rintro rfl;exact e.2 ha
   · intro y hy;simp at hy;rcases hy with hy|rfl
     ·exact h.sub y hy
     ·exact hx e.1
 ·exact h
theorem iC.fold{S:List Int}:∀{l:List Ty} {out:List Int},iC S out→(∀x∈l,x.kind=1→x.id∈S)→iC S (l.foldl cS out)
 |[],_,h,_=>h
 |x::r,out,h,hx=>by
   simp only[List.foldl_cons];exact iC.fold (h.add (hx x (by simp))) (fun y hy=>hx y (by simp[hy]))
def rW(out:List Int):Sh:=[some [.own (out.map vI) 0]]
theorem c97{S out:List Int}(h:iC S out)(x:Ty):(aF AP).i 97 [.pv x.pv,.aM 0 0] (rW out) [out.length]=some ([],rW (cS out x),[(cS out x).length]):=by
 have hl:=h.len;have k:=c98 hl (y:=x.id);unfold Sm at hl;have hb:(out.length+1)*8≤140737488355328:=by omega
 have hh:a_ 1 (out.map vI)=true:=kq.head out;rw[aB (af:=g97) rfl (by simp[g97])];by_cases e1:x.kind=1
 · by_cases e2:x.id∈out
   ·rw[decide_eq_true e2]at k;simp[g97,rW,cS,e1,e2,k,hh]
   ·rw[decide_eq_false e2]at k;simp[g97,rW,cS,e1,e2,k,hb,hh]
 ·simp[g97,rW,cS,e1]
theorem W7{S:List Int}{t:Ty}(hS:Sm t.args)(h:∀x∈t.args,∀out,iC S out→(aF AP).i 96 [.pv x.pv,.fn 97 [.aM 0 0]] (rW out) [out.length]=some ([],rW (x.nodes.foldl cS out),[(x.nodes.foldl cS out).length]))
   (hk:∀x∈t.args.flatMap Ty.nodes,x.kind=1→x.id∈S):∀(n i:Nat),t.args.length-i=n→i≤t.args.length→∀out,iC S out →
   cl AP g96L0 ⟨[(1,.fn 97 [.aM 0 0]),(10,.pv (.aw (t.args.map Ty.pv))),(11,.pv (vI t.args.length)),(12,.pv (vI i))],[],rW out,[out.length]⟩ =
     some (.exit 0,⟨[(1,.fn 97 [.aM 0 0]),(10,.pv (.aw (t.args.map Ty.pv))),(11,.pv (vI t.args.length)),(12,.pv (vI t.args.length)),(13,.pv (.bool false))],[],rW (((t.args.drop i).flatMap Ty.nodes).foldl cS out),[(((t.args.drop i).flatMap Ty.nodes).foldl cS out).length]⟩)
 |0,i,hn,hi,out,hc=>by
   have:i=t.args.length:=by omega
   subst this;rw[g96L0e];simp[g96B0,rW]
 |n+1,i,hn,hi,out,hc=>by
   have hi:i<t.args.length:=(by omega);obtain⟨x,hx⟩:=aP hi;unfold Sm at hS;have hkx:∀y∈x.nodes,y.kind=1→y.id∈S:=fun y hy=>hk y (by simp only[List.mem_flatMap];exact⟨x,aQ hx,hy⟩)
   have k:=h x (aQ hx) out hc;have ih:=W7 hS h hk n (i+1) (by omega) (by omega) _ (hc.fold hkx);rw[g96L0e]at ih⊢;rw[bl hx];simp[rW]at k ih;simp (disch:=omega) [-getElem?_pos,g96B0,rW,hx,hi,k,aq];rw[g96L0e];simp[ih]
theorem c96{S:List Int}{t:Ty}(hO:t.Ok)(hk:∀x∈t.nodes,x.kind=1→x.id∈S):∀out,iC S out →
   (aF AP).i 96 [.pv t.pv,.fn 97 [.aM 0 0]] (rW out) [out.length]=some ([],rW (t.nodes.foldl cS out),[(t.nodes.foldl cS out).length]):=by
 revert hO hk
 refine Ty.dJ (p:=fun t=>t.Ok→(∀x∈t.nodes,x.kind=1→x.id∈S)→∀out,iC S out →
   (aF AP).i 96 [.pv t.pv,.fn 97 [.aM 0 0]] (rW out) [out.length]=some ([],rW (t.nodes.foldl cS out),[(t.nodes.foldl cS out).length])) ?_ t
 intro t ih hO hk out hc;rw[Ty.aL]at hk⊢;have k:=c97 hc t;have h:=W7 (S:=S) hO.sm (fun x hx out hc=>ih x hx (hO.gh x hx) (fun y hy=>hk y (by simp only[List.mem_cons,List.mem_flatMap];exact .inr ⟨x,hx,hy⟩)) out hc) (fun x hx=>hk x (by simp only[List.mem_cons];exact .inr hx)) _ 0 rfl (by omega) _ (hc.add (hk t (by simp)));rw[aB (af:=g96) rfl (by simp[g96])];rw[g96L0e]at h;simp[rW]at k h;simp[g96,g96L0e,rW,k,h]
def vars(l:List Ty):List Int:=(l.flatMap Ty.nodes).foldl cS []
theorem W8{S:List Int}{l:List Ty}(hS:Sm l)(hO:∀t∈l,t.Ok)(hk:∀x∈l.flatMap Ty.nodes,x.kind=1→x.id∈S):∀(n i:Nat),l.length-i=n→i≤l.length→∀out,iC S out →
   cl AP g55L0 ⟨[(3,.aM 0 0),(6,.pv (.aw (l.map Ty.pv))),(7,.pv (vI l.length)),(8,.pv (vI i))],[],rW out,[out.length]⟩ =
     some (.exit 0,⟨[(3,.aM 0 0),(6,.pv (.aw (l.map Ty.pv))),(7,.pv (vI l.length)),(8,.pv (vI l.length)),(9,.pv (.bool false))],[],rW (((l.drop i).flatMap Ty.nodes).foldl cS out),[(((l.drop i).flatMap Ty.nodes).foldl cS out).length]⟩)
 |0,i,hn,hi,out,hc=>by
   have:i=l.length:=by omega
   subst this;rw[g55L0e];simp[g55B0,rW]
 |n+1,i,hn,hi,out,hc=>by
   have hi:i<l.length:=(by omega);obtain⟨x,hx⟩:=aP hi;unfold Sm at hS;have hkx:∀y∈x.nodes,y.kind=1→y.id∈S:=fun y hy=>hk y (by simp only[List.mem_flatMap];exact⟨x,aQ hx,hy⟩)
   have k:=c96 (hO x (aQ hx)) hkx out hc;have ih:=W8 hS hO hk n (i+1) (by omega) (by omega) _ (hc.fold hkx);rw[g55L0e]at ih⊢;rw[bl hx];simp[rW]at k ih;simp (disch:=omega) [-getElem?_pos,g55B0,rW,hx,hi,k,aq];rw[g55L0e];simp[ih]
theorem pn{S:List Int}(h:S.length<1099511627776):iC S []:=⟨by simp,by simp,h⟩
theorem c55{S:List Int}(hf:S.length<1099511627776){l:List Ty}(hS:Sm l)(hO:∀t∈l,t.Ok)(hk:∀x∈l.flatMap Ty.nodes,x.kind=1→x.id∈S):(aF AP).p 55 [.aw (l.map Ty.pv)]=some [.aw ((vars l).map vI)]:=by
 have h:=W8 hS hO hk _ 0 rfl (by omega) [] (pn hf);rw[ah (af:=g55) rfl rfl (by decide)];rw[g55L0e]at h;simp[rW]at h;simp[g55,g55L0e,h,vars]
mutual
def Ty.eJ(k:Int):Ty→List Ty
 |⟨kd,n,i,h,as⟩=>if kd=k∧as.length=0 then [⟨kd,n,i,h,as⟩] else Ty.MD k as
def Ty.MD(k:Int):List Ty→List Ty
 |[]=>[]
 |a::r=>a.eJ k++Ty.MD k r
end
theorem Ty.F5(k:Int):∀l:List Ty,Ty.MD k l=l.flatMap (Ty.eJ k)
 |[]=>by simp[Ty.MD]
 |a::r=>by simp[Ty.MD,Ty.F5 k r]
theorem Ty.lH(k:Int)(t:Ty):t.eJ k=if t.kind=k∧t.args.length=0 then [t] else t.args.flatMap (Ty.eJ k):=by cases t;simp only[Ty.eJ,Ty.F5]
noncomputable def gT(out:List Ty)(x:Ty):List Ty:=if x∈out then out else out++[x]
structure f_(S out:List Ty):Prop where
 nodup:out.Nodup
 sub:∀x∈out,x∈S
 rV:S.length<1099511627776
 ok:∀x∈S,x.Ok
theorem f_.len{S out:List Ty}(h:f_ S out):Sm out:=by
 have:=fp h.nodup h.sub;have:=h.rV;unfold Sm;omega
theorem f_.add{S out:List Ty}(h:f_ S out){x:Ty}(hx:x∈S):f_ S (gT out x):=by
 unfold gT;split
 ·exact h
 · rename_i e;refine⟨?_,?_,h.rV,h.ok⟩
   · rw[List.nodup_append];refine⟨h.nodup,by simp,?_⟩;intro a ha b hb;simp at hb;subst hb
     rintro rfl;exact e ha
   · intro y hy;simp at hy;rcases hy with hy|rfl
     ·exact h.sub y hy
     ·exact hx
theorem f_.fold{S:List Ty}:∀{l:List Ty} {out:List Ty},f_ S out→(∀x∈l,x∈S)→f_ S (l.foldl gT out)
 |[],_,h,_=>h
 |x::r,out,h,hx=>by
   simp only[List.foldl_cons];exact f_.fold (h.add (hx x (by simp))) (fun y hy=>hx y (by simp[hy]))
theorem UI{S out:List Ty}(h:f_ S out)(t:Ty):∀(n i:Nat),out.length-i=n→i≤out.length →
   cl AP g99L0 ⟨[(0,.own (out.map Ty.pv) 0),(4,.au 4 0),(7,.pv (vI i))],[(4,[.pv (vI t.kind),.pv (.str t.name),.pv (vI t.id),.pv (vI t.home),.pv (.aw (t.args.map Ty.pv))])],[],[out.length]⟩ =
     if t∈out.drop i then some (.ret,⟨[(6,.own (out.map Ty.pv) 0)],[],[],[out.length]⟩)
     else some (.exit 0,⟨[(0,.own (out.map Ty.pv) 0),(4,.au 4 0),(7,.pv (vI out.length)),(22,.pv (.bool false))],[(4,[.pv (vI t.kind),.pv (.str t.name),.pv (vI t.id),.pv (vI t.home),.pv (.aw (t.args.map Ty.pv))])],[],[out.length]⟩)
 |0,i,hn,hi=>by
   have:i=out.length:=by omega
   subst this;rw[g99L0e];simp[g99B0]
 |n+1,i,hn,hi=>by
   have hi:i<out.length:=(by omega);obtain⟨x,hx⟩:=aP hi;have hS:=h.len;unfold Sm at hS;have k:=c20 (b:=t) (h.ok x (h.sub x (aQ hx)));have ih:=UI h t n (i+1) (by omega) (by omega);rw[g99L0e]at ih⊢;rw[bl hx];simp at ih k;by_cases e:x=t
   ·subst e;rw[decide_eq_true rfl]at k;simp (disch:=omega) [-getElem?_pos,g99B0,hx,hi,k]
   ·have e':¬t=x:=fun h=>e h.symm;rw[decide_eq_false e]at k;simp (disch:=omega) [-getElem?_pos,g99B0,hx,hi,k,e',aq];rw[g99L0e];simp[ih]
theorem UJ{S:List Ty}{kd:Int}{t:Ty}(hS:Sm t.args)(h:∀x∈t.args,∀out,f_ S out→(aF AP).i 99 [.own (out.map Ty.pv) 0,.pv x.pv,.pv (vI kd)] [] [out.length]=some ([.own (((x.eJ kd).foldl gT out).map Ty.pv) 0],[],[((x.eJ kd).foldl gT out).length]))
   (hk:∀x∈t.args.flatMap (Ty.eJ kd),x∈S):∀(n i:Nat),t.args.length-i=n→i≤t.args.length→∀out,f_ S out →
   cl AP g99L1 ⟨[(0,.own (out.map Ty.pv) 0),(2,.pv (vI kd)),(4,.au 4 0),(8,.pv (vI i))],[(4,[.pv (vI t.kind),.pv (.str t.name),.pv (vI t.id),.pv (vI t.home),.pv (.aw (t.args.map Ty.pv))])],[],[out.length]⟩ =
     some (.exit 2,⟨[(0,.own ((((t.args.drop i).flatMap (Ty.eJ kd)).foldl gT out).map Ty.pv) 0),(2,.pv (vI kd)),(4,.au 4 0),(8,.pv (vI t.args.length)),(40,.pv (.bool false))],[(4,[.pv (vI t.kind),.pv (.str t.name),.pv (vI t.id),.pv (vI t.home),.pv (.aw (t.args.map Ty.pv))])],[],[(((t.args.drop i).flatMap (Ty.eJ kd)).foldl gT out).length]⟩)
 |0,i,hn,hi,out,hc=>by
   have:i=t.args.length:=by omega
   subst this;rw[g99L1e];simp[g99B1]
 |n+1,i,hn,hi,out,hc=>by
   have hi:i<t.args.length:=(by omega);obtain⟨x,hx⟩:=aP hi;unfold Sm at hS;have hkx:∀y∈x.eJ kd,y∈S:=fun y hy=>hk y (by simp only[List.mem_flatMap];exact⟨x,aQ hx,hy⟩)
   have k:=h x (aQ hx) out hc;have ih:=UJ hS h hk n (i+1) (by omega) (by omega) _ (hc.fold hkx);rw[g99L1e]at ih⊢;rw[bl hx];simp at k ih;simp (disch:=omega) [-getElem?_pos,g99B1,hx,hi,k,aq];rw[g99L1e];simp[ih]
theorem c99{S:List Ty}{kd:Int}{t:Ty}(hO:t.Ok)(hk:∀x∈t.eJ kd,x∈S):∀out,f_ S out →
   (aF AP).i 99 [.own (out.map Ty.pv) 0,.pv t.pv,.pv (vI kd)] [] [out.length]=some ([.own (((t.eJ kd).foldl gT out).map Ty.pv) 0],[],[((t.eJ kd).foldl gT out).length]):=by
 revert hO hk
 refine Ty.dJ (p:=fun t=>t.Ok→(∀x∈t.eJ kd,x∈S)→∀out,f_ S out →
   (aF AP).i 99 [.own (out.map Ty.pv) 0,.pv t.pv,.pv (vI kd)] [] [out.length]=some ([.own (((t.eJ kd).foldl gT out).map Ty.pv) 0],[],[((t.eJ kd).foldl gT out).length])) ?_ t
 intro t ih hO hk out hc;rw[Ty.lH]at hk⊢;have hl:=hc.len;unfold Sm at hl;have hb:(out.length+1)*64≤140737488355328:=by omega
 rw[aB (af:=g99) rfl (by simp[g99])];by_cases e:t.kind=kd∧t.args.length=0
 · rw[if_pos e]at hk⊢;obtain⟨e1,e2⟩:=e;subst e1;have e3:t.args=[]:=by simpa using e2
   have h:=UI hc t _ 0 rfl (by omega);rw[g99L0e]at h;simp[e3]at h;by_cases em:t∈out
   · simp[em]at h;have ea:gT out t=out:=by simp[gT,em]
     simp[g99,e3,g99L0e,h,ea]
   · simp[em]at h;have ea:gT out t=out++[t]:=by simp[gT,em]
     simp[g99,e3,g99L0e,h,ea,hb]
 · rw[if_neg e]at hk⊢;have h:=UJ (S:=S) (kd:=kd) hO.sm (fun x hx out hc=>ih x hx (hO.gh x hx) (fun y hy=>hk y (by simp only[List.mem_flatMap];exact⟨x,hx,hy⟩)) out hc) hk _ 0 rfl (by omega) out hc;rw[g99L1e]at h;simp at h;by_cases e1:t.kind=kd
   · have e2:¬t.args.length=0:=fun h=>e ⟨e1,h⟩;have e3:¬t.args=[]:=by simpa using e2
     subst e1;simp[g99,e2,e3,g99L1e,h]
   ·simp[g99,e1,g99L1e,h]
def qb(out:List Int)(x:Ty):List Int:=if x.id∈out then out else out++[x.id]
noncomputable def nq(l:List Ty):List Int:=((l.flatMap (Ty.eJ 1)).foldl gT []).foldl qb []
theorem UK{S:List Ty}{l:List Ty}(hS:Sm l)(hO:∀t∈l,t.Ok)(hk:∀x∈l.flatMap (Ty.eJ 1),x∈S):∀(n i:Nat),l.length-i=n→i≤l.length→∀out,f_ S out →
   cl AP g56L0 ⟨[(0,.pv (.aw (l.map Ty.pv))),(3,.own (out.map Ty.pv) 0),(4,.pv (vI i))],[],[],[out.length]⟩ =
     some (.exit 0,⟨[(0,.pv (.aw (l.map Ty.pv))),(3,.own ((((l.drop i).flatMap (Ty.eJ 1)).foldl gT out).map Ty.pv) 0),(4,.pv (vI l.length)),(10,.pv (.bool false))],[],[],[(((l.drop i).flatMap (Ty.eJ 1)).foldl gT out).length]⟩)
 |0,i,hn,hi,out,hc=>by
   have:i=l.length:=by omega
   subst this;rw[g56L0e];simp[g56B0]
 |n+1,i,hn,hi,out,hc=>by
   have hi:i<l.length:=(by omega);obtain⟨x,hx⟩:=aP hi;unfold Sm at hS;have hkx:∀y∈x.eJ 1,y∈S:=fun y hy=>hk y (by simp only[List.mem_flatMap];exact⟨x,aQ hx,hy⟩)
   have k:=c99 (kd:=1) (hO x (aQ hx)) hkx out hc;have ih:=UK hS hO hk n (i+1) (by omega) (by omega) _ (hc.fold hkx);rw[g56L0e]at ih⊢;rw[bl hx];simp at k ih;simp (disch:=omega) [-getElem?_pos,g56B0,hx,hi,k,aq];rw[g56L0e];simp[ih]
theorem ME{l:List Ty}{out:List Int}:(l.foldl qb out).length≤out.length+l.length:=by
 induction l generalizing out with
 |nil=>simp
 |cons x r ih=>
   simp only[List.foldl_cons,List.length_cons];have:=ih (out:=qb out x);have h2:(qb out x).length≤out.length+1:=by unfold qb;split<;>simp
   omega
theorem SE{S l:List Ty}(hc:f_ S l):∀(n i:Nat),l.length-i=n→i≤l.length→∀out:List Int,out.length≤i →
   cl AP g56L1 ⟨[(3,.own (l.map Ty.pv) 0),(5,.own (out.map vI) 1),(6,.pv (vI i))],[],[],[l.length,out.length]⟩ =
     some (.exit 2,⟨[(3,.own (l.map Ty.pv) 0),(5,.own (((l.drop i).foldl qb out).map vI) 1),(6,.pv (vI l.length)),(22,.pv (.bool false))],[],[],[l.length,((l.drop i).foldl qb out).length]⟩)
 |0,i,hn,hi,out,ho=>by
   have:i=l.length:=by omega
   subst this;rw[g56L1e];simp[g56B1]
 |n+1,i,hn,hi,out,ho=>by
   have hi:i<l.length:=(by omega);obtain⟨x,hx⟩:=aP hi;have hS:=hc.len;unfold Sm at hS;have k:=c95 (s:=out) (by unfold Sm;omega) (y:=x.id);have hb:(out.length+1)*8≤140737488355328:=(by omega);have hh:a_ 1 (out.map vI)=true:=kq.head out;rw[bl hx];by_cases e:x.id∈out
   ·have ih:=SE hc n (i+1) (by omega) (by omega) out (by omega);have ea:qb out x=out:=(by simp[qb,e]);rw[g56L1e]at ih⊢;rw[decide_eq_true e]at k;simp at ih;simp (disch:=omega) [-getElem?_pos,g56B1,hx,hi,k,aq];rw[g56L1e];simp[ih,ea]
   ·have ih:=SE hc n (i+1) (by omega) (by omega) (out++[x.id]) (by simp;omega);have ea:qb out x=out++[x.id]:=(by simp[qb,e]);rw[g56L1e]at ih⊢;rw[decide_eq_false e]at k;simp at ih;simp (disch:=omega) [-getElem?_pos,g56B1,hx,hi,k,aq,hb,hh];rw[g56L1e];simp[ih,ea]
theorem c56{S:List Ty}(hf:S.length<1099511627776)(hSo:∀x∈S,x.Ok){l:List Ty}(hS:Sm l)(hO:∀t∈l,t.Ok)(hk:∀x∈l.flatMap (Ty.eJ 1),x∈S):(aF AP).p 56 [.aw (l.map Ty.pv)]=some [.aw ((nq l).map vI)]:=by
 have c0:f_ S []:=⟨by simp,by simp,hf,hSo⟩;have h1:=UK hS hO hk _ 0 rfl (by omega) [] c0;have h2:=SE (c0.fold (l:=l.flatMap (Ty.eJ 1)) hk) _ 0 rfl (by omega) [] (by simp);rw[ah (af:=g56) rfl rfl (by decide)];rw[g56L0e]at h1;rw[g56L1e]at h2;simp at h1 h2;simp[g56,g56L0e,h1,g56L1e,h2,nq]
theorem JD{t:Ty}(hW:t.Wf):∀out,t.nodes.foldl cS out=(t.eJ 1).foldl cS out:=by
 revert hW
 refine Ty.dJ (p:=fun t=>t.Wf→∀out,t.nodes.foldl cS out=(t.eJ 1).foldl cS out) ?_ t;intro t ih hW out
 have flat:∀(as:List Ty),(∀x∈as,x∈t.args)→∀out,(as.flatMap Ty.nodes).foldl cS out=(as.flatMap (Ty.eJ 1)).foldl cS out:=by
   intro as;induction as with
   |nil=>intro _ _;rfl
   |cons a r ihr=>
     intro h out;simp only[List.flatMap_cons,List.foldl_append];rw[ih a (h a (by simp)) (hW.gh a (h a (by simp))),ihr (fun x hx=>h x (by simp[hx]))]
 rw[Ty.aL,Ty.lH];by_cases e:t.kind=1
 ·have ea:=hW.var e;simp[e,ea]
 · have:cS out t=out:=by simp[cS,e]
   simp only[List.foldl_cons,this];rw[if_neg (fun h=>e h.1)];exact flat t.args (fun _ h=>h) out
theorem MF{k:Int}{t x:Ty}(h:x∈t.eJ k):x.kind=k∧x.args=[]:=by
 revert h
 refine Ty.dJ (p:=fun t=>x∈t.eJ k→x.kind=k∧x.args=[]) ?_ t;intro t ih h;rw[Ty.lH]at h;split at h
 ·rename_i e;simp at h;subst h;exact⟨e.1,by simpa using e.2⟩
 ·simp only[List.mem_flatMap]at h;obtain⟨y,hy,hx⟩:=h;exact ih y hy hx
theorem MG{l:List Ty}{out:List Int}{x:Ty}(hk:x.kind=1)(h:x∈l):x.id∈l.foldl cS out:=by
 have mono:∀(l:List Ty) (out:List Int) (i:Int),i∈out→i∈l.foldl cS out:=by
   intro l;induction l with
   |nil=>intro out i h;exact h
   |cons y r ih=>
     intro out i h;simp only[List.foldl_cons];refine ih _ _ ?_;unfold cS;split<;>simp[h]
 induction l generalizing out with
 |nil=>simp at h
 |cons y r ih=>
   simp only[List.foldl_cons];simp at h;rcases h with rfl|h
   · refine mono _ _ _ ?_;unfold cS;split
     ·simp
     ·rename_i e;simp[hk]at e;exact e
   ·exact ih h
theorem JE(l:List Ty)(hk:∀x∈l,x.kind=1):∀acc:List Ty,(l.foldl gT acc).foldl cS []=l.foldl cS (acc.foldl cS []):=by
 induction l with
 |nil=>intro acc;rfl
 |cons x r ih=>
   intro acc;simp only[List.foldl_cons];rw[ih (fun y hy=>hk y (by simp[hy]))];congr 1;unfold gT;split
   ·rename_i e;have:=MG (out:=[]) (hk x (by simp)) e;simp[cS,this]
   ·simp
theorem JF(l:List Ty)(hk:∀x∈l,x.kind=1):∀out,l.foldl qb out=l.foldl cS out:=by
 induction l with
 |nil=>intro out;rfl
 |cons x r ih=>
   intro out;simp only[List.foldl_cons];rw[ih (fun y hy=>hk y (by simp[hy]))];congr 1;unfold qb cS;have:=hk x (by simp);by_cases e:x.id∈out<;>simp[e,this]
theorem MH{l acc:List Ty}{x:Ty}(h:x∈l.foldl gT acc):x∈acc∨x∈l:=by
 induction l generalizing acc with
 |nil=>exact .inl h
 |cons y r ih=>
   simp only[List.foldl_cons]at h;rcases ih h with h|h
   · unfold gT at h;split at h
     ·exact .inl h
     · simp at h;rcases h with h|rfl
       ·exact .inl h
       ·right;simp
   ·right;simp[h]
theorem lI{l:List Ty}(hW:∀t∈l,t.Wf):nq l=vars l:=by
 have hk:∀x∈l.flatMap (Ty.eJ 1),x.kind=1:=fun x hx=>by
   simp only[List.mem_flatMap]at hx;obtain⟨t,_,h⟩:=hx;exact (MF h).1
 unfold nq vars;rw[JF _ (fun x hx=>by rcases MH hx with h|h;simp at h;exact hk x h),JE _ hk]
 have:∀(l:List Ty),(∀t∈l,t.Wf)→∀out,(l.flatMap (Ty.eJ 1)).foldl cS out=(l.flatMap Ty.nodes).foldl cS out:=by
   intro l;induction l with
   |nil=>intro _ _;rfl
   |cons a r ih=>
     intro h out;simp only[List.flatMap_cons,List.foldl_append];rw[JD (h a (by simp)),ih (fun t ht=>h t (by simp[ht]))]
 exact this l hW []
theorem JG{k:Int}{t x:Ty}(h:x∈t.eJ k):x∈t.nodes:=by
 revert h
 refine Ty.dJ (p:=fun t=>x∈t.eJ k→x∈t.nodes) ?_ t;intro t ih h;rw[Ty.lH]at h;rw[Ty.aL];split at h
 ·simp at h;subst h;simp
 ·simp only[List.mem_flatMap]at h;obtain⟨y,hy,hx⟩:=h;simp only[List.mem_cons,List.mem_flatMap];exact .inr ⟨y,hy,ih y hy hx⟩
theorem c176{t:Ty}:(aF AP).p 176 [t.pv]=some [(As.mk 0 t).pv]:=by
 rw[ah (af:=g176) rfl rfl (by decide)];simp[g176]
theorem MI{a b:Sc}:a=b↔a.id=b.id∧a.ty=b.ty:=by cases a;cases b;simp
theorem EX{a b:En}:a=b↔a.name=b.name∧a.sc=b.sc:=by cases a;cases b;simp
theorem c183{a b:Sc}(hO:a.ty.Ok):(aF AP).p 183 [a.pv,b.pv]=some [.bool (decide (a=b))]:=by
 have k:=c20 (b:=b.ty) hO;rw[ah (af:=g183) rfl rfl (by decide)];simp at k;by_cases e:a.id=b.id
 · have:decide (a=b)=decide (a.ty=b.ty):=by rw[Bool.eq_iff_iff];simp[MI,e]
   simp[g183,k,e,this]
 · have:decide (a=b)=false:=by simp[MI,e]
   simp[g183,e,this]
theorem c179{l:List En}(hS:Sm l){n:List UInt8}{c:Sc}:(aF AP).p 179 [.aw (l.map En.pv),.str n,c.pv]=some [.aw ((l++[En.mk n c]).map En.pv)]:=by
 unfold Sm at hS;have hb:(l.length+1)*88≤140737488355328:=by omega
 have hb':l.length*88≤140737488355328:=by omega
 rw[ah (af:=g179) rfl rfl (by decide)];cases l with
 |nil=>simp[g179]
 |cons a r=>
   simp at hb hb';simp[g179,hb,hb']
theorem UL{a b:List En}(hS:Sm a)(hl:a.length=b.length)(h:∀x∈a,x.sc.ty.Ok):∀(n i:Nat),a.length-i=n→i≤a.length →
   cl AP g178L0 ⟨[(0,.pv (.aw (a.map En.pv))),(1,.pv (.aw (b.map En.pv))),(5,.pv (.int .i64 i))],[],[],[]⟩ =
     if a.drop i=b.drop i then some (.exit 0,⟨[(0,.pv (.aw (a.map En.pv))),(1,.pv (.aw (b.map En.pv))),(5,.pv (.int .i64 a.length)),(14,.pv (.bool false))],[],[],[]⟩)
     else some (.ret,⟨[(4,.pv (.bool false))],[],[],[]⟩)
 |0,i,hn,hi=>by
   have:i=a.length:=by omega
   subst this;rw[g178L0e];simp[g178B0,hl]
 |n+1,i,hn,hi=>by
   have hi:i<a.length:=(by omega);obtain⟨x,hx⟩:=aP hi;obtain⟨y,hy⟩:=aP (hl ▸ hi);have hc:=c183 (b:=y.sc) (h x (aQ hx));simp at hc;rw[g178L0e,bl hx,bl hy];unfold Sm at hS;have ih:=UL hS hl h n (i+1) (by omega) (by omega);simp at ih;by_cases e1:x.name=y.name
   · by_cases e2:x.sc=y.sc
     ·have e:x=y:=EX.2 ⟨e1,e2⟩;subst e;simp at hc;simp (disch:=omega) [-getElem?_pos,g178B0,hx,hy,hi,hc,aq,ih]
     ·have e:¬x=y:=fun e=>e2 (EX.1 e).2;rw[decide_eq_false e2]at hc;simp (disch:=omega) [-getElem?_pos,g178B0,hx,hy,hi,hc,aq,ih,e,e1]
   ·have e:¬x=y:=fun e=>e1 (EX.1 e).1;simp (disch:=omega) [-getElem?_pos,g178B0,hx,hy,hi,hc,aq,ih,e,e1]
theorem c178{a b:List En}(hS:Sm a)(h:∀x∈a,x.sc.ty.Ok):(aF AP).p 178 [.aw (a.map En.pv),.aw (b.map En.pv)]=some [.bool (decide (a=b))]:=by
 rw[ah (af:=g178) rfl rfl (by decide)];by_cases hl:a.length=b.length
 ·have hL:=UL hS hl h _ 0 rfl (by omega);simp at hL;simp[g178,hl,hL];by_cases e:a=b<;>simp[e]
 ·have:¬a=b:=fun e=>hl (by rw[e]);simp[g178,hl,this];omega
def bW:List En→List En
 |[]=>[]
 |a::r=>if (r.any fun x=>decide (x.name=a.name))=true then bW r else a::bW r
theorem Wx{sz:Nat}{l:List PV}{k:IntKind}{h:Int}(h0:0≤h)(h1:h≤l.length)(hs:a_ sz l=true):dT false sz true false false [.pv (.aw l),.pv (.int k h)]=some (.pv (.aw (l.drop h.toNat))):=by
 simp[dT,cf,fY,h0,h1,hs]
theorem any_none{r:List En}{a:En}:(r.any fun x=>decide (x.name=a.name))=true↔∃c,vn r a.name=some c:=by
 induction r with
 |nil=>simp[vn]
 |cons b r ih=>
   simp only[List.any_cons,Bool.or_eq_true,ih,vn,decide_eq_true_eq];cases h:vn r a.name with
   |some c=>simp
   |none=>by_cases e:b.name=a.name<;>simp[e]
theorem gN(l:List En):∀x∈bW l,x∈l:=by
 induction l with
 |nil=>simp[bW]
 |cons a r ih=>
   intro x hx;simp only[bW]at hx;split at hx
   ·simp[ih x hx]
   · simp at hx;rcases hx with rfl|hx
     ·simp
     ·simp[ih x hx]
theorem kI(l:List En):(bW l).length≤l.length:=by
 induction l with
 |nil=>simp[bW]
 |cons a r ih=>
   simp only[bW];split<;>simp<;>omega
def varNames:List (List UInt8):=[[120],[121],[122],[102],[103],[118,49],[118,50],[105,100]]
def cO(ids:List Int):List Int→List As→List As
 |[],acc=>acc
 |v::r,acc=>cO ids r (if v∈ids then acc++[⟨v,br acc.length⟩] else acc)
def il(ids:List Int)(t:Ty)(vs:List Int):Sc:=⟨(cO ids vs []).length,t.sub (cO ids vs [])⟩
theorem SF{t:Ty}{ids vs:List Int}(hS:Sm vs)(hi:Sm ids):∀(n i:Nat),vs.length-i=n→i≤vs.length→∀acc:List As,acc.length≤i →
   cl AP g208L0 ⟨[(1,.pv (.aw (ids.map vI))),(2,.au 2 0),(4,.au 4 0),(5,.pv (.aw (vs.map vI))),(6,.own (acc.map As.pv) 0),(7,.pv (vI i))],[(2,[.pv (vI t.kind),.pv (.str t.name),.pv (vI t.id),.pv (vI t.home),.pv (.aw (t.args.map Ty.pv))]),(4,[.pv (vI 0),.pv (vI 0),.pv (.str []),.pv (vI 0),.pv (vI 0),.own [] 1])],[],[acc.length,0]⟩ =
     some (.exit 0,⟨[(1,.pv (.aw (ids.map vI))),(2,.au 2 0),(4,.au 4 0),(5,.pv (.aw (vs.map vI))),(6,.own ((cO ids (vs.drop i) acc).map As.pv) 0),(7,.pv (vI vs.length)),(14,.pv (.bool false))],[(2,[.pv (vI t.kind),.pv (.str t.name),.pv (vI t.id),.pv (vI t.home),.pv (.aw (t.args.map Ty.pv))]),(4,[.pv (vI 0),.pv (vI 0),.pv (.str []),.pv (vI 0),.pv (vI 0),.own [] 1])],[],[(cO ids (vs.drop i) acc).length,0]⟩)
 |0,i,hn,hi',acc,ha=>by
   have:i=vs.length:=by omega
   subst this;rw[g208L0e];simp[g208B0,cO]
 |n+1,i,hn,hi',acc,ha=>by
   have hi':i<vs.length:=(by omega);obtain⟨x,hx⟩:=aP hi';unfold Sm at hS;have k:=c95 hi (y:=x);have k2:=c72 (n:=acc.length);have hb:(acc.length+1)*72≤140737488355328:=(by omega);rw[bl hx];by_cases e:x∈ids
   ·have ih:=SF (t:=t) hS hi n (i+1) (by omega) (by omega) (acc++[⟨x,br acc.length⟩]) (by simp;omega);have ea:cO ids (x::vs.drop (i+1)) acc=cO ids (vs.drop (i+1)) (acc++[⟨x,br acc.length⟩]):=(by simp[cO,e]);rw[ea];rw[g208L0e]at ih⊢;rw[decide_eq_true e]at k;simp[br]at ih k2;simp (disch:=omega) [-getElem?_pos,g208B0,hx,hi',k,k2,aq,hb,br];rw[g208L0e];simp[ih,br]
   ·have ih:=SF (t:=t) hS hi n (i+1) (by omega) (by omega) acc (by omega);have ea:cO ids (x::vs.drop (i+1)) acc=cO ids (vs.drop (i+1)) acc:=(by simp[cO,e]);rw[ea];rw[g208L0e]at ih⊢;rw[decide_eq_false e]at k;simp at ih;simp (disch:=omega) [-getElem?_pos,g208B0,hx,hi',k,aq];rw[g208L0e];simp[ih]
theorem t6{ids:List Int}:∀(vs:List Int) (acc:List As),(cO ids vs acc).length≤acc.length+vs.length
 |[],acc=>by simp[cO]
 |v::r,acc=>by
   simp only[cO];have:=t6 (ids:=ids) r (if v∈ids then acc++[⟨v,br acc.length⟩] else acc);split at this<;>simp at this⊢<;>(split<;>simp_all<;>omega)
structure SG(t:Ty):Prop where
 ok:t.Ok
 wf:t.Wf
 rV:∃S:List Ty,S.length<1099511627776∧(∀x∈S,x.Ok)∧∀x∈t.eJ 1,x∈S
theorem t7{t:Ty}(h:SG t):Sm (nq [t]):=by
 obtain⟨S,hf,hSo,hk⟩:=h.rV;have c0:f_ S []:=⟨by simp,by simp,hf,hSo⟩;have:=(c0.fold (l:=[t].flatMap (Ty.eJ 1)) (by simpa using hk)).len;unfold Sm at *;have h2:=ME (l:=([t].flatMap (Ty.eJ 1)).foldl gT []) (out:=[]);unfold nq;simp at this h2⊢;omega
theorem c208{t:Ty}(h:SG t){ids:List Int}(hi:Sm ids):(aF AP).p 208 [t.pv,.aw (ids.map vI)]=some [(il ids t (vars [t])).pv]:=by
 obtain⟨S,hf,hSo,hk⟩:=h.rV;have k1:=c56 hf hSo (l:=[t]) (by simp[Sm]) (by simpa using h.ok) (by simpa using hk);have hv:=t7 h;rw[lI (by simpa using h.wf)]at k1 hv;have k2:=SF (t:=t) hv hi _ 0 rfl (by omega) [] (by simp);have hl:=t6 (ids:=ids) (vars [t]) [];have k3:=c46 (s:=cO ids (vars [t]) []) (by unfold Sm at hv⊢;simp at hl;omega) h.ok;rw[ah (af:=g208) rfl rfl (by decide)];rw[g208L0e]at k2;simp at k1 k2 k3;simp[g208,k1,g208L0e,k2,k3,il]
theorem bL{t:Ty}(h:t.args=[]):t.Ok:=⟨by rw[h];simp[Sm],by rw[h];simp⟩
theorem wC{ids:List Int}:∀(vs:List Int) (acc:List As),(∀a∈acc,a.ty.Ok)→∀a∈cO ids vs acc,a.ty.Ok
 |[],acc,h=>by simpa[cO] using h
 |v::r,acc,h=>by
   simp only[cO];refine wC r _ ?_;split
   · intro a ha;simp at ha;rcases ha with ha|rfl
     ·exact h a ha
     ·exact bL rfl
   ·exact h
theorem t8{ids vs:List Int}{t:Ty}(h:t.Ok):(il ids t vs).ty.Ok:=yp (wC vs [] (by simp)) h
inductive dL (D:Dt→Prop) (lv:List Ty):Nat→Ty→Prop
 |leaf {n:Nat} {t:Ty}:t∈lv→dL D lv n t
 |int {n:Nat}:dL D lv n bj
 |kr {n:Nat} {d:Dt} {args:List Ty}:D d→args.length=d.params.length→(∀x∈args,dL D lv n x)→dL D lv (n+1) ⟨4,d.name,0,0,args⟩
 |arrow {n:Nat} {a b:Ty}:dL D lv n a→dL D lv n b→dL D lv (n+1) ⟨4,[45,62],0,0,[a,b]⟩
theorem dL.ok{D:Dt→Prop}(hD:∀d,D d→d.params.length≤8){lv:List Ty}(h:∀t∈lv,t.args=[]){n:Nat}{t:Ty}(m:dL D lv n t):t.Ok:=by
 induction m with
 |leaf hl=>exact bL (h _ hl)
 |int=>exact bL rfl
 |kr hd hl _ ih=>exact⟨by have:=hD _ hd;unfold Sm;simp;omega,ih⟩
 |arrow _ _ ha hb=>exact⟨by simp[Sm],by intro x hx;simp at hx;rcases hx with rfl|rfl<;>assumption⟩
theorem MJ{f:Ty→List Ty}{b:Nat}:∀{l:List Ty},(∀x∈l,(f x).length≤b)→(l.flatMap f).length≤l.length*b
 |[],_=>by simp
 |a::r,h=>by
   have h1:=h a (by simp);have h2:=MJ (f:=f) (b:=b) (l:=r) (fun x hx=>h x (by simp[hx]));simp only[List.flatMap_cons,List.length_append,List.length_cons,Nat.add_mul];omega
theorem dL.small{D:Dt→Prop}(hD:∀d,D d→d.params.length≤8){lv:List Ty}(h:∀t∈lv,t.args=[]){n:Nat}{t:Ty}(m:dL D lv n t):t.nodes.length≤9 ^ n:=by
 have one:∀n:Nat,1≤9 ^ n:=fun n=>Nat.one_le_pow n 9 (by decide);induction m with
 |leaf hl=>rw[Ty.aL,h _ hl];simpa using one _
 |int=>rw[Ty.aL];simpa[bj] using one _
 | @kr n d args hd hl _ ih=>
   rw[Ty.aL];have h1:=MJ (f:=Ty.nodes) (l:=args) ih;have h2:=hD _ hd;have h3:=one n;have h4:args.length*9 ^ n≤8*9 ^ n:=Nat.mul_le_mul_right _ (by omega);simp only[List.length_cons,Nat.pow_succ];omega
 | @arrow n a b _ _ ha hb=>
   rw[Ty.aL];have h3:=one n;simp only[List.length_cons,List.flatMap_cons,List.flatMap_nil,List.append_nil,List.length_append,Nat.pow_succ];omega
abbrev bX:=List UInt8
theorem UM{s:List bX}(hS:Sm s)(y:bX):∀(n i:Nat),s.length-i=n→i≤s.length →
   cl AP g216L0 ⟨[(0,.pv (.aw (s.map .str))),(1,.pv (.str y)),(5,.pv (vI i))],[],[],[]⟩ =
     match db (fun x=>decide (x=y)) (s.drop i) with
     |some k=>some (.ret,⟨[(4,.pv (vI (i+k:Nat)))],[],[],[]⟩)
     |none=>some (.exit 0,⟨[(0,.pv (.aw (s.map .str))),(1,.pv (.str y)),(5,.pv (vI s.length)),(9,.pv (.bool false))],[],[],[]⟩)
 |0,i,hn,hi=>by
   have:i=s.length:=by omega
   subst this;rw[g216L0e];simp[g216B0,db]
 |n+1,i,hn,hi=>by
   have hi:i<s.length:=(by omega);obtain⟨x,hx⟩:=aP hi;unfold Sm at hS;have ih:=UM hS y n (i+1) (by omega) (by omega);simp at ih;rw[g216L0e,bl hx];by_cases e:x=y
   ·simp (disch:=omega) [-getElem?_pos,g216B0,hx,hi,e,db]
   · simp (disch:=omega) [-getElem?_pos,g216B0,hx,hi,e,db,aq,ih];cases db (fun x=>decide (x=y)) (s.drop (i+1)) with
     |none=>rfl
     |some k=>simp;omega
def mJ(s:List bX)(y:bX):Int:=yt (db (fun x=>decide (x=y)) s)
theorem c216{s:List bX}(hS:Sm s){y:bX}:(aF AP).p 216 [.aw (s.map .str),.str y]=some [vI (mJ s y)]:=by
 unfold mJ;have h:=UM hS y _ 0 rfl (by omega);simp at h;rw[ah (af:=g216) rfl rfl (by decide)];cases hi:db (fun x=>decide (x=y)) s with
 |none=>rw[hi]at h;simp at h;simp[g216,h,yt]
 |some k=>rw[hi]at h;simp at h;simp[g216,h,yt]
theorem t9{s:List bX}{y:bX}:mJ s y<0↔y∉s:=by
 unfold mJ;have h:=Bz (p:=fun x=>decide (x=y)) (s:=s);have e:s.any (fun x=>decide (x=y))=decide (y∈s):=by rw[Bool.eq_iff_iff];simp
 rw[e]at h;by_cases hy:y∈s
 ·rw[decide_eq_true hy]at h;have h:=of_decide_eq_true h;exact⟨fun h'=>absurd h (Int.not_le.2 h'),fun h'=>absurd hy h'⟩
 ·rw[decide_eq_false hy]at h;have h:=of_decide_eq_false h;exact⟨fun _=>hy,fun _=>Int.not_le.1 h⟩
def SH:List Dt→bX→Option Dt
 |[],_=>none
 |d::r,s=>if d.name=s then some d else SH r s
def Pf(ds:List Dt)(s:bX):Option Nat:=if s=[73,110,116] then some 0 else if s=[45,62] then some 2 else (SH ds s).map (·.params.length)
def rA:Option Nat→List PV
 |some n=>[vI n,.bool true]
 |none=>[vI 0,.bool false]
theorem UN{ds:List Dt}(hS:Sm ds)(s:bX):∀(n i:Nat),ds.length-i=n→i≤ds.length →
   cl AP g217L0 ⟨[(0,.pv (.aw (ds.map Dt.pv))),(1,.pv (.str s)),(6,.pv (vI i))],[],[],[]⟩ =
     match SH (ds.drop i) s with
     |some d=>some (.ret,⟨[(4,.pv (vI d.params.length)),(5,.pv (.bool true))],[],[],[]⟩)
     |none=>some (.exit 1,⟨[(0,.pv (.aw (ds.map Dt.pv))),(1,.pv (.str s)),(6,.pv (vI ds.length)),(15,.pv (.bool false))],[],[],[]⟩)
 |0,i,hn,hi=>by
   have:i=ds.length:=by omega
   subst this;rw[g217L0e];simp[g217B0,SH]
 |n+1,i,hn,hi=>by
   have hi:i<ds.length:=(by omega);obtain⟨x,hx⟩:=aP hi;unfold Sm at hS;have ih:=UN hS s n (i+1) (by omega) (by omega);rw[g217L0e]at ih⊢;rw[bl hx];simp at ih;by_cases e:x.name=s
   ·simp (disch:=omega) [-getElem?_pos,g217B0,hx,hi,e,SH]
   ·simp (disch:=omega) [-getElem?_pos,g217B0,hx,hi,e,SH,aq];rw[g217L0e];simp[ih]
theorem c217{ds:List Dt}(hS:Sm ds){s:bX}:(aF AP).p 217 [.aw (ds.map Dt.pv),.str s]=some (rA (Pf ds s)):=by
 have h:=UN hS s _ 0 rfl (by omega);rw[ah (af:=g217) rfl rfl (by decide)];rw[g217L0e]at h;simp at h;unfold Pf;by_cases e1:s=[73,110,116]
 ·simp[g217,e1,rA]
 · by_cases e2:s=[45,62]
   ·simp[g217,e2,rA]
   · cases hl:SH ds s with
     |none=>rw[hl]at h;simp at h;simp[g217,e1,e2,g217L0e,h,rA]
     |some d=>rw[hl]at h;simp at h;simp[g217,e1,e2,g217L0e,h,rA]
def kb(ds:List Dt)(l:List bX)(t:Ty):Int:=
 if t.kind=5 then (if t.name∈l then 0 else 7)
 else if t.kind=4 then (match Pf ds t.name with|none=>7|some n=>if n=t.args.length then 0 else 8) else 0
mutual
def Ty.formed(ds:List Dt)(l:List bX):Ty→Int
 |⟨k,n,i,h,as⟩=>if kb ds l ⟨k,n,i,h,as⟩≠0 then kb ds l ⟨k,n,i,h,as⟩ else Ty.dp ds l as
def Ty.dp(ds:List Dt)(l:List bX):List Ty→Int
 |[]=>0
 |a::r=>if a.formed ds l≠0 then a.formed ds l else Ty.dp ds l r
end
theorem Ty.wD(ds:List Dt)(l:List bX)(t:Ty):t.formed ds l=if kb ds l t≠0 then kb ds l t else Ty.dp ds l t.args:=by
 cases t;simp only[Ty.formed]
def Pg(t:Ty):List AV:=[.pv (vI t.kind),.pv (.str t.name),.pv (vI t.id),.pv (vI t.home),.pv (.aw (t.args.map Ty.pv))]
@[simp] theorem Wy(t:Ty):Pg t=[.pv (vI t.kind),.pv (.str t.name),.pv (vI t.id),.pv (vI t.home),.pv (.aw (t.args.map Ty.pv))]:=rfl
theorem UO{ds:List Dt}{l:List bX}{t:Ty}(hS:Sm t.args)(h:∀x∈t.args,(aF AP).p 186 [.aw (ds.map Dt.pv),x.pv,.aw (l.map .str)]=some [vI (x.formed ds l)]):∀(n i:Nat),t.args.length-i=n→i≤t.args.length →
   cl AP g186L0 ⟨[(0,.pv (.aw (ds.map Dt.pv))),(2,.pv (.aw (l.map .str))),(4,.au 4 0),(9,.pv (vI i))],[(4,Pg t)],[],[]⟩ =
     if Ty.dp ds l (t.args.drop i)≠0 then some (.ret,⟨[(6,.pv (vI (Ty.dp ds l (t.args.drop i))))],[],[],[]⟩)
     else some (.exit 1,⟨[(0,.pv (.aw (ds.map Dt.pv))),(2,.pv (.aw (l.map .str))),(4,.au 4 0),(9,.pv (vI t.args.length)),(40,.pv (.bool false))],[(4,Pg t)],[],[]⟩)
 |0,i,hn,hi=>by
   have:i=t.args.length:=by omega
   subst this;rw[g186L0e];simp[g186B0,Ty.dp]
 |n+1,i,hn,hi=>by
   have hi:i<t.args.length:=(by omega);obtain⟨x,hx⟩:=aP hi;unfold Sm at hS;have k:=h x (aQ hx);have ih:=UO hS h n (i+1) (by omega) (by omega);rw[g186L0e]at ih⊢;rw[bl hx];simp at ih k;by_cases e:x.formed ds l=0
   ·rw[e]at k;simp (disch:=omega) [-getElem?_pos,g186B0,hx,hi,k,Ty.dp,e,aq];rw[g186L0e];simp[ih]
   ·simp (disch:=omega) [-getElem?_pos,g186B0,hx,hi,k,Ty.dp,e,aq]
inductive Ty.Cw:Ty→Prop
 |mk {t:Ty}:(t.kind≠4→t.args=[])→(∀x∈t.args,Ty.Cw x)→Ty.Cw t
theorem Ty.Cw.bare{t:Ty}(h:t.Cw):t.kind≠4→t.args=[]:=by cases h;assumption
theorem Ty.Cw.gh{t:Ty}(h:t.Cw):∀x∈t.args,x.Cw:=by cases h;assumption
theorem c186{ds:List Dt}(hd:Sm ds){l:List bX}(hl:Sm l){t:Ty}(hO:t.Ok)(hC:t.Cw):(aF AP).p 186 [.aw (ds.map Dt.pv),t.pv,.aw (l.map .str)]=some [vI (t.formed ds l)]:=by
 revert hO hC
 refine Ty.dJ (p:=fun t=>t.Ok→t.Cw→(aF AP).p 186 [.aw (ds.map Dt.pv),t.pv,.aw (l.map .str)]=some [vI (t.formed ds l)]) ?_ t;intro t ih hO hC;have h:=UO (ds:=ds) (l:=l) hO.sm (fun x hx=>ih x hx (hO.gh x hx) (hC.gh x hx)) _ 0 rfl (by omega);have k1:=c216 hl (y:=t.name);have k2:=c217 hd (s:=t.name);have k3:=t9 (s:=l) (y:=t.name);rw[ah (af:=g186) rfl rfl (by decide),Ty.wD];rw[g186L0e]at h;simp at h;by_cases e1:t.kind=5
 · by_cases e2:t.name∈l
   · simp[e2]at k3;have k3':¬mJ l t.name<0:=by omega
     have ea:=hC.bare (by rw[e1];decide);simp[g186,e1,e2,k1,k3',kb,ea,Ty.dp]
   ·simp[e2]at k3;simp[g186,e1,e2,k1,k3,kb]
 · by_cases e4:t.kind=4
   · cases hc:Pf ds t.name with
     |none=>
       rw[hc]at k2;simp[rA]at k2;simp[g186,e1,e4,k2,kb,hc]
     |some m=>
       rw[hc]at k2;simp[rA]at k2;by_cases e5:m=t.args.length
       · by_cases e3:Ty.dp ds l t.args=0
         ·simp[e3,e4]at h;simp[g186,e4,e5,e3,k2,kb,hc,g186L0e,h]
         ·simp[e3,e4]at h;simp[g186,e4,e5,e3,k2,kb,hc,g186L0e,h]
       ·have e5':¬(m:Int)=t.args.length:=(by omega);simp[g186,e4,e5,e5',k2,kb,hc]
   ·have ea:=hC.bare e4;simp[g186,e1,e4,kb,ea,Ty.dp]
structure eO(E:Type) where
 pos:Int
 kr:List UInt8
 vars:List (List UInt8)
 body:E
structure Ex where
 kind:Int
 pos:Int
 name:List UInt8
 num:Int
 kids:List Ex
 aY:List (eO Ex)
 ty:Ty
abbrev Ar:=eO Ex
def bC:Ty:=⟨0,[],0,0,[]⟩
instance:Inhabited Ex:=⟨⟨0,0,[],0,[],[],bC⟩⟩
instance:Inhabited Ar:=⟨⟨0,[],[],default⟩⟩
def Ty.cells(t:Ty):List PV:=[.int .i64 t.kind,.str t.name,.int .i64 t.id,.int .i64 t.home,.aw (t.args.map Ty.pv)]
mutual
def Ex.cells:Ex→List PV
 |⟨k,p,n,m,ks,as,t⟩=>.int .i64 k::.int .i64 p::.str n::.int .i64 m::.aw (Ex.cz ks)::.aw (Ex.UP as)::t.cells
def Ex.cz:List Ex→List PV
 |[]=>[]
 |e::r=>.agg (Ex.cells e)::Ex.cz r
def Ex.UP:List (eO Ex)→List PV
 |[]=>[]
 |⟨p,c,v,b⟩::r=>.agg (.int .i64 p::.str c::.aw (v.map .str)::Ex.cells b)::Ex.UP r
end
def Ex.pv(e:Ex):PV:=.agg e.cells
def Ar.pv(a:Ar):PV:=.agg (.int .i64 a.pos::.str a.kr::.aw (a.vars.map .str)::a.body.cells)
theorem Ex.j8:∀l:List Ex,Ex.cz l=l.map Ex.pv
 |[]=>by simp[Ex.cz]
 |e::r=>by simp[Ex.cz,Ex.j8 r,Ex.pv]
theorem Ex.F6:∀l:List Ar,Ex.UP l=l.map Ar.pv
 |[]=>by simp[Ex.UP]
 |⟨p,c,v,b⟩::r=>by simp[Ex.UP,Ex.F6 r,Ar.pv]
theorem Ex.aS(e:Ex):e.cells=[.int .i64 e.kind,.int .i64 e.pos,.str e.name,.int .i64 e.num,.aw (e.kids.map Ex.pv),.aw (e.aY.map Ar.pv),.int .i64 e.ty.kind,.str e.ty.name,.int .i64 e.ty.id,.int .i64 e.ty.home,.aw (e.ty.args.map Ty.pv)]:=by
 cases e;simp only[Ex.cells,Ex.j8,Ex.F6,Ty.cells]
@[simp] theorem Ex.jD(e:Ex):e.pv=.agg [.int .i64 e.kind,.int .i64 e.pos,.str e.name,.int .i64 e.num,.aw (e.kids.map Ex.pv),.aw (e.aY.map Ar.pv),.int .i64 e.ty.kind,.str e.ty.name,.int .i64 e.ty.id,.int .i64 e.ty.home,.aw (e.ty.args.map Ty.pv)]:=by
 rw[Ex.pv,Ex.aS]
@[simp] theorem Ar.jD(a:Ar):a.pv=.agg [.int .i64 a.pos,.str a.kr,.aw (a.vars.map .str),.int .i64 a.body.kind,.int .i64 a.body.pos,.str a.body.name,.int .i64 a.body.num,.aw (a.body.kids.map Ex.pv),.aw (a.body.aY.map Ar.pv),.int .i64 a.body.ty.kind,.str a.body.ty.name,.int .i64 a.body.ty.id,.int .i64 a.body.ty.home,.aw (a.body.ty.args.map Ty.pv)]:=by
 rw[Ar.pv,Ex.aS]
theorem MK:El Ex.pv 11 true:=⟨fun x=>by simp,fun x=>by simp⟩
theorem SI:El Ar.pv 14 true:=⟨fun x=>by simp,fun x=>by simp⟩
@[simp] theorem TK{l:List Ex}:a_ 11 (l.map Ex.pv)=true:=MK.head l
@[simp] theorem TL{l:List Ar}:a_ 14 (l.map Ar.pv)=true:=SI.head l
@[simp] theorem SJ{l:List (List UInt8)}:a_ 1 (l.map PV.str)=true:=SC.head l
def Ex.ch(e:Ex):List Ex:=e.kids++e.aY.map eO.body
theorem eO.qc(a:Ar):SizeOf.sizeOf a.body<SizeOf.sizeOf a:=by cases a;simp;omega
theorem Ex.dJ{p:Ex→Prop}(h:∀e:Ex,(∀x∈e.kids,p x)→(∀a∈e.aY,p a.body)→p e):∀e,p e
 |⟨k,ps,n,m,ks,as,t⟩=>h _ (fun x _hx=>Ex.dJ h x) (fun a _ha=>Ex.dJ h a.body)
termination_by e=>SizeOf.sizeOf e
decreasing_by
 ·have:=_root_.List.sizeOf_lt_of_mem _hx;simp at *;omega
 ·have:=_root_.List.sizeOf_lt_of_mem _ha;have:=eO.qc a;simp at *;omega
theorem Ex.recC{p:Ex→Prop}(h:∀e:Ex,(∀x∈e.ch,p x)→p e):∀e,p e:=Ex.dJ fun e h1 h2=>h e fun x hx=>by
 rw[Ex.ch,List.mem_append,List.mem_map]at hx;rcases hx with hx|⟨a,ha,rfl⟩
 ·exact h1 x hx
 ·exact h2 a ha
structure Sl where
 bd:Bool
 ty:Ty
 home:Int
 base:Bool
def Sl.pv(x:Sl):PV:=.agg [.bool x.bd,vI x.ty.kind,.str x.ty.name,vI x.ty.id,vI x.ty.home,.aw (x.ty.args.map Ty.pv),vI x.home,.bool x.base]
@[simp] theorem Sl.jD(x:Sl):x.pv=.agg [.bool x.bd,.int .i64 x.ty.kind,.str x.ty.name,.int .i64 x.ty.id,.int .i64 x.ty.home,.aw (x.ty.args.map Ty.pv),.int .i64 x.home,.bool x.base]:=rfl
structure Ch where
 id:Int
 aN:Sl
 nw:Bool
def Ch.pv(x:Ch):PV:=.agg [vI x.id,.bool x.aN.bd,vI x.aN.ty.kind,.str x.aN.ty.name,vI x.aN.ty.id,vI x.aN.ty.home,.aw (x.aN.ty.args.map Ty.pv),vI x.aN.home,.bool x.aN.base,.bool x.nw]
@[simp] theorem Ch.jD(x:Ch):x.pv=.agg [.int .i64 x.id,.bool x.aN.bd,.int .i64 x.aN.ty.kind,.str x.aN.ty.name,.int .i64 x.aN.ty.id,.int .i64 x.aN.ty.home,.aw (x.aN.ty.args.map Ty.pv),.int .i64 x.aN.home,.bool x.aN.base,.bool x.nw]:=rfl
structure de where
 sl:List Sl
 tr:List Ch
def de.pv(s:de):PV:=.agg [.aw (s.sl.map Sl.pv),.aw (s.tr.map Ch.pv)]
@[simp] theorem de.jD(s:de):s.pv=.agg [.aw (s.sl.map Sl.pv),.aw (s.tr.map Ch.pv)]:=rfl
structure de.Ok(s:de)(n m:Nat):Prop where
 sl:s.sl.length≤n
 tr:s.tr.length≤m
 ty:∀x∈s.sl,x.ty.Ok
theorem Qk:El Sl.pv 8 true:=⟨fun _=>rfl,fun _=>rfl⟩
theorem ML:El Ch.pv 10 true:=⟨fun _=>rfl,fun _=>rfl⟩
def iD(s:List Sl)(t:Ty):Option Sl:=if t.kind=1∧0≤t.id then (match s[t.id.toNat]? with|some x=>if x.bd then some x else none|none=>none) else none
theorem d4{s:List Sl}{t:Ty}{x:Sl}(h:iD s t=some x):t.kind=1∧∃i:Nat,t.id=i∧s[i]?=some x∧x.bd=true:=by
 unfold iD at h;split at h
 · rename_i q;refine⟨q.1,t.id.toNat,by omega,?_⟩;split at h
   · rename_i y hy;split at h
     ·rename_i hb;cases h;exact⟨hy,hb⟩
     ·cases h
   ·cases h
 ·cases h
theorem c392{s:de}{t:Ty}:(aF AP).p 392 [s.pv,t.pv]=some [.bool (iD s.sl t).isSome]:=by
 rw[ah (af:=g392) rfl rfl (by decide)];unfold iD;by_cases k:t.kind=1
 · by_cases h0:0≤t.id
   · obtain⟨i,hi⟩:∃i:Nat,t.id=i:=⟨t.id.toNat,by omega⟩;by_cases hl:i<s.sl.length
     ·obtain⟨x,hx⟩:=aP hl;simp (disch:=omega) [-getElem?_pos,g392,k,hi,hl,hx];cases x.bd<;>rfl
     ·have hx:s.sl[i]?=none:=(by simp;omega);simp (disch:=omega) [-getElem?_pos,g392,k,hi,hl,hx]
   ·simp (disch:=omega) [g392,k,h0]
 ·simp (disch:=omega) [g392,k]
def wk(s:List Sl):Nat→Ty→Ty
 |0,t=>t
 |n+1,t=>match iD s t with|some x=>wk s n x.ty|none=>t
theorem mK{s:List Sl}(hs:∀x∈s,x.ty.Ok):∀{n:Nat} {t:Ty},t.Ok→(wk s n t).Ok
 |0,t,h=>h
 |n+1,t,h=>by
   unfold wk;split
   ·rename_i x hx;obtain⟨_,i,_,hi,_⟩:=d4 hx;exact mK hs (hs x (aQ hi))
   ·exact h
def tC(t:Ty):List AV:=[.pv (vI t.kind),.pv (.str t.name),.pv (vI t.id),.pv (vI t.home),.pv (.aw (t.args.map Ty.pv))]
def sC(s:de):List AV:=[.pv (.aw (s.sl.map Sl.pv)),.pv (.aw (s.tr.map Ch.pv))]
def zC(k:Nat):List AV:=[.pv (vI 0),.pv (.str []),.pv (vI 0),.pv (vI 0),.own [] k]
theorem UQ{s:de}(hs:Sm s.sl):∀(n i:Nat),s.sl.length+1-i=n→i≤s.sl.length+1→∀t:Ty,∃(i':Nat),
   cl AP g386L0 ⟨[(2,.au 2 0),(3,.au 3 0),(4,.au 4 0),(5,.pv (vI i))],[(2,sC s),(3,tC t),(4,zC 0)],[],[0]⟩ =
     some (.exit 0,⟨[(2,.au 2 0),(3,.au 3 0),(4,.au 4 0),(5,.pv (vI i')),(15,.pv (.bool false))],[(2,sC s),(3,tC (wk s.sl n t)),(4,zC 0)],[],[0]⟩)
 |0,i,hn,hi,t=>by
   refine⟨i,?_⟩;have h1:¬(i:Int)≤s.sl.length:=by omega
   rw[g386L0e];simp[g386B0,sC,tC,zC,wk,h1]
 |n+1,i,hn,hi,t=>by
   have h1:(i:Int)≤s.sl.length:=(by omega);have k:=c392 (s:=s) (t:=t);unfold Sm at hs;rw[g386L0e];cases hb:iD s.sl t with
   |none=>
     refine⟨i,?_⟩;rw[hb]at k;simp at k;simp[g386B0,sC,tC,zC,wk,h1,hb,k]
   |some x=>
     obtain⟨_,j,hj,hx,_⟩:=d4 hb;obtain⟨i',e⟩:=UQ hs n (i+1) (by omega) (by omega) x.ty;refine⟨i',?_⟩;rw[hb]at k;have hl:j<s.sl.length:=by obtain⟨h,_⟩:=List.getElem?_eq_some_iff.1 hx;exact h
     rw[g386L0e]at e;simp[hj]at k;simp[sC,tC,zC]at e;simp (disch:=omega) [-getElem?_pos,g386B0,sC,tC,zC,wk,h1,hb,k,hj,hx,hl,aq];rw[g386L0e];simp[e]
theorem c386{s:de}(hs:Sm s.sl){t:Ty}:(aF AP).p 386 [s.pv,t.pv]=some [(wk s.sl (s.sl.length+1) t).pv]:=by
 obtain⟨i',h⟩:=UQ hs _ 0 rfl (by omega) t;rw[ah (af:=g386) rfl rfl (by decide)];rw[g386L0e]at h;simp[sC,tC,zC]at h;simp[g386,g386L0e,h]
def iE(s:List Sl)(t:Ty):Ty:=wk s (s.length+1) t
inductive Tr (s:List Sl):Ty→Nat→Prop
 |mk {t:Ty} (ns:List Nat):ns.length=(iE s t).args.length→(∀(i:Nat) a n,(iE s t).args[i]?=some a→ns[i]?=some n→Tr s a n)→Tr s t (ns.sum+1)
def JH(s:List Sl)(l:List Ty)(ns:List Nat):Prop:=ns.length=l.length∧∀(i:Nat) a n,l[i]?=some a→ns[i]?=some n→Tr s a n
theorem JH.nil{s:List Sl}:JH s [] []:=⟨rfl,by intro i a n h;simp at h⟩
theorem JH.snoc{s:List Sl}{l:List Ty}{ns:List Nat}(h:JH s l ns){a:Ty}{n:Nat}(ha:Tr s a n):JH s (l++[a]) (ns++[n]):=by
 refine⟨by simp[h.1],?_⟩;intro i b m hb hm;have hl:=h.1;by_cases hi:i<l.length
 ·rw[List.getElem?_append_left hi]at hb;rw[List.getElem?_append_left (by omega)]at hm;exact h.2 i b m hb hm
 · rw[List.getElem?_append_right (by omega)]at hb;rw[List.getElem?_append_right (by omega),hl]at hm;by_cases e:i-l.length=0
   ·rw[e]at hb hm;simp at hb hm;rw[←hb,←hm];exact ha
   ·have h1:1≤i-l.length:=(by omega);have:([a]:List Ty)[i-l.length]?=none:=(by simp;omega);rw[this]at hb;cases hb
theorem Tr.inv{s:List Sl}{t:Ty}{r:Nat}(h:Tr s t r):∃ns,JH s (iE s t).args ns∧r=ns.sum+1:=by
 cases h with
 |mk ns h1 h2=>exact⟨ns,⟨h1,h2⟩,rfl⟩
theorem yu:∀{ns:List Nat} {i n:Nat},ns[i]?=some n→n≤ns.sum
 |a::r,0,n,h=>by simp at h;subst h;simp
 |a::r,i+1,n,h=>by simp at h;have:=yu h;simp;omega
theorem US{s:de}(hs:Sm s.sl)(hO:∀x∈s.sl,x.ty.Ok){m:Nat}(hm:m<1000000)(IH:∀m':Nat,m'<m→∀t,t.Ok→∃r:Nat,(aF AP).p 371 [s.pv,t.pv,vI m']=some [vI r]∧1≤r∧r≤m'+1∧(r≤m'→Tr s.sl t r)∧∀r0,Tr s.sl t r0→r0≤m'→r=r0)
   {x:Ty} (hx:x.Ok):∀(k i n:Nat),x.args.length-i=k→i≤x.args.length→1≤n→n≤m+1→(n≤m→∃ns,JH s.sl (x.args.take i) ns∧n=ns.sum+1)→(∀ns,JH s.sl x.args ns→ns.sum+1≤m→n=(ns.take i).sum+1)→∃i' n':Nat,
   cl AP g371L0 ⟨[(2,.pv (vI m)),(3,.au 3 0),(4,.au 4 0),(7,.pv (vI n)),(8,.pv (vI i))],[(3,sC s),(4,tC x)],[],[]⟩ =
     some (.exit 0,⟨[(2,.pv (vI m)),(3,.au 3 0),(4,.au 4 0),(7,.pv (vI n')),(8,.pv (vI i')),(21,.pv (.bool false))],[(3,sC s),(4,tC x)],[],[]⟩)∧1≤n'∧n'≤m+1∧(n'≤m→∃ns,JH s.sl x.args ns∧n'=ns.sum+1)∧∀ns,JH s.sl x.args ns→ns.sum+1≤m→n'=ns.sum+1
 |0,i,n,hk,hi,h1,h2,h3,h4=>by
   have:i=x.args.length:=by omega
   subst this;refine⟨x.args.length,n,?_,h1,h2,by simpa using h3,fun ns q h=>by have:=h4 ns q h;rwa [←q.1,List.take_length]at this⟩;rw[g371L0e];simp[g371B0,sC,tC]
 |k+1,i,n,hk,hi,h1,h2,h3,h4=>by
   have hi:i<x.args.length:=(by omega);obtain⟨a,ha⟩:=aP hi;have hsm:=hx.sm;unfold Sm at hsm;by_cases hn:n≤m
   · have g0:m-n<m:=by clear h3;omega
     obtain⟨r,e,r1,r2,r3,r4⟩:=IH (m-n) g0 a (hx.gh a (aQ ha))
     have g6:∀ns,JH s.sl x.args ns→ns.sum+1≤m→n+r=(ns.take (i+1)).sum+1:=by
       intro ns q h;have q1:=h4 ns q h;have hil:i<ns.length:=by rw[q.1];exact hi
       obtain⟨w,hw⟩:=aP hil;have q2:(ns.take (i+1)).sum=(ns.take i).sum+w:=by rw[List.take_add_one,hw,List.sum_append];simp
       have q3:(ns.take (i+1)).sum≤ns.sum:=by
         have:=List.take_append_drop (i+1) ns;rw[←this,List.sum_append,this];omega
       have:=r4 w (q.2 i a w ha hw) (by clear h3 r3 h4 r4;omega);rw[q2,q1,this];omega
     have hsub:((m:Int)-n)=((m-n:Nat):Int):=by clear h3 r3;omega
     have g5:n+r≤m→∃ns,JH s.sl (x.args.take (i+1)) ns∧n+r=ns.sum+1:=by
       intro h;obtain⟨ns,q,e2⟩:=h3 hn;refine⟨ns++[r],?_,by rw[List.sum_append,e2];simp;omega⟩;rw[List.take_add_one,ha];have hr:r≤m-n:=by clear h3;omega
       exact q.snoc (r3 hr)
     clear h3 h4 r4;have g1:x.args.length-(i+1)=k:=by clear g5 g6 r3;omega
     have g2:1≤n+r:=by clear g5 g6 r3;omega
     have g3:n+r≤m+1:=by clear g5 g6 r3;omega
     obtain⟨i',n',e',q1,q2,q3⟩:=US hs hO hm IH hx k (i+1) (n+r) g1 hi g2 g3 g5 g6;refine⟨i',n',?_,q1,q2,q3⟩;have hnm:(n:Int)≤m:=by clear g5 g6 q3 r3;omega
     rw[g371L0e]at e' ⊢;simp at e;simp[sC,tC]at e';simp (disch:=omega) [-getElem?_pos,g371B0,sC,tC,hi,ha,hnm,aq,hsub,e];rw[g371L0e];simp[e']
   · refine⟨i,n,?_,h1,h2,fun h=>absurd h hn,fun ns q h=>absurd (by
       have q1:=h4 ns q h
       have q3:(ns.take i).sum≤ns.sum:=by
         have:=List.take_append_drop i ns;rw[←this,List.sum_append,this];omega
       clear h3;omega) hn⟩
     clear h3 h4;have hnm:¬(n:Int)≤m:=by omega
     rw[g371L0e];simp (disch:=omega) [-getElem?_pos,g371B0,sC,tC,hi,hnm]
theorem c371{s:de}(hs:Sm s.sl)(hO:∀x∈s.sl,x.ty.Ok)(m:Nat)(hm:m<1000000):∀t:Ty,t.Ok→∃r:Nat,(aF AP).p 371 [s.pv,t.pv,vI m]=some [vI r]∧1≤r∧r≤m+1∧(r≤m→Tr s.sl t r)∧∀r0,Tr s.sl t r0→r0≤m→r=r0:=by
 induction m using Nat.strongRecOn with
 |ind m ih=>
   intro t ht;have k:=c386 hs (t:=t);have hw:(wk s.sl (s.sl.length+1) t).Ok:=mK hO ht;obtain⟨i',n',e,q1,q2,q3,q4⟩:=US hs hO hm (fun m' h t ht=>ih m' h (by omega) t ht) hw _ 0 1 rfl (by omega) (by omega) (by omega) (fun _=>⟨[],by simpa using JH.nil,rfl⟩) (fun _ _ _=>by simp);refine⟨min n' (m+1),?_,by clear q3 q4;omega,by clear q3 q4;omega,?_,fun r0 h0 hr=>?_⟩
   rotate_left
   rotate_left
   ·obtain⟨ns,hT,e0⟩:=h0.inv;have:=q4 ns hT (by rw[←e0];exact hr);clear q3 q4;omega
   · rw[ah (af:=g371) rfl rfl (by decide)];rw[g371L0e]at e;have hmin:min (n':Int) ((m:Int)+1)=((min n' (m+1):Nat):Int):=by clear q3 q4;omega
     generalize wk s.sl (s.sl.length+1) t=x at *;simp at k;simp[sC,tC]at e;simp (disch:=omega) [g371,k,g371L0e,e,aq,hmin];omega
   · intro h;have hq:n'≤m:=by clear q3 q4;omega
     obtain⟨ns,a,b⟩:=q3 hq;have:min n' (m+1)=ns.sum+1:=by omega
     rw[this];exact .mk ns a.1 a.2
def uC(x:Ty)(acc:List Ty)(k:Nat):List AV:=[.pv (vI x.kind),.pv (.str x.name),.pv (vI x.id),.pv (vI x.home),.own (acc.map Ty.pv) k]
theorem UT{s:de}{P:Ty→Ty→Prop}{x:Ty}(hx:x.Ok){ns:List Nat}(hns:ns.length=x.args.length)(IH:∀(i:Nat) a n,x.args[i]?=some a→ns[i]?=some n→∃u:Ty,(aF AP).p 373 [s.pv,a.pv]=some [u.pv]∧u.Ok∧u.nodes.length=n∧P a u):∀(k i:Nat),x.args.length-i=k→i≤x.args.length→∀acc:List Ty,acc.length=i→(∀u∈acc,u.Ok)→(acc.flatMap Ty.nodes).length=(ns.take i).sum→(∀(j:Nat) a b,x.args[j]?=some a→acc[j]?=some b→P a b)→∃us:List Ty,
   cl AP g373L0 ⟨[(2,.au 2 0),(3,.au 3 0),(4,.au 4 0),(5,.au 5 0),(6,.pv (vI i))],[(2,sC s),(3,tC x),(4,zC 0),(5,uC x acc 1)],[],[0,acc.length]⟩ =
     some (.exit 0,⟨[(2,.au 2 0),(3,.au 3 0),(4,.au 4 0),(5,.au 5 0),(6,.pv (vI x.args.length)),(16,.pv (.bool false))],[(2,sC s),(3,tC x),(4,zC 0),(5,uC x us 1)],[],[0,us.length]⟩)∧us.length=x.args.length∧(∀u∈us,u.Ok)∧(us.flatMap Ty.nodes).length=ns.sum∧∀(j:Nat) a b,x.args[j]?=some a→us[j]?=some b→P a b
 |0,i,hk,hi,acc,ha,hu,hc,hp=>by
   have:i=x.args.length:=by omega
   subst this;refine⟨acc,?_,ha,hu,by rw[hc,←hns,List.take_length],hp⟩;rw[g373L0e];simp[g373B0,sC,tC,zC,uC]
 |k+1,i,hk,hi,acc,ha,hu,hc,hp=>by
   have hi:i<x.args.length:=(by omega);obtain⟨a,hax⟩:=aP hi;obtain⟨n,hn⟩:=aP (l:=ns) (i:=i) (by omega);have hsm:=hx.sm;unfold Sm at hsm;obtain⟨u,e,hO,hnn,hpu⟩:=IH i a n hax hn
   obtain⟨us,e',h1,h2,h3,h4⟩:=UT hx hns IH k (i+1) (by omega) (by omega) (acc++[u]) (by simp;omega) (by
     intro y hy;simp at hy;rcases hy with hy|rfl
     ·exact hu y hy
     ·exact hO) (by rw[List.take_add_one,hn,List.flatMap_append,List.length_append,hc];simp[hnn]) (by
     intro j b c hb hc';by_cases q:j<acc.length
     ·rw[List.getElem?_append_left q]at hc';exact hp j b c hb hc'
     · rw[List.getElem?_append_right (by omega)]at hc'
       have hj:j-acc.length=0:=by
         have:=(List.getElem?_eq_some_iff.1 hc').1;simp at this;omega
       rw[hj]at hc';simp at hc';have:j=i:=by omega
       subst this;rw[hax]at hb;cases hb;subst hc';exact hpu)
   clear hp;refine⟨us,?_,h1,h2,h3,h4⟩;have hb:(acc.length+1)*64≤140737488355328:=by omega
   rw[g373L0e]at e' ⊢;simp at e;simp[sC,tC,zC,uC]at e';simp (disch:=omega) [-getElem?_pos,g373B0,sC,tC,zC,uC,hi,hax,aq,e,hb];rw[g373L0e];simp[e']
inductive J9 (s:List Sl):Ty→Ty→Prop
 |mk {t u:Ty}:u.kind=(iE s t).kind→u.name=(iE s t).name→u.id=(iE s t).id→u.home=(iE s t).home→u.args.length=(iE s t).args.length→(∀(i:Nat) a b,(iE s t).args[i]?=some a→u.args[i]?=some b→J9 s a b)→J9 s t u
theorem c373{s:de}(hs:Sm s.sl)(hO:∀x∈s.sl,x.ty.Ok)(r:Nat):∀t:Ty,Tr s.sl t r→t.Ok→∃u:Ty,(aF AP).p 373 [s.pv,t.pv]=some [u.pv]∧u.Ok∧u.nodes.length=r∧J9 s.sl t u:=by
 induction r using Nat.strongRecOn with
 |ind r ih=>
   intro t ht hto;have k:=c386 hs (t:=t);have hw:(wk s.sl (s.sl.length+1) t).Ok:=mK hO hto;obtain⟨ns,hn,hr⟩:=ht.inv;unfold iE at hn
   obtain⟨us,e,h1,h2,h3,h4⟩:=UT (s:=s) (P:=J9 s.sl) hw hn.1 (fun i a n hi hni=>by
     have:=yu hni;exact ih n (by omega) a (hn.2 i a n hi hni) (hw.gh a (aQ hi))) _ 0 rfl (by omega) [] rfl (by simp) rfl (by simp)
   refine⟨⟨(wk s.sl (s.sl.length+1) t).kind,(wk s.sl (s.sl.length+1) t).name,(wk s.sl (s.sl.length+1) t).id,(wk s.sl (s.sl.length+1) t).home,us⟩,?_,⟨by have:=hw.sm;unfold Sm at *;simp only;omega,h2⟩,by rw[Ty.aL];simp only[List.length_cons];omega,.mk rfl rfl rfl rfl h1 h4⟩;rw[ah (af:=g373) rfl rfl (by decide)];rw[g373L0e]at e;generalize wk s.sl (s.sl.length+1) t=x at *;simp at k;simp[sC,tC,zC,uC]at e;simp[g373,k,g373L0e,e]
theorem c355{s:de}(hs:Sm s.sl)(hO:∀x∈s.sl,x.ty.Ok){m:Nat}(hm:m<1000000){t:Ty}(ht:t.Ok):∃r:Nat,(aF AP).p 355 [s.pv,t.pv,vI m]=some [vI r]∧1≤r∧r≤m+1∧(r≤m→Tr s.sl t r):=by
 obtain⟨r,e,h,h2,h3,_⟩:=c371 hs hO m hm t ht;refine⟨r,?_,h,h2,h3⟩;rw[ah (af:=g355) rfl rfl (by decide)];simp at e;have hmx:max (m:Int) 0=m:=by omega
 simp[g355,hmx,e]
theorem c355y{s:de}(hs:Sm s.sl)(hO:∀x∈s.sl,x.ty.Ok){m:Nat}(hm:m<1000000){t:Ty}(ht:t.Ok){r:Nat}(hT:Tr s.sl t r)(hr:r≤m):(aF AP).p 355 [s.pv,t.pv,vI m]=some [vI r]:=by
 obtain⟨r',e,_,_,_,h⟩:=c371 hs hO m hm t ht;rw[h r hT hr]at e;rw[ah (af:=g355) rfl rfl (by decide)];simp at e;have hmx:max (m:Int) 0=m:=by omega
 simp[g355,hmx,e]
theorem c358y{s:de}(hs:Sm s.sl)(hO:∀x∈s.sl,x.ty.Ok){t:Ty}(ht:t.Ok){r:Nat}(hT:Tr s.sl t r)(hr:r≤4000):∃u:Ty,(aF AP).p 358 [s.pv,t.pv]=some [u.pv,.bool true]∧u.Ok∧u.nodes.length=r∧J9 s.sl t u:=by
 have e:=c355y hs hO (m:=4000) (by omega) ht hT hr;obtain⟨u,e2,h⟩:=c373 hs hO r t hT ht;refine⟨u,?_,h⟩;simp at e e2;have hr':¬(4000:Int)<r:=by omega
 rw[ah (af:=g358) rfl rfl (by decide)];simp[g358,e,hr',e2]
theorem c358{s:de}(hs:Sm s.sl)(hO:∀x∈s.sl,x.ty.Ok){t:Ty}(ht:t.Ok):∃(u:Ty) (b:Bool),(aF AP).p 358 [s.pv,t.pv]=some [u.pv,.bool b]∧u.Ok∧u.nodes.length≤4000:=by
 obtain⟨r,e,h1,h2,h3⟩:=c355 hs hO (m:=4000) (by omega) ht;simp at e;by_cases hr:r≤4000
 · obtain⟨u,e2,hu,hnu,_⟩:=c373 hs hO r t (h3 hr) ht;refine⟨u,true,?_,hu,by omega⟩;simp at e2;have hr':¬(4000:Int)<r:=by omega
   rw[ah (af:=g358) rfl rfl (by decide)];simp[g358,e,hr',e2]
 · refine⟨bC,false,?_,bL rfl,by rw[Ty.aL];simp[bC]⟩;have hr':(4000:Int)<r:=by omega
   rw[ah (af:=g358) rfl rfl (by decide)];simp[g358,e,hr',bC]
theorem c388:(aF AP).p 388 []=some [(de.mk [] []).pv]:=by
 rw[ah (af:=g388) rfl rfl (by decide)];simp[g388]
def bN(s:de)(home:Int)(b:Bool):de:=⟨s.sl++[⟨false,bC,home,b⟩],s.tr++[⟨s.sl.length,⟨false,bC,0,false⟩,true⟩]⟩
theorem c381{s:de}{n m:Nat}(hs:s.Ok n m)(hn:n≤1000000)(hm:m≤1300000000000)(home:Int)(b:Bool):(aF AP).p 381 [s.pv,vI home,.bool b]=some [(bN s home b).pv,(aK s.sl.length).pv]:=by
 have k:=c63 (n:=s.sl.length);have h1:=hs.sl;have h2:=hs.tr;have b1:s.sl.length*88≤140737488355328:=by omega
 have b2:(s.sl.length+1)*88≤140737488355328:=by omega
 have b3:s.tr.length*104≤140737488355328:=by omega
 have b4:(s.tr.length+1)*104≤140737488355328:=by omega
 have e1:=Qk.head s.sl;have e2:=ML.head s.tr;simp at k e1 e2;rw[ah (af:=g381) rfl rfl (by decide)];simp (disch:=omega) [g381,bN,bC,aK,k,b1,b2,b3,b4,e1,e2]
 (repeat' split)<;>simp_all
def tx(l:List (List UInt8)):List AV:=l.map fun s=>AV.pv (.str s)
structure Row{α:Type}(f:α→List PV)(sz:Nat):Prop where
 pos:0<sz
 len:∀x,(f x).length=sz
section
variable {α:Type} {f:α→List PV} {sz:Nat}
def cr(f:α→List PV)(l:List α):List AV:=l.flatMap fun x=>(f x).map .pv
theorem Ph:cr f []=[]:=rfl
theorem kJ{x:α}{l:List α}:cr f (x::l)=(f x).map .pv++cr f l:=rfl
theorem yv{l m:List α}:cr f (l++m)=cr f l++cr f m:=by simp[cr]
theorem gO(h:Row f sz):∀{l:List α},(cr f l).length=l.length*sz
 |[]=>by simp[cr]
 |x::r=>by rw[kJ,List.length_append,List.length_map,h.len,gO h,List.length_cons,Nat.add_mul];omega
theorem ep{l:List α}:∀v∈cr f l,∃p,v=AV.pv p:=by
 intro v hv;simp only[cr,List.mem_flatMap,List.mem_map]at hv;obtain⟨x,_,p,_,rfl⟩:=hv;exact⟨p,rfl⟩
theorem t_(h:Row f sz):∀{l:List α} {i:Nat} {x:α},l[i]?=some x→(cr f l).drop (i*sz)=(f x).map .pv++cr f (l.drop (i+1))
 |x::r,0,y,e=>by simp at e;subst e;simp[cr]
 |x::r,i+1,y,e=>by
   have ih:=t_ h (l:=r) (i:=i) (x:=y) (by simpa using e);rw[kJ,List.drop_append,List.drop_eq_nil_of_le (by rw[List.length_map,h.len,Nat.add_mul];omega),List.length_map,h.len,show (i+1)*sz-sz=i*sz from by rw[Nat.add_mul];omega,ih];simp
 |[],_,_,e=>by simp at e
theorem BA(h:Row f sz):∀{l:List α} {i:Nat},i≤l.length→(cr f l).take (i*sz)=cr f (l.take i)
 |l,0,_=>by simp[cr]
 |x::r,i+1,e=>by
   have ih:=BA h (l:=r) (i:=i) (by simpa using e);rw[kJ,List.take_append,List.take_of_length_le (by rw[List.length_map,h.len,Nat.add_mul];omega),List.length_map,h.len,show (i+1)*sz-sz=i*sz from by rw[Nat.add_mul];omega,ih];simp[kJ]
 |[],i+1,e=>by simp at e
theorem yx(h:Row f sz){l:List α}{i:Nat}{x:α}(e:l[i]?=some x){o k:Nat}(hk:o+k≤sz):((cr f l).drop (i*sz+o)).take k=(((f x).drop o).take k).map .pv:=by
 rw[←List.drop_drop,t_ h e,List.drop_append,List.take_append,List.length_drop,List.length_map,h.len];have e1:k-(sz-o)=0:=by omega
 rw[e1,List.take_zero,List.append_nil,←List.map_drop,←List.map_take]
theorem EY(h:Row f sz){l:List α}{i:Nat}(hi:i<l.length){o k:Nat}(hk:o+k≤sz):i*sz+o+k≤(cr f l).length:=by
 rw[gO h];have:(i+1)*sz≤l.length*sz:=Nat.mul_le_mul_right _ hi;rw[Nat.add_mul]at this;omega
theorem SK(h:Row f sz){l:List α}{i:Nat}{x:α}(e:l[i]?=some x){o k:Nat}(hk:o+k≤sz):bO true k (cr f l) (i*sz+o)=some (.agg ((((f x).drop o).take k).map .pv)):=by
 have hi:=(List.getElem?_eq_some_iff.1 e).1;unfold bO;rw[if_pos (EY h hi hk),if_pos rfl,yx h e hk]
theorem F7(h:Row f sz){l:List α}{i:Nat}{x y:α}(e:l[i]?=some x){o:Nat}{vs:List PV}(hk:o+vs.length≤sz)(hy:f y=(f x).take o++vs++(f x).drop (o+vs.length)):aR (cr f l) (i*sz+o) (vs.map .pv)=cr f (l.set i y):=by
 have hi:=(List.getElem?_eq_some_iff.1 e).1;have e3:l.set i y=l.take i++y::l.drop (i+1):=by rw[List.set_eq_take_append_cons_drop,if_pos hi]
 have e1:=t_ h e;have e2:=BA h (l:=l) (i:=i) (by omega);rw[e3,aE,yv,kJ,←e2,hy]
 have e4:(cr f l).drop (i*sz+o+(vs.map AV.pv).length)=((f x).drop (o+vs.length)).map .pv++cr f (l.drop (i+1)):=by
   rw[List.length_map,Nat.add_assoc,←List.drop_drop,e1,List.drop_append,List.length_map,h.len,show o+vs.length-sz=0 from by omega];simp
 have e5:(cr f l).take (i*sz+o)=(cr f l).take (i*sz)++((f x).take o).map .pv:=by
   rw[List.take_add,e1,List.take_append,List.length_map,h.len,show o-sz=0 from by omega];simp
 rw[e4,e5];simp
theorem F8(h:Row f sz):∀{l:List α},∃ps,fC (cr f l)=some ps∧(chunk sz l.length ps).map PV.agg=l.map fun x=>.agg (f x)
 |[]=>⟨[],rfl,rfl⟩
 |x::r=>by
   obtain⟨ps,h1,h2⟩:=F8 h (l:=r)
   have key:∀(a:List PV) (b:List AV),fC b=some ps→fC (a.map AV.pv++b)=some (a++ps):=by
     intro a b hb;induction a with
     |nil=>simpa using hb
     |cons c a ih=>simp only[List.map_cons,List.cons_append,fC,me,ih]
   refine⟨f x++ps,key _ _ h1,?_⟩;simp only[List.length_cons,chunk,List.map_cons];rw[List.take_left' (h.len x),List.drop_left' (h.len x),h2]
theorem rX(h:Row f sz){l:List α}:((fC (cr f l)).bind (fD sz true l.length)).map PV.aw=some (.aw (l.map fun x=>.agg (f x))):=by
 obtain⟨ps,h1,h2⟩:=F8 h (l:=l);rw[h1];simp only[Option.bind_some,fD,if_true,Option.map_some,h2]
theorem yy(h:Row f sz){l:List α}:((l.map fun x=>PV.agg (f x)).flatMap aZ).map AV.pv=cr f l:=by
 induction l with
 |nil=>rfl
 |cons x r ih=>simp only[List.map_cons,List.flatMap_cons,List.map_append,ih,kJ,aZ]
end
abbrev nn(k:Nat):Sh:=List.replicate k none
theorem ua(k:Nat):bf (nn k):=by
 intro cs hc;simp[nn,List.mem_replicate]at hc
end Go.Ab.Lw
namespace Go.Ab.Lw
open Ev
theorem Wz{sz:Nat}{l:List PV}{k:IntKind}{h:Int}(h0:0≤h)(h1:h≤l.length):dT false sz false true false [.pv (.aw l),.pv (.int k h)]=some (.pv (.aw (l.take h.toNat))):=by
 simp[dT,cf,fY,h0,h1]
theorem UU{sz τ:Nat}{l:List PV}{k:IntKind}{h:Int}(h0:0≤h)(h1:h≤l.length):dT false sz false true false [.own l τ,.pv (.int k h)]=some (.pv (.aw (l.take h.toNat))):=by
 simp[dT,cf,fY,h0,h1]
def Sl.cells(x:Sl):List PV:=[.bool x.bd,vI x.ty.kind,.str x.ty.name,vI x.ty.id,vI x.ty.home,.aw (x.ty.args.map Ty.pv),vI x.home,.bool x.base]
theorem oA:Row Sl.cells 8:=⟨by omega,fun _=>rfl⟩
theorem SL{l:List Sl}:((fC (cr Sl.cells l)).bind (fD 8 true l.length)).map PV.aw=some (.aw (l.map Sl.pv)):=rX oA
theorem SM{l:List Sl}:((l.map Sl.pv).flatMap aZ).map AV.pv=cr Sl.cells l:=yy oA
def gj(s:de)(i:Nat)(o x:Sl):de:=⟨s.sl.set i x,s.tr++[⟨i,o,false⟩]⟩
theorem c393{s:de}{n m:Nat}(hs:s.Ok n m)(hn:n≤1000000)(hm:m≤1300000000000){i:Nat}{o:Sl}(hi:s.sl[i]?=some o)(x:Sl):(aF AP).p 393 [s.pv,vI i,x.pv]=some [(gj s i o x).pv,.bool true]:=by
 have h1:=hs.sl;have h2:=hs.tr;have hl:i<s.sl.length:=by obtain⟨h,_⟩:=List.getElem?_eq_some_iff.1 hi;exact h
 have b1:s.sl.length*88≤140737488355328:=by omega
 have b3:s.tr.length*104≤140737488355328:=by omega
 have b4:(s.tr.length+1)*104≤140737488355328:=by omega
 have hge:¬s.sl.length≤i:=by omega
 have hle8:i*8+8≤s.sl.length*8:=by omega
 have hf:∀S:Sh,bR S (.au 8 0)=none:=fun _=>rfl;have e1:=Qk.head s.sl
 have e2:=ML.head s.tr;have hne:¬s.sl=[]:=by intro h;rw[h]at hl;simp at hl
 have hmp:=SM (l:=s.sl);have hB:bY (cr Sl.cells s.sl)=false:=bV ep;have hB2:bY (cr Sl.cells (s.sl.set i x))=false:=bV ep;have hlen:(cr Sl.cells s.sl).length=s.sl.length*8:=gO oA;have hlen2:(cr Sl.cells (s.sl.set i x)).length=s.sl.length*8:=by rw[gO oA];simp
 have hle:=EY oA hl (o:=0) (k:=8) (by omega)
 have hset:=F7 oA hi (y:=x) (o:=0) (vs:=x.cells) (by rw[oA.len];omega) (by
   simp[Sl.cells])
 have hq:∀aN ts,cg aN ts [some (cr Sl.cells s.sl)]=([some (cr Sl.cells s.sl)],aN,ts):=(bf.one ep).norm;have hq2:∀aN ts,cg aN ts [some (cr Sl.cells (s.sl.set i x))]=([some (cr Sl.cells (s.sl.set i x))],aN,ts):=(bf.one ep).norm;have hlst:=SL (l:=s.sl.set i x);rw[List.length_set]at hlst;simp only[Nat.add_zero]at hset hle;generalize cr Sl.cells (s.sl.set i x)=T1 at *;generalize cr Sl.cells s.sl=T at *;simp[Sl.cells]at hset;simp at hlst hmp e1 e2;rw[ah (af:=g393) rfl rfl (by decide)];simp (disch:=omega) [-getElem?_pos,g393,hi,hl,b1,b3,b4,e1,e2,hne,hmp,hB,hB2,hlen,hlen2,hset,hq,hq2,hlst,gj,hge,hle8,hf]
theorem c194g{t:Ty}(ht:t.Ok):∃(a b:Ty) (c:Bool),(aF AP).p 194 [t.pv]=some [a.pv,b.pv,.bool c]∧a.Ok∧b.Ok∧(c=true→t=⟨4,[45,62],t.id,t.home,[a,b]⟩):=by
 by_cases h:t.kind=4∧t.name=[45,62]∧t.args.length=2
 · obtain⟨h1,h2,h3⟩:=h
   match e:t.args,h3 with
   |[a,b],_=>
     refine⟨a,b,true,?_,ht.gh a (by simp[e]),ht.gh b (by simp[e]),?_⟩
     ·rw[ah (af:=g194) rfl rfl (by decide)];simp[g194,h1,h2,e]
     ·intro _;cases t;simp at h1 h2 e⊢;simp[h1,h2,e]
 · refine⟨bC,bC,false,?_,bL rfl,bL rfl,by simp⟩;rw[ah (af:=g194) rfl rfl (by decide)];by_cases h1:t.kind=4
   · by_cases h2:t.name=[45,62]
     · have h3:¬(t.args.length:Int)=2:=by
         intro q;exact h ⟨h1,h2,by omega⟩
       simp[g194,h1,h2,h3,bC]
     ·simp[g194,h1,h2,bC]
   ·simp[g194,h1,bC]
theorem WA{S:List Ty}{l:List Ty}(hS:Sm l)(hO:∀t∈l,t.Ok)(hk:∀x∈l.flatMap (Ty.eJ 3),x∈S):∀(n i:Nat),l.length-i=n→i≤l.length→∀out,f_ S out →
   cl AP g59L0 ⟨[(0,.pv (.aw (l.map Ty.pv))),(3,.own (out.map Ty.pv) 0),(4,.pv (vI i))],[],[],[out.length]⟩ =
     some (.exit 0,⟨[(0,.pv (.aw (l.map Ty.pv))),(3,.own ((((l.drop i).flatMap (Ty.eJ 3)).foldl gT out).map Ty.pv) 0),(4,.pv (vI l.length)),(8,.pv (.bool false))],[],[],[(((l.drop i).flatMap (Ty.eJ 3)).foldl gT out).length]⟩)
 |0,i,hn,hi,out,hc=>by
   have:i=l.length:=by omega
   subst this;rw[g59L0e];simp[g59B0]
 |n+1,i,hn,hi,out,hc=>by
   have hi:i<l.length:=(by omega);obtain⟨x,hx⟩:=aP hi;unfold Sm at hS;have hkx:∀y∈x.eJ 3,y∈S:=fun y hy=>hk y (by simp only[List.mem_flatMap];exact⟨x,aQ hx,hy⟩)
   have k:=c99 (kd:=3) (hO x (aQ hx)) hkx out hc;have ih:=WA hS hO hk n (i+1) (by omega) (by omega) _ (hc.fold hkx);rw[g59L0e]at ih⊢;rw[bl hx];simp at k ih;simp (disch:=omega) [-getElem?_pos,g59B0,hx,hi,k,aq];rw[g59L0e];simp[ih]
theorem c59{S:List Ty}(hf:S.length<1099511627776)(hSo:∀x∈S,x.Ok){l:List Ty}(hS:Sm l)(hO:∀t∈l,t.Ok)(hk:∀x∈l.flatMap (Ty.eJ 3),x∈S):∃r:List Ty,(aF AP).p 59 [.aw (l.map Ty.pv)]=some [.aw (r.map Ty.pv)]∧Sm r∧∀x∈r,x∈S:=by
 have c0:f_ S []:=⟨by simp,by simp,hf,hSo⟩;have h:=WA hS hO hk _ 0 rfl (by omega) [] c0;have hc:=c0.fold hk;refine⟨_,?_,hc.len,hc.sub⟩;rw[ah (af:=g59) rfl rfl (by decide)];rw[g59L0e]at h;simp at h;simp[g59,g59L0e,h]
def nP(s:List Sl)(t:Ty):Bool:=decide (t.kind=1∧0≤t.id∧t.id<s.length)
theorem c396{s:de}{t:Ty}:(aF AP).p 396 [s.pv,t.pv]=some [.bool (nP s.sl t)]:=by
 rw[ah (af:=g396) rfl rfl (by decide)];by_cases h1:t.kind=1
 · by_cases h2:0≤t.id
   · by_cases h3:t.id<s.sl.length
     ·simp[g396,nP,h1,h2,h3]
     ·simp[g396,nP,h1,h2,h3]
   ·simp[g396,nP,h1,h2]
 ·simp[g396,nP,h1]
inductive ef:Ty→Int→Prop
 |var {t:Ty}:t.kind=1→ef t t.id
 |arg {t a:Ty} {v:Int}:t.kind≠1→a∈t.args→ef a v→ef t v
def Edge(s:List Sl)(i v:Int):Prop:=∃(k:Nat) (x:Sl),i=k∧s[k]?=some x∧x.bd=true∧ef x.ty v
inductive rY (s:List Sl):Int→Int→Prop
 |refl (i:Int):rY s i i
 |step {i j k:Int}:Edge s i j→rY s j k→rY s i k
theorem rY.trans{s:List Sl}{i j k:Int}(h:rY s i j)(h':rY s j k):rY s i k:=by
 induction h with
 |refl=>exact h'
 |step e _ ih=>exact .step e (ih h')
def JI(s:List Sl):Prop:=∃rk:Int→Nat,∀i v,Edge s i v→rk v<rk i
theorem JI.of{s s':List Sl}(h:JI s)(he:∀i v,Edge s' i v→Edge s i v):JI s':=by
 obtain⟨rk,hr⟩:=h;exact⟨rk,fun i v e=>hr i v (he i v e)⟩
theorem ef.bound(rk:Int→Nat)(t:Ty):∃M,∀v,ef t v→rk v<M:=by
 refine Ty.dJ (p:=fun t=>∃M,∀v,ef t v→rk v<M) ?_ t;intro t ih;by_cases k:t.kind=1
 · refine⟨rk t.id+1,?_⟩;intro v h;cases h with
   |var _=>omega
   |arg q _ _=>exact absurd k q
 · have key:∀l:List Ty,(∀a∈l,∃M,∀v,ef a v→rk v<M)→∃M,∀a∈l,∀v,ef a v→rk v<M:=by
     intro l;induction l with
     |nil=>intro _;exact⟨0,by simp⟩
     |cons a r ihr=>
       intro h;obtain⟨M,hM⟩:=h a (by simp);obtain⟨N,hN⟩:=ihr fun b hb=>h b (by simp[hb]);refine⟨M+N,?_⟩;intro b hb v hv;simp at hb;rcases hb with rfl|hb
       ·have:=hM v hv;omega
       ·have:=hN b hb v hv;omega
   obtain⟨M,hM⟩:=key t.args ih;refine⟨M,?_⟩;intro v h;cases h with
   |var q=>exact absurd q k
   |arg _ ha h=>exact hM _ ha v h
theorem BB{s:List Sl}{k:Nat}{x:Sl}{i v:Int}(h:Edge (s.set k x) i v):(i=k∧x.bd=true∧ef x.ty v)∨(i≠k∧Edge s i v):=by
 obtain⟨j,y,rfl,hy,hb,ho⟩:=h;rw[List.getElem?_set]at hy;by_cases e:k=j
 · subst e;by_cases hl:k<s.length
   ·simp[hl]at hy;subst hy;exact .inl ⟨rfl,hb,ho⟩
   ·simp[hl]at hy
 ·simp[e]at hy;exact .inr ⟨by omega,j,y,rfl,hy,hb,ho⟩
theorem BC{s:List Sl}{k:Nat}{o x:Sl}(h:JI s)(hk:s[k]?=some o)(hb:x.bd=o.bd)(ht:x.ty=o.ty):JI (s.set k x):=by
 refine h.of ?_;intro i v e;rcases BB e with⟨rfl,b,oc⟩|⟨_,e⟩
 ·exact⟨k,o,rfl,hk,by rw[←hb];exact b,by rw[←ht];exact oc⟩
 ·exact e
theorem BD{s:List Sl}{k:Nat}{x:Sl}(h:JI s)(hn:∀v,ef x.ty v→¬rY s v k):JI (s.set k x):=by
 classical
 obtain⟨rk,hr⟩:=h;obtain⟨M,hM⟩:=ef.bound rk x.ty;refine⟨fun j=>if rY s j k then rk j+M else rk j,?_⟩;intro i v e;show (if rY s v k then rk v+M else rk v)<(if rY s i k then rk i+M else rk i);rcases BB e with⟨rfl,b,oc⟩|⟨_,e⟩
 ·have h1:=hM v oc;rw[if_neg (hn v oc),if_pos (.refl _)];omega
 · have h1:=hr i v e;by_cases q:rY s v k
   ·rw[if_pos q,if_pos (.step e q)];omega
   ·rw[if_neg q];split<;>omega
theorem MM{s:List Sl}{x:Sl}(h:JI s)(hb:x.bd=false):JI (s++[x]):=by
 refine h.of ?_
 rintro i v ⟨k,y,rfl,hy,b,o⟩
 by_cases hl:k<s.length
 ·rw[List.getElem?_append_left hl]at hy;exact⟨k,y,rfl,hy,b,o⟩
 · rw[List.getElem?_append_right (by omega)]at hy;by_cases e:k-s.length=0
   ·rw[e]at hy;simp at hy;subst hy;rw[hb]at b;cases b
   · have:([x]:List Sl)[k-s.length]?=none:=by simp;omega
     rw[this]at hy;cases hy
def ub(s:List Sl):Nat:=s.countP fun x=>!x.bd
theorem rZ:∀{s:List Sl} {k:Nat} {o x:Sl},s[k]?=some o→x.bd=o.bd→ub (s.set k x)=ub s
 |[],k,o,x,h,_=>by simp at h
 |a::r,0,o,x,h,hb=>by simp at h;subst h;simp[ub,List.countP_cons,hb]
 |a::r,k+1,o,x,h,hb=>by
   simp at h;have:=rZ h hb;simp only[ub]at this;simp[ub,List.countP_cons,this]
theorem yz:∀{s:List Sl} {k:Nat} {o x:Sl},s[k]?=some o→o.bd=false→x.bd=true→ub (s.set k x)+1=ub s
 |[],k,o,x,h,_,_=>by simp at h
 |a::r,0,o,x,h,hb,hx=>by simp at h;subst h;simp[ub,List.countP_cons,hb,hx]
 |a::r,k+1,o,x,h,hb,hx=>by
   simp at h;have:=yz h hb hx;simp only[ub]at this;simp[ub,List.countP_cons];omega
def bT(dn:List Bool):List AV:=dn.map fun b=>.pv (.bool b)
def fX(s:de)(T:List AV)(n:Nat)(out:List Int):Sh:=[some T,some [.pv (.aw (s.sl.map Sl.pv)),.pv (.aw (s.tr.map Ch.pv)),.own (out.map vI) 0,.aT 0 1 n false]]
structure Ql(T:List AV):Prop where
 norm:∀aN ts,bn aN ts T=(T,aN,ts)
 mp:bY T=false
 sh:∀k,T.map (cm k)=T
theorem UW{s:de}{S out:List Int}{t:Ty}(hk:t.kind=1)(hb:iD s.sl t=none)(hc:iC S out){T:List AV}(hT:Ql T){n:Nat} :
   (aF AP).i 387 [.aM 1 0,.pv t.pv] (fX s T n out) [out.length]=some ([],fX s T n (if t.id∈out then out else out++[t.id]),[(if t.id∈out then out else out++[t.id]).length]):=by
 have k1:=c392 (s:=s) (t:=t);have hl:=hc.len;have k2:=c95 hl (y:=t.id);unfold Sm at hl;have hbb:(out.length+1)*8≤140737488355328:=by omega
 have hh:a_ 1 (out.map vI)=true:=kq.head out;have hn:=hT.norm;rw[hb]at k1;simp[hk]at k1;rw[aB (af:=g387) rfl (by simp[g387])];by_cases e2:t.id∈out
 ·rw[decide_eq_true e2]at k2;simp[g387,fX,hk,k1,k2,e2,hn]
 ·rw[decide_eq_false e2]at k2;simp[g387,fX,hk,k1,k2,e2,hn,hbb,hh]
theorem UX{s:de}{out:List Int}{t:Ty}{x:Sl}{i:Nat}(hi:t.id=i)(hk:t.kind=1)(hx:s.sl[i]?=some x)(hb:iD s.sl t=some x){T:List AV}(hT:Ql T){n:Nat}(hn:T.length=n)(hin:i<n)(hd:T[i]?=some (.pv (.bool true))) :
   (aF AP).i 387 [.aM 1 0,.pv t.pv] (fX s T n out) [out.length]=some ([],fX s T n out,[out.length]):=by
 have k1:=c392 (s:=s) (t:=t);have hnm:=hT.norm;have hmp:=hT.mp;have hsh:=hT.sh;have hle:i+1≤T.length:=by omega
 rw[hb]at k1;simp[hk,hi]at k1;rw[aB (af:=g387) rfl (by simp[g387])];simp (disch:=omega) [-getElem?_pos,g387,fX,hk,hi,k1,hnm,hin,hd,hmp,hle,bO]
theorem UY{s:de}{out out':List Int}{t:Ty}{x:Sl}{i:Nat}(hi:t.id=i)(hk:t.kind=1)(hx:s.sl[i]?=some x)(hb:iD s.sl t=some x){T T1 T2:List AV}(hT:Ql T)(hT1:Ql T1)(hT2:Ql T2){n:Nat}(hn:T.length=n)(hin:i<n)(hd:T[i]?=some (.pv (.bool false)))
   (hs:aR T i [.pv (.bool true)]=T1) (e:(aF AP).i 387 [.aM 1 0,.pv x.ty.pv] (fX s T1 n out) [out.length]=some ([],fX s T2 n out',[out'.length])) :
   (aF AP).i 387 [.aM 1 0,.pv t.pv] (fX s T n out) [out.length]=some ([],fX s T2 n out',[out'.length]):=by
 have k1:=c392 (s:=s) (t:=t);have hnm:=hT.norm;have hnm1:=hT1.norm;have hnm2:=hT2.norm;have hsh1:=hT1.sh;have hsh2:=hT2.sh;have hmp:=hT.mp;have hsh:=hT.sh;have hl:i<s.sl.length:=by obtain⟨h,_⟩:=List.getElem?_eq_some_iff.1 hx;exact h
 have hle:i+1≤T.length:=by omega
 rw[hb]at k1;simp[hk,hi]at k1;simp[fX]at e;simp at hs;rw[aB (af:=g387) rfl (by simp[g387])];simp (disch:=omega) [-getElem?_pos,g387,fX,hk,hi,k1,hnm,hnm1,hnm2,hin,hd,hx,hl,hmp,hs,hle,e,bO,hsh,hsh1,hsh2]
def SN(s:de)(n:Nat)(t:Ty)(T:List AV)(out:List Int)(T':List AV)(out':List Int):Prop:=(aF AP).i 387 [.aM 1 0,.pv t.pv] (fX s T n out) [out.length]=some ([],fX s T' n out',[out'.length])
theorem UZ{s:de}{n:Nat}{t:Ty}(ht:t.Ok)(J:Nat→List AV→List Int→Prop)(hP:∀i T out,J i T out→Ql T)
   (hJ:∀i a,t.args[i]?=some a→∀T out,J i T out→∃T' out',SN s n a T out T' out'∧J (i+1) T' out'):∀(k i:Nat),t.args.length-i=k→i≤t.args.length→∀T out,J i T out→∃T' out',
   cl AP g387L0 ⟨[(0,.aM 1 0),(3,.au 3 0),(4,.pv (vI i))],[(3,tC t)],fX s T n out,[out.length]⟩ =
     some (.exit 1,⟨[(0,.aM 1 0),(3,.au 3 0),(4,.pv (vI t.args.length)),(68,.pv (.bool false))],[(3,tC t)],fX s T' n out',[out'.length]⟩)∧J t.args.length T' out'
 |0,i,hk,hi,T,out,h=>by
   have:i=t.args.length:=by omega
   subst this;refine⟨T,out,?_,h⟩;have hn:=(hP _ _ _ h).norm;rw[g387L0e];simp[g387B0,tC,fX,hn]
 |k+1,i,hk,hi,T,out,h=>by
   have hi:i<t.args.length:=(by omega);obtain⟨a,ha⟩:=aP hi;have hsm:=ht.sm;unfold Sm at hsm;obtain⟨T1,out1,e,h1⟩:=hJ i a ha T out h;obtain⟨T',out',e',h2⟩:=UZ ht J hP hJ k (i+1) (by omega) (by omega) T1 out1 h1;refine⟨T',out',?_,h2⟩;have hn:=(hP _ _ _ h).norm;have hn1:=(hP _ _ _ h1).norm;have hs:=(hP _ _ _ h).sh;have hs1:=(hP _ _ _ h1).sh;unfold SN at e;rw[g387L0e]at e' ⊢;simp[fX]at e;simp[tC,fX,hn1]at e';simp (disch:=omega) [-getElem?_pos,g387B0,tC,fX,hi,ha,hn,hn1,hs,hs1,aq,e];rw[g387L0e];simp[e',hn1]
theorem U0{s:de}{n:Nat}{t:Ty}(ht:t.Ok)(hk:t.kind≠1)(J:Nat→List AV→List Int→Prop)(hP:∀i T out,J i T out→Ql T)
   (hJ:∀i a,t.args[i]?=some a→∀T out,J i T out→∃T' out',SN s n a T out T' out'∧J (i+1) T' out') {T:List AV} {out:List Int} (h:J 0 T out):∃T' out',SN s n t T out T' out'∧J t.args.length T' out':=by
 obtain⟨T',out',e,h1⟩:=UZ (s:=s) (n:=n) ht J hP hJ _ 0 rfl (by omega) T out h;refine⟨T',out',?_,h1⟩;have hn:=(hP _ _ _ h).norm;have hn1:=(hP _ _ _ h1).norm;have hs1:=(hP _ _ _ h1).sh;unfold SN;rw[aB (af:=g387) rfl (by simp[g387])];rw[g387L0e]at e;simp[tC,fX,hn]at e;simp[g387,fX,hk,hn,hn1,hs1,g387L0e,e]
def ky(s:List Sl)(v:Int):Prop:=∃(k:Nat) (x:Sl),v=k∧s[k]?=some x∧x.bd=true
theorem gk{s:List Sl}{t:Ty}(hk:t.kind=1)(h:iD s t=none):¬ky s t.id:=by
 rintro⟨k,x,e,hx,hb⟩
 unfold iD at h;have:0≤t.id:=by omega
 rw[if_pos ⟨hk,this⟩]at h;have hn:t.id.toNat=k:=by omega
 rw[hn,hx]at h;simp[hb]at h
theorem MN{s:List Sl}{i v:Int}(h:Edge s i v):ky s i:=by
 obtain⟨k,x,e,hx,hb,_⟩:=h;exact⟨k,x,e,hx,hb⟩
theorem mL{s:List Sl}{i v:Int}(h:rY s i v)(hb:¬ky s i):v=i:=by
 cases h with
 |refl=>rfl
 |step e _=>exact absurd (MN e) hb
theorem gP{t:Ty}{w:Int}(hk:t.kind=1)(h:ef t w):w=t.id:=by
 cases h with
 |var _=>rfl
 |arg q _ _=>exact absurd hk q
theorem SO{s:List Sl}{rk:Int→Nat}(hr:∀i v,Edge s i v→rk v<rk i){i v:Int}(h:rY s i v):rk v≤rk i:=by
 induction h with
 |refl=>omega
 |step e _ ih=>have:=hr _ _ e;omega
def Pj(s:List Sl)(j:Int)(out:List Int):Prop:=∀v,rY s j v→¬ky s v→v∈out
def RT(s:List Sl)(t:Ty)(v:Int):Prop:=∃w,ef t w∧rY s w v
theorem Pj.mono{s:List Sl}{j:Int}{out out':List Int}(h:Pj s j out)(ho:∀v∈out,v∈out'):Pj s j out':=fun v hv hb=>ho v (h v hv hb)
theorem kK{dn:List Bool}:∀v∈bT dn,∃p,v=AV.pv p:=by
 intro v hv;simp only[bT,List.mem_map]at hv;obtain⟨b,_,rfl⟩:=hv;exact⟨_,rfl⟩
theorem ie{dn:List Bool}:Ql (bT dn):=⟨fun _ _=>t4 kK,bV kK,fun _=>qa kK⟩
theorem MO{dn:List Bool}{i:Nat}(hi:i<dn.length)(b:Bool):aR (bT dn) i [.pv (.bool b)]=bT (dn.set i b):=by
 have:(bT dn).length=dn.length:=by simp[bT]
 simp only[aR,bT,List.length_cons,List.length_nil,Nat.zero_add];rw[←List.map_take,←List.map_drop,List.set_eq_take_append_cons_drop,if_pos hi];simp
theorem MP{dn:List Bool}{i j:Nat}(h:dn[j]?=some true):(dn.set i true)[j]?=some true:=by
 rw[List.getElem?_set];have hj:j<dn.length:=by obtain⟨h,_⟩:=List.getElem?_eq_some_iff.1 h;exact h
 by_cases e:i=j
 ·subst e;simp[hj]
 ·simp[e,h]
theorem BE{dn:List Bool}{i j:Nat}(h:(dn.set i true)[j]?=some true):i=j∨dn[j]?=some true:=by
 rw[List.getElem?_set]at h;by_cases e:i=j
 ·exact .inl e
 ·simp[e]at h;exact .inr h
structure U1(s:de)(S:List Int)(t:Ty)(dn:List Bool)(out:List Int)(dn':List Bool)(out':List Int):Prop where
 WB:SN s s.sl.length t (bT dn) out (bT dn') out'
 len:dn'.length=s.sl.length
 JJ:iC S out'
 sub:∀v∈out,v∈out'
 mono:∀j:Nat,dn[j]?=some true→dn'[j]?=some true
 all:∀v,RT s.sl t v→¬ky s.sl v→v∈out'
 new:∀j:Nat,dn'[j]?=some true→dn[j]?=some true∨Pj s.sl j out'
 own:∀v∈out',v∈out∨(RT s.sl t v∧¬ky s.sl v)
structure Xp(s:de)(S:List Int)(t:Ty)(dn:List Bool)(out:List Int)(i:Nat)(dn':List Bool)(out':List Int):Prop where
 len:dn'.length=s.sl.length
 JJ:iC S out'
 sub:∀v∈out,v∈out'
 mono:∀j:Nat,dn[j]?=some true→dn'[j]?=some true
 all:∀a∈t.args.take i,∀v,RT s.sl a v→¬ky s.sl v→v∈out'
 new:∀j:Nat,dn'[j]?=some true→dn[j]?=some true∨Pj s.sl j out'
 own:∀v∈out',v∈out∨((∃a∈t.args.take i,RT s.sl a v)∧¬ky s.sl v)
theorem Mq{s:de}{S:List Int}{rk:Int→Nat}(hr:∀i v,Edge s.sl i v→rk v<rk i)(hO:∀x∈s.sl,x.ty.Ok)(hS:∀x∈s.sl,∀w,ef x.ty w→w∈S)(N:Nat) :
   ∀t:Ty,t.Ok→(∀w,ef t w→rk w<N)→(∀w,ef t w→w∈S)→∀(dn:List Bool) (out:List Int),dn.length=s.sl.length→iC S out→(∀j:Nat,dn[j]?=some true→RT s.sl t j→Pj s.sl j out) →
     ∃dn' out',U1 s S t dn out dn' out':=by
 induction N using Nat.strongRecOn with
 |ind N IH=>
   intro t
   refine Ty.dJ (p:=fun t=>t.Ok→(∀w,ef t w→rk w<N)→(∀w,ef t w→w∈S)→∀(dn:List Bool) (out:List Int),dn.length=s.sl.length→iC S out→(∀j:Nat,dn[j]?=some true→RT s.sl t j→Pj s.sl j out) →
     ∃dn' out',U1 s S t dn out dn' out') ?_ t
   intro t ih ht hN hw dn out hd hc hpre;by_cases hk:t.kind=1
   · have oc:ef t t.id:=.var hk;cases hb:iD s.sl t with
     |none=>
       have hf:=gk hk hb;have e:=UW (n:=s.sl.length) hk hb hc (ie (dn:=dn))
       have ea:(if t.id∈out then out else out++[t.id])=cS out t:=by
         unfold cS;by_cases q:t.id∈out<;>simp[q,hk]
       rw[ea]at e
       have hs:∀v∈out,v∈cS out t:=by
         intro v hv;unfold cS;split
         ·simp[hv]
         ·exact hv
       refine⟨dn,cS out t,e,hd,hc.add (fun _=>hw _ oc),hs,fun _ h=>h,?_,fun _ h=>.inl h,fun v hv=>?_⟩
       rotate_left
       · unfold cS at hv;split at hv
         · simp only[List.mem_append,List.mem_singleton]at hv;rcases hv with hv|rfl
           ·exact .inl hv
           ·exact .inr ⟨⟨t.id,oc,.refl _⟩,hf⟩
         ·exact .inl hv
       rintro v ⟨w,ho,hv⟩ _
       have h1:=gP hk ho;subst h1;rw[mL hv hf];unfold cS;by_cases q:t.id∈out<;>simp[q,hk]
     |some x=>
       obtain⟨_,i,hi,hx,hbd⟩:=d4 hb;have hl:i<s.sl.length:=by obtain⟨h,_⟩:=List.getElem?_eq_some_iff.1 hx;exact h
       have hTl:(bT dn).length=s.sl.length:=(by simp[bT,hd]);obtain⟨b,hdb⟩:=aP (l:=dn) (i:=i) (by omega);have hTd:(bT dn)[i]?=some (.pv (.bool b)):=(by simp[bT,hdb]);have yA:∀w,ef x.ty w→Edge s.sl t.id w:=fun w ho=>⟨i,x,hi,hx,hbd,ho⟩
       cases b with
       |true=>
         have e:=UX (out:=out) hi hk hx hb (ie (dn:=dn)) hTl hl hTd;refine⟨dn,out,e,hd,hc,fun _ h=>h,fun _ h=>h,?_,fun _ h=>.inl h,fun _ h=>.inl h⟩
         rintro v ⟨w,ho,hv⟩ hnb
         have h1:=gP hk ho;subst h1;have:=hpre i hdb ⟨t.id,oc,by rw[hi];exact .refl _⟩;rw[hi]at hv;exact this v hv hnb
       |false=>
         have hlt:rk t.id<N:=hN _ oc
         obtain⟨dn',out',P⟩:=IH (rk t.id) hlt x.ty (hO x (aQ hx)) (fun w ho=>hr _ _ (yA w ho)) (hS x (aQ hx)) (dn.set i true) out (by simp[hd]) hc (by
           intro j hj ⟨w,ho,hv⟩;have hlt2:rk j<rk t.id:=by have:=SO hr hv;have:=hr _ _ (yA w ho);omega
           rcases BE hj with rfl|hj
           ·rw[hi]at hlt2;omega
           ·exact hpre j hj ⟨t.id,oc,.step (yA w ho) hv⟩)
         have e:=UY hi hk hx hb (ie (dn:=dn)) (ie (dn:=dn.set i true)) (ie (dn:=dn')) hTl hl hTd (MO (by omega) true) P.WB
         have fin:Pj s.sl t.id out':=by
           intro v hv hnb;cases hv with
           |refl=>exact absurd ⟨i,x,hi,hx,hbd⟩ hnb
           |step e2 hv=>
             obtain⟨k,y,e3,hy,_,ho⟩:=e2;have:k=i:=by omega
             subst this;rw[hx]at hy;cases hy;exact P.all v ⟨_,ho,hv⟩ hnb
         refine⟨dn',out',e,P.len,P.JJ,P.sub,fun j h=>P.mono j (MP h),?_,?_,fun v hv=>(P.own v hv).imp_right fun⟨⟨w,ho,hv⟩,hb⟩=>⟨⟨t.id,oc,.step (yA w ho) hv⟩,hb⟩⟩
         · rintro v ⟨w,ho,hv⟩ hnb
           have h1:=gP hk ho;subst h1;exact fin v hv hnb
         · intro j hj;rcases P.new j hj with h|h
           · rcases BE h with rfl|h
             ·exact .inr (by rw[←hi];exact fin)
             ·exact .inl h
           ·exact .inr h
   · obtain⟨T',out',e,dn',rfl,h⟩:=U0 (s:=s) (n:=s.sl.length) ht hk (fun i T o=>∃d,T=bT d∧Xp s S t dn out i d o) (by rintro i T o ⟨d,rfl,_⟩;exact ie) (by
       rintro i a ha T o ⟨d,rfl,h⟩
       have hm:=aQ ha
       obtain⟨d',o',P⟩:=ih a hm (ht.gh a hm) (fun w ho=>hN w (.arg hk hm ho)) (fun w ho=>hw w (.arg hk hm ho)) d o h.len h.JJ (by
         intro j hj ⟨w,ho,hv⟩;rcases h.new j hj with hj|hj
         ·exact (hpre j hj ⟨w,.arg hk hm ho,hv⟩).mono h.sub
         ·exact hj)
       refine⟨bT d',o',P.WB,d',rfl,P.len,P.JJ,fun v hv=>P.sub v (h.sub v hv),fun j hj=>P.mono j (h.mono j hj),?_,?_,fun v hv=>?_⟩
       rotate_left
       rotate_left
       · rw[List.take_add_one,ha];rcases P.own v hv with hv|⟨hv,hb⟩
         ·exact (h.own v hv).imp_right fun⟨⟨b,hb,hr⟩,h2⟩=>⟨⟨b,by simp[hb],hr⟩,h2⟩
         ·exact .inr ⟨⟨a,by simp,hv⟩,hb⟩
       · intro b hb v hv hnb;rw[List.take_add_one,ha]at hb;simp at hb;rcases hb with hb|rfl
         ·exact P.sub v (h.all b hb v hv hnb)
         ·exact P.all v hv hnb
       · intro j hj;rcases P.new j hj with hj|hj
         · rcases h.new j hj with hj|hj
           ·exact .inl hj
           ·exact .inr (hj.mono P.sub)
         ·exact .inr hj) ⟨dn,rfl,hd,hc,fun _ h=>h,fun _ h=>h,by simp,fun _ h=>.inl h,fun _ h=>.inl h⟩
     refine⟨dn',out',e,h.len,h.JJ,h.sub,h.mono,?_,h.new,fun v hv=>(h.own v hv).imp_right fun⟨⟨a,ha,w,ho,hr⟩,hb⟩=>⟨⟨w,.arg hk (List.mem_of_mem_take ha) ho,hr⟩,hb⟩⟩
     rintro v ⟨w,ho,hv⟩ hnb
     cases ho with
     |var q=>exact absurd q hk
     |arg _ ha ho=>exact h.all _ (by simpa using ha) v ⟨w,ho,hv⟩ hnb
inductive Ex.Ok:Ex→Prop
 |mk {e:Ex}:e.kids.length≤1000→e.aY.length≤1000→(∀a∈e.aY,a.vars.length≤1000)→e.ty.Ok→(∀x∈e.ch,x.Ok)→e.Ok
theorem Ex.Ok.k{e:Ex}(h:e.Ok):e.kids.length≤1000:=by cases h;assumption
theorem Ex.Ok.a{e:Ex}(h:e.Ok):e.aY.length≤1000:=by cases h;assumption
theorem Ex.Ok.v{e:Ex}(h:e.Ok):∀a∈e.aY,a.vars.length≤1000:=by cases h;assumption
theorem Ex.Ok.t{e:Ex}(h:e.Ok):e.ty.Ok:=by cases h;assumption
theorem Ex.Ok.c{e:Ex}(h:e.Ok):∀x∈e.ch,x.Ok:=by cases h;assumption
theorem Ex.yB{e:Ex}:e.ch.length=e.kids.length+e.aY.length:=by simp[Ex.ch]
@[simp] def Ex.cl(e:Ex):List AV:=[.pv (vI e.kind),.pv (vI e.pos),.pv (.str e.name),.pv (vI e.num),.pv (.aw (e.kids.map Ex.pv)),.pv (.aw (e.aY.map Ar.pv)),.pv (vI e.ty.kind),.pv (.str e.ty.name),.pv (vI e.ty.id),.pv (vI e.ty.home),.pv (.aw (e.ty.args.map Ty.pv))]
theorem yC:Row Ex.cells 11:=⟨by omega,fun x=>by rw[Ex.aS];rfl⟩
def Ar.cells(a:Ar):List PV:=.int .i64 a.pos::.str a.kr::.aw (a.vars.map .str)::a.body.cells
theorem yD:Row Ar.cells 14:=⟨by omega,fun x=>by simp[Ar.cells,Ex.aS]⟩
theorem Ex.U2(e:Ex):e.cells.map AV.pv=e.cl:=by rw[Ex.aS];rfl
@[simp] def Ex.U3(e:Ex)(A:AV):List AV:=[.pv (vI e.kind),.pv (vI e.pos),.pv (.str e.name),.pv (vI e.num),.pv (.aw (e.kids.map Ex.pv)),A,.pv (vI e.ty.kind),.pv (.str e.ty.name),.pv (vI e.ty.id),.pv (vI e.ty.home),.pv (.aw (e.ty.args.map Ty.pv))]
def Wa(A:AV)(as:List Ar)(X:Sh):Prop:=A=.pv (.aw (as.map Ar.pv))∨∃b,b<X.length∧A=.aT b 14 as.length true∧X[b]?=some (some (cr Ar.cells as))
theorem Wa.app{A:AV}{as:List Ar}{X Y:Sh}(h:Wa A as X):Wa A as (X++Y):=by
 rcases h with h|⟨b,h1,h2,h3⟩
 ·exact .inl h
 ·exact .inr ⟨b,by rw[List.length_append];omega,h2,by rw[List.getElem?_append_left h1];exact h3⟩
def hV(X:Sh)(l:List Ex):AV:=if l=[] then .own [] 0 else .aT X.length 11 l.length true
def hS(X:Sh)(l:List Ex):Sh:=if l=[] then X else X++[some (cr Ex.cells l)]
def hT(l:List Ex):aG:=if l=[] then [0] else []
theorem MQ{X:Sh}(h:bf X)(l:List Ex):bf (hS X l):=by
 unfold hS;by_cases h0:l=[]
 ·rw[if_pos h0];exact h
 ·rw[if_neg h0];exact h.app (bf.one ep)
theorem SP{e:Ex}{A:AV}(ha:e.aY.length≤1000):∀(n i:Nat),e.aY.length-i=n→i≤e.aY.length→∀(X:Sh) (acc:List Ex),bf X→Wa A e.aY X→acc.length+n≤1000000→∃k,
   cl AP g145L0 ⟨[(1,.au 1 0),(3,hV X acc),(4,.pv (vI i))],[(1,e.U3 A)],hS X acc,hT acc⟩ =
     some (.exit 0,⟨[(1,.au 1 0),(3,hV (X++nn k) (acc++(e.aY.drop i).map eO.body)),(4,.pv (vI e.aY.length)),(12,.pv (.bool false))],[(1,e.U3 A)],hS (X++nn k) (acc++(e.aY.drop i).map eO.body),hT (acc++(e.aY.drop i).map eO.body)⟩)
 |0,i,hn,hi,X,acc,hX,hA,hl=>by
   have:i=e.aY.length:=by omega
   subst this;refine⟨0,?_⟩;rw[List.drop_length,List.map_nil,List.append_nil,show nn 0=[] from rfl,List.append_nil];have hn:=(MQ hX acc).norm
   have vc:(hV X acc=.own [] 0∧hT acc=[0])∨(∃b z k g,hV X acc=.aT b z k g∧hT acc=[]):=by
     unfold hV hT;by_cases h0:acc=[]
     ·left;simp[h0]
     ·right;exact⟨X.length,11,acc.length,true,by simp[h0],by simp[h0]⟩
   rw[g145L0e]
   rcases vc with⟨v1,t1⟩|⟨b1,z1,k1,f1,v1,t1⟩<;>rw[v1,t1]<;>generalize hS X acc=S0 at hn⊢ <;>
     rcases hA with rfl|⟨b,hb,rfl,hx⟩<;>simp[g145B0,hn]
 |n+1,i,hn,hi,X,acc,hX,hA,hl=>by
   have hi:i<e.aY.length:=(by omega);obtain⟨x,hx⟩:=aP hi;have hnX:=hX.norm;have hB11:∀m:Nat,m≤1000000→m*152≤140737488355328:=(by omega);have hcl:=Ex.aS x.body;rw[bl hx,List.map_cons]
   have step:∃k,cl AP g145L0 ⟨[(1,.au 1 0),(3,hV (if acc=[] then X else X++[none]) (acc++[x.body])),(4,.pv (vI (i+1:Nat)))],[(1,e.U3 A)],hS (if acc=[] then X else X++[none]) (acc++[x.body]),hT (acc++[x.body])⟩ =
     some (.exit 0,⟨[(1,.au 1 0),(3,hV (X++nn k) (acc++(x.body::(e.aY.drop (i+1)).map eO.body))),(4,.pv (vI e.aY.length)),(12,.pv (.bool false))],[(1,e.U3 A)],hS (X++nn k) (acc++(x.body::(e.aY.drop (i+1)).map eO.body)),hT (acc++(x.body::(e.aY.drop (i+1)).map eO.body))⟩):=by
     by_cases h0:acc=[]
     ·rw[if_pos h0];obtain⟨k,ih⟩:=SP ha n (i+1) (by omega) (by omega) X (acc++[x.body]) hX hA (by simp;omega);refine⟨k,?_⟩;rw[ih];simp only[List.append_assoc,List.singleton_append]
     · rw[if_neg h0];obtain⟨k,ih⟩:=SP ha n (i+1) (by omega) (by omega) (X++[none]) (acc++[x.body]) (hX.app (ua 1)) hA.app (by simp;omega);refine⟨k+1,?_⟩;have e1:X++[none]++nn k=X++nn (k+1):=by simp[nn,List.replicate_succ]
       rw[ih,e1];simp only[List.append_assoc,List.singleton_append]
   obtain⟨k,ih⟩:=step;refine⟨k,?_⟩;generalize hV (X++nn k) (acc++(x.body::(e.aY.drop (i+1)).map eO.body))=V2 at ih⊢;generalize hS (X++nn k) (acc++(x.body::(e.aY.drop (i+1)).map eO.body))=S2 at ih⊢;generalize hT (acc++(x.body::(e.aY.drop (i+1)).map eO.body))=T2 at ih⊢;have hne:acc++[x.body]≠[]:=by simp
   have hn1:∀Y,bf Y→∀aN ts,cg aN ts (Y++[some (cr Ex.cells (acc++[x.body]))])=(Y++[some (cr Ex.cells (acc++[x.body]))],aN,ts):=fun Y hY=>(hY.app (bf.one ep)).norm;have hfl:cr Ex.cells (acc++[x.body])=cr Ex.cells acc++x.body.cl:=by rw[yv,←Ex.U2];simp[cr]
   by_cases h0:acc=[]
   · subst h0;rw[if_pos rfl]at ih;have hn2:=hn1 X hX;simp only[List.nil_append]at hne hn2 hfl ih;simp only[hV,hS,hT,if_neg hne,if_true]at ih⊢;rw[hfl]at hn2 ih;simp only[Ph,List.nil_append]at hn2 ih;simp only[Ex.cl]at hn2;rw[g145L0e]at ih⊢;rcases hA with rfl|⟨b,hb,rfl,hxb⟩
     ·simp[hn2]at ih;simp (disch:=omega) [-getElem?_pos,g145B0,hx,hi,aq,hnX];rw[g145L0e];simp[hn2,ih]
     ·have q1:=yx yD hx (o:=3) (k:=11) (by omega);have q2:i*14+3+11≤e.aY.length*14:=(by omega);have q3:(cr Ar.cells e.aY).length=e.aY.length*14:=gO yD;have q4:bY (cr Ar.cells e.aY)=false:=bV ep;have q5:(((Ar.cells x).drop 3).take 11).map AV.pv=x.body.cl:=(by simp[Ar.cells,hcl]);rw[q5]at q1;generalize cr Ar.cells e.aY=T at *;simp[hn2]at ih q1;simp (disch:=omega) [-getElem?_pos,g145B0,hx,hi,aq,hnX,hxb,q1,q2,q3,q4];rw[g145L0e];simp[hn2,ih]
   · rw[if_neg h0]at ih;have hn2:=hn1 (X++[none]) (hX.app (ua 1));have hn3:∀aN ts,cg aN ts (X++[some (cr Ex.cells acc)])=(X++[some (cr Ex.cells acc)],aN,ts):=(hX.app (bf.one ep)).norm;simp only[hV,hS,hT,if_neg hne,if_neg h0]at ih⊢;have r1:(cr Ex.cells acc).length=acc.length*11:=gO yC;have r2:bY (cr Ex.cells acc)=false:=bV ep;have r3:(cr Ex.cells acc).take (acc.length*11)=cr Ex.cells acc:=List.take_of_length_le (by omega);have hb2:(acc.length+1)*152≤140737488355328:=by omega
     rw[hfl]at hn2 ih;rw[List.length_append,List.length_singleton,List.length_append,List.length_singleton]at ih;have s1:∀u w:Option (List AV),(X++[u]).set X.length w=X++[w]:=fun u w=>by simp
     have s2:∀u:Option (List AV),(X++[u])[X.length]?=some u:=fun u=>by simp
     simp only[Ex.cl]at hn2;rw[g145L0e]at ih⊢;rcases hA with rfl|⟨b,hb,rfl,hxb⟩
     ·generalize cr Ex.cells acc=F at *;simp[hn2]at ih;simp (disch:=omega) [-getElem?_pos,g145B0,hx,hi,aq,hn3,r1,r2,r3,s1,s2,hb2];rw[g145L0e];simp[hn2,ih]
     · have q1:=yx yD hx (o:=3) (k:=11) (by omega);have q2:i*14+3+11≤e.aY.length*14:=(by omega);have q3:(cr Ar.cells e.aY).length=e.aY.length*14:=gO yD;have q4:bY (cr Ar.cells e.aY)=false:=bV ep;have q5:(((Ar.cells x).drop 3).take 11).map AV.pv=x.body.cl:=(by simp[Ar.cells,hcl]);have q6:∀u:Option (List AV),(X++[u])[b]?=X[b]?:=fun u=>List.getElem?_append_left hb
       rw[q5]at q1;generalize cr Ar.cells e.aY=T at *;generalize cr Ex.cells acc=F at *;simp[hn2]at ih q1;simp (disch:=omega) [-getElem?_pos,g145B0,hx,hi,aq,hn3,r1,r2,r3,s1,s2,hb2,hxb,q1,q2,q3,q4,q6];rw[g145L0e];simp[hn2,ih]
theorem SQ{l:List Ex}:((fC (cr Ex.cells l)).bind (fD 11 true l.length)).map PV.aw=some (.aw (l.map Ex.pv)):=rX yC
theorem SR{l:List Ex}:((l.map Ex.pv).flatMap aZ).map AV.pv=cr Ex.cells l:=yy yC
theorem c145{e:Ex}(h:e.Ok):(aF AP).p 145 [e.pv]=some [.aw (e.ch.map Ex.pv)]:=by
 have hk:=h.k;have ha:=h.a;obtain⟨k,h2⟩:=SP (A:=.pv (.aw (e.aY.map Ar.pv))) ha _ 0 rfl (by omega) [] e.kids (by intro cs h;simp at h) (.inl rfl) (by omega);rw[List.drop_zero]at h2
 change cl AP g145L0 _=some (.exit 0,⟨[(1,.au 1 0),(3,hV ([]++nn k) e.ch),(4,.pv (vI e.aY.length)),(12,.pv (.bool false))],[(1,e.U3 (.pv (.aw (e.aY.map Ar.pv))))],hS ([]++nn k) e.ch,hT e.ch⟩)at h2
 have hb2:e.kids.length*152≤140737488355328:=by omega
 have hm:=SR (l:=e.kids);have hl:=SQ (l:=e.ch);have hlen:(cr Ex.cells e.ch).length=e.ch.length*11:=gO yC;have hq0:∀aN ts,cg aN ts ([some (cr Ex.cells e.kids)])=([some (cr Ex.cells e.kids)],aN,ts):=(bf.one ep).norm;rw[ah (af:=g145) rfl rfl (by decide)];by_cases hc:e.ch=[]
 · have h0:e.kids=[]∧e.aY=[]:=by have:=hc;simpa[Ex.ch] using this
   simp only[hc,hV,hS,hT,if_true,h0.1]at h2⊢;rw[g145L0e]at h2;simp[h0.1,h0.2]at h2;simp[g145,h0.1,h0.2,g145L0e,h2]
 · have hg:∀Z:Option (List AV),([]++nn k++[Z])[k]?=some Z:=fun Z=>by simp
   by_cases h0:e.kids=[]
   ·simp only[hV,hS,hT,if_neg hc,h0,if_true]at h2⊢;have hg1:=hg (some (cr Ex.cells e.ch));generalize []++nn k++[some (cr Ex.cells e.ch)]=S2 at *;generalize cr Ex.cells e.ch=F at *;rw[g145L0e]at h2;simp[h0]at h2;simp at hl;simp[-getElem?_pos,g145,h0,g145L0e,h2,hg1,hlen,hl]
   ·simp only[hV,hS,hT,if_neg hc,if_neg h0]at h2⊢;have hg1:=hg (some (cr Ex.cells e.ch));generalize []++nn k++[some (cr Ex.cells e.ch)]=S2 at *;generalize cr Ex.cells e.ch=F at *;generalize cr Ex.cells e.kids=F0 at *;rw[g145L0e]at h2;simp[hq0]at h2 hl;simp[-getElem?_pos,g145,h0,hb2,hm,hq0,g145L0e,h2,hg1,hlen,hl]
def zO:List AV:=[.pv (vI 0),.pv (vI 0),.pv (.str []),.pv (vI 0),.own [] 0,.own [] 1,.pv (vI 0),.pv (.str []),.pv (vI 0),.pv (vI 0),.own [] 2]
def ig(e:Ex)(i:Nat):List (List UInt8):=
 if e.kind=4∨e.kind=7∨(e.kind=6∧i=1) then [e.name]
 else if e.kind=8∧0<i then match e.aY[i-1]? with|some a=>a.vars|none=>[]
 else []
theorem c380{e:Ex}{i:Nat}(hi:i<e.ch.length)(h8:e.kind=8→e.kids.length=1)(hO:e.Ok):(aF AP).p 380 [e.pv,vI i]=some [.aw ((ig e i).map .str)]:=by
 have ha:=hO.a;rw[Ex.yB]at hi;rw[ah (af:=g380) rfl rfl (by decide)];unfold ig;by_cases h1:e.kind=4
 ·simp[g380,h1]
 · by_cases h2:e.kind=7
   ·simp[g380,h1,h2]
   · by_cases h3:e.kind=6
     · by_cases h4:i=1
       ·simp[g380,h1,h2,h3,h4]
       ·have h4':¬(i:Int)=1:=(by omega);simp[g380,h1,h2,h3,h4,h4']
     · by_cases h5:e.kind=8
       · by_cases h6:0<i
         ·have h6':(0:Int)<i:=(by omega);have hk:=h8 h5;obtain⟨a,hx⟩:=aP (l:=e.aY) (i:=i-1) (by omega);obtain⟨m,rfl⟩:∃m:Nat,i=m+1:=⟨i-1,by omega⟩;have hm:((m+1:Nat):Int)-1=m:=(by omega);have hm':((m:Int)+1)-1=m:=(by omega);simp at hx hi;have hlt:m<e.aY.length:=(by omega);simp (disch:=omega) [-getElem?_pos,g380,h1,h2,h3,h5,h6,h6',aq,hm,hm',hx,hlt]
         · have:i=0:=by omega
           subst this;simp[g380,h1,h2,h3,h5]
       ·simp[g380,h1,h2,h3,h5]
theorem U4{s:List bX}(hS:Sm s){y:bX}:∀(n i:Nat),s.length-i=n→i≤s.length →
   cl AP g364L0 ⟨[(0,.pv (.aw (s.map .str))),(1,.pv (.str y)),(5,.pv (vI i))],[],[],[]⟩ =
     if y∈s.drop i then some (.ret,⟨[(4,.pv (.bool true))],[],[],[]⟩)
     else some (.exit 0,⟨[(0,.pv (.aw (s.map .str))),(1,.pv (.str y)),(5,.pv (vI s.length)),(9,.pv (.bool false))],[],[],[]⟩)
 |0,i,hn,hi=>by
   have:i=s.length:=by omega
   subst this;rw[g364L0e];simp[g364B0]
 |n+1,i,hn,hi=>by
   have hi:i<s.length:=(by omega);obtain⟨x,hx⟩:=aP hi;unfold Sm at hS;have ih:=U4 hS (y:=y) n (i+1) (by omega) (by omega);simp at ih;rw[g364L0e,bl hx];by_cases e:x=y
   ·subst e;simp (disch:=omega) [-getElem?_pos,g364B0,hx,hi]
   ·have e':¬y=x:=fun h=>e h.symm;simp (disch:=omega) [-getElem?_pos,g364B0,hx,hi,e,e',aq,ih]
theorem c364{s:List bX}(hS:Sm s){y:bX}:(aF AP).p 364 [.aw (s.map .str),.str y]=some [.bool (decide (y∈s))]:=by
 have h:=U4 hS (y:=y) _ 0 rfl (by omega);simp at h;rw[ah (af:=g364) rfl rfl (by decide)];by_cases e:y∈s<;>simp[e]at h<;>simp[g364,h,e]
inductive Ex.One:Ex→Prop
 |mk {e:Ex}:(e.kind=8→e.kids.length=1)→(∀x∈e.ch,x.One)→e.One
theorem Ex.One.h{e:Ex}(h:e.One):e.kind=8→e.kids.length=1:=by cases h;assumption
theorem Ex.One.c{e:Ex}(h:e.One):∀x∈e.ch,x.One:=by cases h;assumption
theorem BF{e:Ex}{i:Nat}(h:e.Ok):(ig e i).length≤1000:=by
 unfold ig;split
 ·simp
 · split
   · cases hx:e.aY[i-1]? with
     |none=>simp
     |some a=>exact h.v a (aQ hx)
   ·simp
def MR(cs:List mG)(s:bX):Option Nat:=db (fun c=>decide (c.name=s)) cs
def l6:List Dt→bX→Nat→Option (Nat×Nat)
 |[],_,_=>none
 |d::r,s,i=>match MR d.cons s with
   |some k=>some (i,k)
   |none=>l6 r s (i+1)
def rF:Option (Nat×Nat)→List PV
 |some (i,k)=>[vI i,vI k,.bool true]
 |none=>[vI 0,vI 0,.bool false]
theorem Qm{ds:List Dt}{s:bX}{i:Nat}{d:Dt}(hd:ds[i]?=some d)(hS:Sm d.cons):∀(n k:Nat),d.cons.length-k=n→k≤d.cons.length →
   cl AP g191L1 ⟨[(0,.pv (.aw (ds.map Dt.pv))),(1,.pv (.str s)),(7,.pv (vI i)),(8,.pv (vI k))],[],[],[]⟩ =
     match db (fun c=>decide (c.name=s)) (d.cons.drop k) with
     |some j=>some (.ret,⟨[(4,.pv (vI i)),(5,.pv (vI (k+j:Nat))),(6,.pv (.bool true))],[],[],[]⟩)
     |none=>some (.exit 2,⟨[(0,.pv (.aw (ds.map Dt.pv))),(1,.pv (.str s)),(7,.pv (vI i)),(8,.pv (vI d.cons.length)),(22,.pv (.bool false))],[],[],[]⟩)
 |0,k,hn,hk=>by
   have:k=d.cons.length:=by omega
   subst this;rw[g191L1e];simp[-getElem?_pos,g191B1,db,hd]
 |n+1,k,hn,hk=>by
   have hk:k<d.cons.length:=(by omega);obtain⟨x,hx⟩:=aP hk;unfold Sm at hS;have ih:=Qm (s:=s) hd hS n (k+1) (by omega) (by omega);rw[g191L1e]at ih⊢;rw[bl hx];simp at ih;by_cases e:x.name=s
   ·simp (disch:=omega) [-getElem?_pos,g191B1,hd,hx,hk,e,db]
   · simp (disch:=omega) [-getElem?_pos,g191B1,hd,hx,hk,e,db,aq];rw[g191L1e];simp[ih];cases db (fun c=>decide (c.name=s)) (d.cons.drop (k+1)) with
     |none=>rfl
     |some j=>simp;omega
theorem U5{ds:List Dt}(hS:Sm ds)(hc:∀d∈ds,Sm d.cons)(s:bX):∀(n i:Nat),ds.length-i=n→i≤ds.length →
   cl AP g191L0 ⟨[(0,.pv (.aw (ds.map Dt.pv))),(1,.pv (.str s)),(7,.pv (vI i))],[],[],[]⟩ =
     match l6 (ds.drop i) s i with
     |some q=>some (.ret,⟨[(4,.pv (vI q.1)),(5,.pv (vI q.2)),(6,.pv (.bool true))],[],[],[]⟩)
     |none=>some (.exit 0,⟨[(0,.pv (.aw (ds.map Dt.pv))),(1,.pv (.str s)),(7,.pv (vI ds.length)),(12,.pv (.bool false))],[],[],[]⟩)
 |0,i,hn,hi=>by
   have:i=ds.length:=by omega
   subst this;rw[g191L0e];simp[g191B0,l6]
 |n+1,i,hn,hi=>by
   have hi:i<ds.length:=(by omega);obtain⟨d,hd⟩:=aP hi;unfold Sm at hS;have ih:=U5 hS hc s n (i+1) (by omega) (by omega);have h:=Qm (s:=s) hd (hc d (aQ hd)) _ 0 rfl (by omega);rw[g191L1e]at h;rw[g191L0e]at ih⊢;rw[bl hd];simp at ih h;cases e:db (fun c=>decide (c.name=s)) d.cons with
   |some k=>
     rw[e]at h;simp at h;simp (disch:=omega) [-getElem?_pos,g191B0,hd,hi,l6,MR,e,g191L1e,h]
   |none=>
     rw[e]at h;simp at h;simp (disch:=omega) [-getElem?_pos,g191B0,hd,hi,l6,MR,e,g191L1e,h,aq];rw[g191L0e];simp[ih]
theorem c191{ds:List Dt}(hS:Sm ds)(hc:∀d∈ds,Sm d.cons){s:bX}:(aF AP).p 191 [.aw (ds.map Dt.pv),.str s]=some (rF (l6 ds s 0)):=by
 have h:=U5 hS hc s _ 0 rfl (by omega);rw[ah (af:=g191) rfl rfl (by decide)];rw[g191L0e]at h;simp at h;cases e:l6 ds s 0 with
 |none=>rw[e]at h;simp at h;simp[g191,g191L0e,h,rF]
 |some q=>rw[e]at h;simp at h;simp[g191,g191L0e,h,rF]
theorem Pk{cs:List mG}{s:bX}{k:Nat}(h:MR cs s=some k):∃c,cs[k]?=some c∧c.name=s:=by
 unfold MR at h;induction cs generalizing k with
 |nil=>simp[db]at h
 |cons a r ih=>
   simp only[db]at h;split at h
   ·rename_i e;cases h;exact⟨a,rfl,by simpa using e⟩
   ·simp only[Option.map_eq_some_iff]at h;obtain⟨j,hj,rfl⟩:=h;obtain⟨c,h1,h2⟩:=ih hj;exact⟨c,by simpa using h1,h2⟩
theorem yE{s:bX}:∀{ds:List Dt} {n:Nat} {q:Nat×Nat},l6 ds s n=some q→n≤q.1∧∃d c,ds[q.1-n]?=some d∧d.cons[q.2]?=some c∧c.name=s
 |[],n,q,h=>by simp[l6]at h
 |d::r,n,q,h=>by
   simp only[l6]at h;split at h
   ·rename_i k e;cases h;obtain⟨c,h1,h2⟩:=Pk e;exact⟨Nat.le_refl _,d,c,by simp,h1,h2⟩
   ·obtain⟨h1,d',c,h2,h3,h4⟩:=yE h;refine⟨by omega,d',c,?_,h3,h4⟩;rw[show q.1-n=(q.1-(n+1))+1 from by omega];simpa using h2
def ke(d:Dt)(as:List Ar):Bool:=decide (d.cons.map mG.name=as.map eO.kr)
def mM(ds:List Dt)(as:List Ar):Option Nat:=db (fun d=>ke d as) ds
def wE:Option Nat→List PV
 |some i=>[vI i,.bool true]
 |none=>[vI 0,.bool false]
abbrev vp:=Int×Int
def fP(f:vp):PV:=.agg [vI f.1,vI f.2]
@[simp] theorem Me(f:vp):fP f=.agg [vI f.1,vI f.2]:=rfl
theorem c365{a b:Int}:(aF AP).p 365 [vI a,vI b]=some [fP (a,b)]:=by
 rw[ah (af:=g365) rfl rfl (by decide)];simp[g365]
def findF(ds:List Dt):List Ar→Option vp
 |[]=>none
 |a::r=>match l6 ds a.kr 0 with
   |none=>some (9,a.pos)
   |some _=>findF ds r
noncomputable def uc:List bX→List bX→Bool
 |_,[]=>false
 |p,x::r=>decide (x∈p) || uc (p++[x]) r
noncomputable def J_:List mG→List Ar→vp
 |c::cs,a::as=>if a.vars.length≠c.fields.length then (8,a.pos) else if uc [] a.vars=true then (6,a.pos) else J_ cs as
 |_,_=>(0,0)
noncomputable def qX(ds:List Dt)(e:Ex):vp:=match findF ds e.aY with
 |some f=>f
 |none=>match mM ds e.aY with
   |none=>(10,e.pos)
   |some i=>match ds[i]? with
     |some d=>J_ d.cons e.aY
     |none=>(0,0)
theorem Qo{ds:List Dt}{i:Nat}{d:Dt}(hd:ds[i]?=some d){as:List Ar}(hS:Sm as):∀(n k:Nat),as.length-k=n→k≤as.length→∀s:Bool,(s=true→as.length=d.cons.length)→∃j:Int,
   cl AP g390L1 ⟨[(0,.pv (.aw (ds.map Dt.pv))),(1,.pv (.aw (as.map Ar.pv))),(6,.pv (vI i)),(7,.pv (.bool s)),(8,.pv (vI k))],[],[],[]⟩ =
     some (.exit 2,⟨[(0,.pv (.aw (ds.map Dt.pv))),(1,.pv (.aw (as.map Ar.pv))),(6,.pv (vI i)),(7,.pv (.bool (s && decide ((d.cons.drop k).map mG.name=(as.drop k).map eO.kr)))),(8,.pv (vI j)),(30,.pv (.bool false))],[],[],[]⟩)
 |0,k,hn,hk,s,hs=>by
   have:k=as.length:=by omega
   subst this;refine⟨as.length,?_⟩;rw[g390L1e];cases s with
   |false=>simp[g390B1]
   |true=>simp[g390B1,hs rfl]
 |n+1,k,hn,hk,s,hs=>by
   have hk:k<as.length:=(by omega);unfold Sm at hS;have hil:=(List.getElem?_eq_some_iff.1 hd).1;cases s with
   |false=>
     refine⟨k,?_⟩;rw[g390L1e];simp[g390B1]
   |true=>
     have hl:=hs rfl;obtain⟨a,ha⟩:=aP hk;obtain⟨c,hc⟩:=aP (hl ▸ hk);have hk2:k<d.cons.length:=(by omega);obtain⟨j,ih⟩:=Qo hd hS n (k+1) (by omega) (by omega) (decide (a.kr=c.name)) (fun _=>hl);refine⟨j,?_⟩;rw[bl ha,bl hc]
     have key:(true && decide ((c::d.cons.drop (k+1)).map mG.name=(a::as.drop (k+1)).map eO.kr))=(decide (a.kr=c.name) && decide ((d.cons.drop (k+1)).map mG.name=(as.drop (k+1)).map eO.kr)):=by
       rw[Bool.eq_iff_iff];simp[eq_comm (a:=c.name)]
     rw[key];generalize (decide (a.kr=c.name) && decide ((d.cons.drop (k+1)).map mG.name=(as.drop (k+1)).map eO.kr))=r at ih⊢;rw[g390L1e]at ih⊢;simp at ih;by_cases e:a.kr=c.name
     ·simp[e]at ih;simp (disch:=omega) [-getElem?_pos,g390B1,hk,hk2,hil,ha,hc,hd,aq,e];rw[g390L1e];simp[ih]
     · simp[e]at ih;have e':(a.kr == c.name)=false:=by simpa using e
       simp (disch:=omega) [-getElem?_pos,g390B1,hk,hk2,hil,ha,hc,hd,aq,e'];rw[g390L1e];simp[ih]
theorem U6{ds:List Dt}(hS:Sm ds){as:List Ar}(hA:Sm as):∀(n i:Nat),ds.length-i=n→i≤ds.length →
   cl AP g390L0 ⟨[(0,.pv (.aw (ds.map Dt.pv))),(1,.pv (.aw (as.map Ar.pv))),(6,.pv (vI i))],[],[],[]⟩ =
     match db (fun d=>ke d as) (ds.drop i) with
     |some k=>some (.ret,⟨[(4,.pv (vI (i+k:Nat))),(5,.pv (.bool true))],[],[],[]⟩)
     |none=>some (.exit 0,⟨[(0,.pv (.aw (ds.map Dt.pv))),(1,.pv (.aw (as.map Ar.pv))),(6,.pv (vI ds.length)),(12,.pv (.bool false))],[],[],[]⟩)
 |0,i,hn,hi=>by
   have:i=ds.length:=by omega
   subst this;rw[g390L0e];simp[g390B0,db]
 |n+1,i,hn,hi=>by
   have hi:i<ds.length:=(by omega);obtain⟨d,hd⟩:=aP hi;have ih:=U6 hS hA n (i+1) (by omega) (by omega);obtain⟨j,h⟩:=Qo hd hA _ 0 rfl (by omega) (decide (as.length=d.cons.length)) (by simp);unfold Sm at hS
   have key:(decide (as.length=d.cons.length) && decide (d.cons.map mG.name=as.map eO.kr))=ke d as:=by
     unfold ke;by_cases e:d.cons.map mG.name=as.map eO.kr
     ·have:=congrArg List.length e;simp at this;simp[e,this]
     ·simp[e]
   rw[List.drop_zero,List.drop_zero,key]at h;rw[g390L1e]at h;rw[g390L0e]at ih⊢;rw[bl hd];simp only[db];simp at ih;by_cases e:ke d as=true
   · rw[if_pos e];rw[e]at h;have hl:as.length=d.cons.length:=by simp[ke]at e;simpa using (congrArg List.length e).symm
     simp[hl]at h;simp (disch:=omega) [-getElem?_pos,g390B0,hi,hd,hl,g390L1e,h]
   · rw[if_neg e];have e:ke d as=false:=by simpa using e
     rw[e]at h;by_cases hl:as.length=d.cons.length
     · simp[hl]at h;simp (disch:=omega) [-getElem?_pos,g390B0,hi,hd,hl,g390L1e,h,aq];rw[g390L0e];simp[ih];cases db (fun d=>ke d as) (ds.drop (i+1)) with
       |none=>rfl
       |some k=>simp;omega
     · have hl':((as.length:Int) == (d.cons.length:Int))=false:=(by rw[beq_eq_false_iff_ne];omega);simp[hl]at h;simp (disch:=omega) [-getElem?_pos,g390B0,hi,hd,hl',g390L1e,h,aq];rw[g390L0e];simp[ih];cases db (fun d=>ke d as) (ds.drop (i+1)) with
       |none=>rfl
       |some k=>simp;omega
theorem c390{ds:List Dt}(hS:Sm ds){as:List Ar}(hA:Sm as):(aF AP).p 390 [.aw (ds.map Dt.pv),.aw (as.map Ar.pv)]=some (wE (mM ds as)):=by
 have h:=U6 hS hA _ 0 rfl (by omega);simp at h;rw[ah (af:=g390) rfl rfl (by decide)];unfold mM;cases e:db (fun d=>ke d as) ds with
 |none=>rw[e]at h;simp at h;simp[g390,h,wE]
 |some i=>rw[e]at h;simp at h;simp[g390,h,wE]
abbrev m2(f:vp):List AV:=[.pv (vI f.1),.pv (vI f.2)]
theorem Qp{ds:List Dt}(hS:Sm ds)(hc:∀d∈ds,Sm d.cons){e:Ex}(hA:e.aY.length≤1000):∀(n i:Nat),e.aY.length-i=n→i≤e.aY.length →
   cl AP g379L0 ⟨[(0,.pv (.aw (ds.map Dt.pv))),(3,.au 3 0),(4,.au 4 0),(5,.pv (vI i))],[(3,e.cl),(4,m2 (0,0))],[],[]⟩ =
     match findF ds (e.aY.drop i) with
     |some f=>some (.ret,⟨[(4,.au 4 0)],[(4,m2 f)],[],[]⟩)
     |none=>some (.exit 0,⟨[(0,.pv (.aw (ds.map Dt.pv))),(3,.au 3 0),(4,.au 4 0),(5,.pv (vI e.aY.length)),(18,.pv (.bool false))],[(3,e.cl),(4,m2 (0,0))],[],[]⟩)
 |0,i,hn,hi=>by
   have:i=e.aY.length:=by omega
   subst this;rw[g379L0e];simp[g379B0,findF]
 |n+1,i,hn,hi=>by
   have hi:i<e.aY.length:=(by omega);obtain⟨a,ha⟩:=aP hi;have ih:=Qp hS hc hA n (i+1) (by omega) (by omega);have k:=c191 hS hc (s:=a.kr);have k2:=c365 (a:=9) (b:=a.pos);simp at k2;rw[g379L0e]at ih⊢;rw[bl ha];simp only[findF];simp at ih;cases q:l6 ds a.kr 0 with
   |none=>
     rw[q]at k;simp[rF]at k;simp (disch:=omega) [-getElem?_pos,g379B0,hi,ha,k,k2]
   |some r=>
     rw[q]at k;simp[rF]at k;simp (disch:=omega) [-getElem?_pos,g379B0,hi,ha,k,aq];rw[g379L0e];simp[ih]
theorem Qq{ds:List Dt}{e:Ex}{i9 i:Nat}{a:Ar}(ha:e.aY[i]?=some a)(hv:a.vars.length≤1000):∀(n k:Nat),a.vars.length-k=n→k≤a.vars.length →
   cl AP g379L2 ⟨[(0,.pv (.aw (ds.map Dt.pv))),(3,.au 3 0),(4,.au 4 0),(9,.pv (vI i9)),(11,.pv (vI i)),(12,.pv (.aw (a.vars.map .str))),(13,.pv (vI k))],[(3,e.cl),(4,m2 (0,0))],[],[]⟩ =
     if uc (a.vars.take k) (a.vars.drop k)=true then some (.ret,⟨[(4,.au 4 0)],[(4,m2 (6,a.pos))],[],[]⟩)
     else some (.exit 4,⟨[(0,.pv (.aw (ds.map Dt.pv))),(3,.au 3 0),(4,.au 4 0),(9,.pv (vI i9)),(11,.pv (vI i)),(12,.pv (.aw (a.vars.map .str))),(13,.pv (vI a.vars.length)),(90,.pv (.bool false))],[(3,e.cl),(4,m2 (0,0))],[],[]⟩)
 |0,k,hn,hk=>by
   have:k=a.vars.length:=by omega
   subst this;rw[g379L2e];simp[g379B2,uc]
 |n+1,k,hn,hk=>by
   have hk:k<a.vars.length:=(by omega);have hil:=(List.getElem?_eq_some_iff.1 ha).1;obtain⟨x,hx⟩:=aP hk;have ih:=Qq (ds:=ds) (i9:=i9) ha hv n (k+1) (by omega) (by omega);have k1:=c364 (s:=a.vars.take k) (by unfold Sm;simp;omega) (y:=x);have k2:=c365 (a:=6) (b:=a.pos);have hsl:=Wz (sz:=1) (l:=a.vars.map PV.str) (k:=.i64) (h:=k) (by omega) (by simp;omega);simp at k2 hsl;rw[List.map_take]at k1;rw[List.take_add_one,hx]at ih;simp only[Option.toList_some]at ih;rw[g379L2e]at ih⊢;rw[bl hx];simp at ih;by_cases q:x∈a.vars.take k
   ·have hq:uc (a.vars.take k) (x::a.vars.drop (k+1))=true:=(by simp[uc,q]);rw[hq];rw[decide_eq_true q]at k1;simp (disch:=omega) [-getElem?_pos,g379B2,hk,hil,ha,hx,hsl,k1,k2]
   ·have hq:uc (a.vars.take k) (x::a.vars.drop (k+1))=uc (a.vars.take k++[x]) (a.vars.drop (k+1)):=(by simp[uc,q]);rw[hq];rw[decide_eq_false q]at k1;simp (disch:=omega) [-getElem?_pos,g379B2,hk,hil,ha,hx,hsl,k1,aq];rw[g379L2e];simp[ih];by_cases q3:uc (a.vars.take k++[x]) (a.vars.drop (k+1))=true<;>simp[q3]
theorem Qr{ds:List Dt}{e:Ex}{i9:Nat}{d:Dt}(hd:ds[i9]?=some d)(hA:e.aY.length≤1000)(hv:∀a∈e.aY,a.vars.length≤1000)(hl:e.aY.length=d.cons.length):∀(n i:Nat),e.aY.length-i=n→i≤e.aY.length →
   cl AP g379L1 ⟨[(0,.pv (.aw (ds.map Dt.pv))),(3,.au 3 0),(4,.au 4 0),(9,.pv (vI i9)),(11,.pv (vI i))],[(3,e.cl),(4,m2 (0,0))],[],[]⟩ =
     if (J_ (d.cons.drop i) (e.aY.drop i)).1≠0 then some (.ret,⟨[(4,.au 4 0)],[(4,m2 (J_ (d.cons.drop i) (e.aY.drop i)))],[],[]⟩)
     else some (.exit 2,⟨[(0,.pv (.aw (ds.map Dt.pv))),(3,.au 3 0),(4,.au 4 0),(9,.pv (vI i9)),(11,.pv (vI e.aY.length)),(58,.pv (.bool false))],[(3,e.cl),(4,m2 (0,0))],[],[]⟩)
 |0,i,hn,hi=>by
   have:i=e.aY.length:=by omega
   subst this;rw[g379L1e,Qg (l:=d.cons) (by omega),Qg (l:=e.aY) (by omega)];simp[g379B1,J_]
 |n+1,i,hn,hi=>by
   have hi:i<e.aY.length:=(by omega);have hi2:i<d.cons.length:=(by omega);have hil:=(List.getElem?_eq_some_iff.1 hd).1;obtain⟨a,ha⟩:=aP hi;obtain⟨c,hc⟩:=aP hi2;have ih:=Qr hd hA hv hl n (i+1) (by omega) (by omega);have h:=Qq (ds:=ds) (i9:=i9) ha (hv a (aQ ha)) _ 0 rfl (by omega);have k2:=c365 (a:=8) (b:=a.pos);simp at k2;rw[List.take_zero,List.drop_zero]at h;rw[g379L2e]at h;rw[g379L1e]at ih⊢;rw[bl ha,bl hc];simp only[J_];simp at ih h;by_cases q:a.vars.length=c.fields.length
   · by_cases q2:uc [] a.vars=true
     ·simp[q2,q]at h;simp (disch:=omega) [-getElem?_pos,g379B1,hi,hi2,hil,ha,hc,hd,q,q2,g379L2e,h]
     ·simp[q2,q]at h;simp (disch:=omega) [-getElem?_pos,g379B1,hi,hi2,hil,ha,hc,hd,q,q2,g379L2e,h,aq];rw[g379L1e];simp[ih]
   ·have q':¬(a.vars.length:Int)=c.fields.length:=(by omega);simp (disch:=omega) [-getElem?_pos,g379B1,hi,hi2,hil,ha,hc,hd,q,q',k2]
theorem MS{ds:List Dt}{as:List Ar}{i:Nat}(h:mM ds as=some i):∃d,ds[i]?=some d∧as.length=d.cons.length:=by
 unfold mM at h
 have key:∀{l:List Dt} {k:Nat},db (fun d=>ke d as) l=some k→∃d,l[k]?=some d∧ke d as=true:=by
   intro l;induction l with
   |nil=>intro k h;simp[db]at h
   |cons x r ih=>
     intro k h;simp only[db]at h;split at h
     ·rename_i e;cases h;exact⟨x,rfl,e⟩
     · cases h':db (fun d=>ke d as) r with
       |none=>rw[h']at h;simp at h
       |some k'=>rw[h']at h;simp at h;subst h;simpa using ih h'
 obtain⟨d,h1,h2⟩:=key h;refine⟨d,h1,?_⟩;unfold ke at h2;have:=congrArg List.length (of_decide_eq_true h2);simpa using this.symm
theorem ud:∀{cs:List mG} {as:List Ar},(J_ cs as).1=0→J_ cs as=(0,0)
 |[],_,_=>by simp[J_]
 |_::_,[],_=>by simp[J_]
 |c::cs,a::as,h=>by
   simp only[J_]at h⊢;split at h
   ·simp at h
   · rename_i h1;rw[if_neg h1];split at h
     ·simp at h
     ·rename_i h2;rw[if_neg h2];exact ud h
theorem c379{ds:List Dt}(hS:Sm ds)(hc:∀d∈ds,Sm d.cons){e:Ex}(hO:e.Ok):(aF AP).p 379 [.aw (ds.map Dt.pv),e.pv]=some [fP (qX ds e)]:=by
 have hA:=hO.a;have h:=Qp hS hc hA _ 0 rfl (by omega);rw[ah (af:=g379) rfl rfl (by decide)];unfold qX;rw[List.drop_zero]at h;cases q:findF ds e.aY with
 |some f=>
   rw[q]at h;simp at h;simp[g379,h]
 |none=>
   rw[q]at h;simp at h;have k:=c390 hS (as:=e.aY) (by unfold Sm;omega);cases q2:mM ds e.aY with
   |none=>
     rw[q2]at k;have k2:=c365 (a:=10) (b:=e.pos);simp[wE]at k k2;simp[g379,h,k,k2]
   |some i=>
     rw[q2]at k;simp[wE]at k;obtain⟨d,hd,hl⟩:=MS q2;have h2:=Qr hd hA hO.v hl _ 0 rfl (by omega);rw[List.drop_zero,List.drop_zero]at h2;simp only[hd];by_cases q3:(J_ d.cons e.aY).1=0
     ·have:=ud q3;rw[this]at h2⊢;simp at h2;simp[g379,h,k,h2]
     ·simp[q3]at h2;simp[g379,h,k,h2]
inductive Ex.Qt (P:Ex→Prop):Ex→Prop
 |mk {e:Ex}:P e→(∀x∈e.ch,Ex.Qt P x)→Ex.Qt P e
theorem Ex.Qt.h{P:Ex→Prop}{e:Ex}(h:e.Qt P):P e:=by cases h;assumption
theorem Ex.Qt.c{P:Ex→Prop}{e:Ex}(h:e.Qt P):∀x∈e.ch,x.Qt P:=by cases h;assumption
inductive Ex.MT:Nat→Ex→Prop
 |mk {n:Nat} {e:Ex}:(∀x∈e.ch,Ex.MT n x)→Ex.MT (n+1) e
theorem Ex.MT.c{n:Nat}{e:Ex}(h:Ex.MT (n+1) e):∀x∈e.ch,Ex.MT n x:=by cases h;assumption
noncomputable def fu(ds:List Dt)(names:List bX)(e:Ex):vp:=
 if e.kind=1 then (if e.name∈names then (0,0) else (9,e.pos))
 else if e.kind=2 then (if (l6 ds e.name 0).isSome then (0,0) else (9,e.pos))
 else if e.kind=8 then qX ds e
 else if e.kind=9 then (if e.ty.formed ds []=0 then (0,0) else (e.ty.formed ds [],e.pos))
 else (0,0)
def wF(f:Nat→Ex→vp):Nat→List Ex→vp
 |_,[]=>(0,0)
 |i,x::r=>if (f i x).1≠0 then f i x else wF f (i+1) r
theorem wG{f g:Nat→Ex→vp}:∀{l:List Ex} {i:Nat},(∀i,∀x∈l,f i x=g i x)→wF f i l=wF g i l
 |[],_,_=>rfl
 |x::r,i,h=>by
   simp only[wF];rw[h i x (by simp),wG (l:=r) fun i y hy=>h i y (by simp[hy])]
theorem Ex.Pl{e x:Ex}(h:x∈e.ch):SizeOf.sizeOf x<SizeOf.sizeOf e:=by
 rw[Ex.ch,List.mem_append,List.mem_map]at h;cases e;rcases h with h|⟨a,ha,rfl⟩
 ·have:=_root_.List.sizeOf_lt_of_mem h;simp at *;omega
 ·have:=_root_.List.sizeOf_lt_of_mem ha;have:=eO.qc a;simp at *;omega
open Classical in
noncomputable def Ex.cr(ds:List Dt)(e:Ex)(names:List bX):vp:=
 if (fu ds names e).1≠0 then fu ds names e
 else wF (fun i x=>if _h:x∈e.ch then Ex.cr ds x (names++ig e i) else (0,0)) 0 e.ch
termination_by e
decreasing_by exact Ex.Pl _h
theorem Ex.EZ(ds:List Dt)(e:Ex)(names:List bX):e.cr ds names=if (fu ds names e).1≠0 then fu ds names e else wF (fun i x=>x.cr ds (names++ig e i)) 0 e.ch:=by
 rw[Ex.cr];split
 ·rfl
 ·exact wG fun i x hx=>by rw[dif_pos hx]
theorem E_{ds:List Dt}{e:Ex}(h:(qX ds e).1=0):qX ds e=(0,0):=by
 unfold qX at h⊢
 have hf:∀{as:List Ar} {f:vp},findF ds as=some f→f.1=9:=by
   intro as;induction as with
   |nil=>intro f h;simp[findF]at h
   |cons a r ih=>
     intro f h;simp only[findF]at h;split at h
     ·cases h;rfl
     ·exact ih h
 cases q:findF ds e.aY with
 |some f=>rw[q]at h;simp only at h;rw[hf q]at h;cases h
 |none=>
   rw[q]at h;simp only at h⊢;cases q2:mM ds e.aY with
   |none=>rw[q2]at h;simp at h
   |some i=>
     rw[q2]at h;simp only at h⊢;cases q3:ds[i]? with
     |none=>rfl
     |some d=>rw[q3]at h;exact ud h
theorem Fa{ds:List Dt}{names:List bX}{e:Ex}(h:(fu ds names e).1=0):fu ds names e=(0,0):=by
 unfold fu at h⊢;split
 · rename_i h1;rw[if_pos h1]at h;split
   ·rfl
   ·rename_i h2;rw[if_neg h2]at h;cases h
 · rename_i h1;rw[if_neg h1]at h;split
   · rename_i h2;rw[if_pos h2]at h;split
     ·rfl
     ·rename_i h3;rw[if_neg h3]at h;cases h
   · rename_i h2;rw[if_neg h2]at h;split
     ·rename_i h3;rw[if_pos h3]at h;exact E_ h
     · rename_i h3;rw[if_neg h3]at h;split
       · rename_i h4;rw[if_pos h4]at h;split
         ·rfl
         ·rename_i h5;rw[if_neg h5]at h;exact absurd h h5
       ·rfl
theorem BG{ds:List Dt}:∀{e:Ex} {names:List bX},(e.cr ds names).1=0→e.cr ds names=(0,0):=by
 intro e;refine Ex.recC (p:=fun e=>∀{names:List bX},(e.cr ds names).1=0→e.cr ds names=(0,0)) ?_ e;intro e ih names h;rw[Ex.EZ]at h⊢;split
 ·rename_i h1;rw[if_pos h1]at h;exact absurd h h1
 · rename_i h1;rw[if_neg h1]at h
   have key:∀{l:List Ex} {i:Nat},(∀x∈l,x∈e.ch)→(wF (fun i x=>x.cr ds (names++ig e i)) i l).1=0→wF (fun i x=>x.cr ds (names++ig e i)) i l=(0,0):=by
     intro l;induction l with
     |nil=>intro i _ _;rfl
     |cons x r ihr=>
       intro i hl h;simp only[wF]at h⊢;split
       ·rename_i h1;rw[if_pos h1]at h;exact absurd h h1
       ·rename_i h1;rw[if_neg h1]at h;exact ihr (fun y hy=>hl y (by simp[hy])) h
   exact key (fun x hx=>hx) h
structure SS(e:Ex):Prop where
 ok:e.Ok
 one:e.One
 cw:e.Qt fun x=>x.ty.Cw
theorem SS.c{e x:Ex}(h:SS e)(hx:x∈e.ch):SS x:=⟨h.ok.c x hx,h.one.c x hx,h.cw.c x hx⟩
def po(b:Nat):List AV:=[.pv (vI 0),.pv (vI 0),.pv (.str []),.pv (vI 0),.own [] b,.own [] (b+1),.pv (vI 0),.pv (.str []),.pv (vI 0),.pv (vI 0),.own [] (b+2)]
theorem JK{sz n:Nat}{ag:Bool}:Oy sz n ag none=none:=rfl
theorem Pm{o:Option (List PV)}:pb none o=none:=rfl
theorem Pn{p:PV}:pb (some p) none=none:=rfl
theorem U7{s:de}{S:List Int}{rk:Int→Nat}(hr:∀i v,Edge s.sl i v→rk v<rk i)(hO:∀x∈s.sl,x.ty.Ok)(hS:∀x∈s.sl,∀w,ef x.ty w→w∈S){l:List Ty}(hl:Sm l)(ht:∀t∈l,t.Ok)(hw:∀t∈l,∀w,ef t w→w∈S) :
   ∀(n i:Nat),l.length-i=n→i≤l.length→∀(dn:List Bool) (out:List Int),dn.length=s.sl.length→iC S out→(∀j:Nat,dn[j]?=some true→Pj s.sl j out)→(∀v,v∈out↔∃t∈l.take i,RT s.sl t v∧¬ky s.sl v)→∃(dn':List Bool) (out':List Int),
   cl AP g372L0 ⟨[(1,.pv (.aw (l.map Ty.pv))),(5,.aM 1 0),(6,.pv (vI i))],[],fX s (bT dn) s.sl.length out,[out.length]⟩ =
     some (.exit 0,⟨[(1,.pv (.aw (l.map Ty.pv))),(5,.aM 1 0),(6,.pv (vI l.length)),(17,.pv (.bool false))],[],fX s (bT dn') s.sl.length out',[out'.length]⟩)∧iC S out'∧∀v,v∈out'↔∃t∈l,RT s.sl t v∧¬ky s.sl v
 |0,i,hn,hi,dn,out,hd,hc,hp,hv=>by
   have:i=l.length:=by omega
   subst this;refine⟨dn,out,?_,hc,by simpa using hv⟩;have hq:=(ie (dn:=dn)).norm;rw[g372L0e];simp[g372B0,fX,hq]
 |n+1,i,hn,hi,dn,out,hd,hc,hp,hv=>by
   have hi:i<l.length:=(by omega);obtain⟨a,ha⟩:=aP hi;have hm:=aQ ha;unfold Sm at hl;obtain⟨N,hN⟩:=ef.bound rk a;obtain⟨d1,o1,P⟩:=Mq hr hO hS N a (ht a hm) hN (hw a hm) dn out hd hc (fun j hj _=>hp j hj)
   obtain⟨dn',out',e',h1,h2⟩:=U7 hr hO hS hl ht hw n (i+1) (by omega) (by omega) d1 o1 P.len P.JJ (fun j hj=>by
     rcases P.new j hj with h|h
     ·exact (hp j h).mono P.sub
     ·exact h) (fun v=>by
     rw[List.take_add_one,ha];constructor
     · intro h;rcases P.own v h with h|h
       ·obtain⟨t,h1,h2⟩:=(hv v).1 h;exact⟨t,by simp[h1],h2⟩
       ·exact⟨a,by simp,h⟩
     · rintro⟨t,h1,h2⟩
       simp at h1;rcases h1 with h1|rfl
       ·exact P.sub v ((hv v).2 ⟨t,h1,h2⟩)
       ·exact P.all v h2.1 h2.2)
   refine⟨dn',out',?_,h1,h2⟩;have e:=P.WB;have q0:=ie (dn:=dn);have q1:=ie (dn:=d1);have n0:=q0.norm;have n1:=q1.norm;have s0:=q0.sh;have s1:=q1.sh;unfold SN at e;generalize bT d1=T1 at *;generalize bT dn=T at *;rw[g372L0e]at e' ⊢;simp[fX]at e;simp[fX,n1]at e';simp (disch:=omega) [-getElem?_pos,g372B0,fX,hi,ha,n0,n1,s0,s1,aq,e];rw[g372L0e];simp[e',n1]
theorem c372{s:de}{S:List Int}(hs:s.sl.length≤1000000)(ha:JI s.sl)(hO:∀x∈s.sl,x.ty.Ok)(hS:∀x∈s.sl,∀w,ef x.ty w→w∈S)(hf:S.length<1099511627776){l:List Ty}(hl:Sm l)(ht:∀t∈l,t.Ok)(hw:∀t∈l,∀w,ef t w→w∈S) :
   ∃out,(aF AP).p 372 [s.pv,.aw (l.map Ty.pv)]=some [.aw (out.map vI)]∧iC S out∧∀v,v∈out↔∃t∈l,RT s.sl t v∧¬ky s.sl v:=by
 obtain⟨rk,hr⟩:=ha
 obtain⟨dn',out,e,hc,hv⟩:=U7 hr hO hS hl ht hw _ 0 rfl (by omega) (List.replicate s.sl.length false) [] (by simp) (pn hf) (by
   intro j hj;exfalso;by_cases q:j<s.sl.length
   ·simp[List.getElem?_replicate,q]at hj
   ·simp[List.getElem?_replicate,q]at hj) (by simp)
 refine⟨out,?_,hc,hv⟩;have hb:bT (List.replicate s.sl.length false)=List.replicate s.sl.length (.pv (.bool false)):=by simp[bT]
 have hp:=ie (dn:=List.replicate s.sl.length false);have hp':=ie (dn:=dn');rw[hb]at e hp;have b1:(s.sl.length:Int)≤9223372036854775807:=by omega
 have b2:(s.sl.length:Int)≤140737488355328:=by omega
 have hn:=hp.norm;have hn':=hp'.norm;have hh:=hp.sh;have hh':=hp'.sh;have hm:=hp.mp;generalize bT dn'=T' at *
 have hfl:(List.replicate s.sl.length [AV.pv (.bool false)]).flatten=List.replicate s.sl.length (.pv (.bool false)):=by
   generalize s.sl.length=n;induction n with
   |zero=>rfl
   |succ n ih=>rw[List.replicate_succ,List.flatten_cons,ih,List.replicate_succ];rfl
 generalize List.replicate s.sl.length (AV.pv (.bool false))=T at *;rw[g372L0e]at e;simp[fX,hn,hn']at e;rw[ah (af:=g372) rfl rfl (by decide)];simp (disch:=omega) [g372,b1,b2,hn,hn',hh,hh',hm,hfl,g372L0e,e,aq,JK,Pm,Pn,tE]
def MU(l:List Ty)(t:Ty):Option Ty:=if t.kind=2∧0≤t.id∧t.id<l.length then l[t.id.toNat]? else none
theorem mN{l:List Ty}{t u:Ty}(h:MU l t=some u):t.kind=2∧0≤t.id∧t.id<l.length∧l[t.id.toNat]?=some u:=by
 unfold MU at h;split at h
 ·rename_i c;exact⟨c.1,c.2.1,c.2.2,h⟩
 ·cases h
theorem BH{l:List Ty}{t:Ty}(h:MU l t=none):¬(t.kind=2∧0≤t.id∧t.id<l.length):=by
 intro c;unfold MU at h;rw[if_pos c]at h;rw[List.getElem?_eq_none_iff]at h;omega
mutual
def Ty.kf(l:List Ty):Ty→Ty
 |⟨k,n,i,h,as⟩=>(MU l ⟨k,n,i,h,as⟩).getD ⟨k,n,i,h,Ty.MV l as⟩
def Ty.MV(l:List Ty):List Ty→List Ty
 |[]=>[]
 |a::r=>a.kf l::Ty.MV l r
end
theorem Ty.BI(l:List Ty):∀as:List Ty,Ty.MV l as=as.map (Ty.kf l)
 |[]=>by simp[Ty.MV]
 |a::r=>by simp[Ty.MV,Ty.BI l r]
theorem Ty.mO(l:List Ty)(t:Ty):t.kf l=(MU l t).getD ⟨t.kind,t.name,t.id,t.home,t.args.map (Ty.kf l)⟩:=by
 cases t;simp only[Ty.kf,Ty.BI]
theorem W9{s:List Ty}{t:Ty}(hS:Sm t.args)(h:∀x∈t.args,(aF AP).p 48 [x.pv,.aw (s.map Ty.pv)]=some [(x.kf s).pv]):∀(n i:Nat),t.args.length-i=n→i≤t.args.length→∀acc:List Ty,acc=(t.args.take i).map (Ty.kf s) →
   cl AP g48L0 ⟨[(1,.pv (.aw (s.map Ty.pv))),(2,.au 2 0),(4,.au 4 0),(5,.au 5 0),(6,.pv (vI i))],
     [(2,[.pv (vI t.kind),.pv (.str t.name),.pv (vI t.id),.pv (vI t.home),.pv (.aw (t.args.map Ty.pv))]),(4,[.pv (vI 0),.pv (.str []),.pv (vI 0),.pv (vI 0),.own [] 0]),
       (5,[.pv (vI t.kind),.pv (.str t.name),.pv (vI t.id),.pv (vI t.home),.own (acc.map Ty.pv) 1])],[],[0,acc.length]⟩ =
     some (.exit 0,⟨[(1,.pv (.aw (s.map Ty.pv))),(2,.au 2 0),(4,.au 4 0),(5,.au 5 0),(6,.pv (vI t.args.length)),(33,.pv (.bool false))],
     [(2,[.pv (vI t.kind),.pv (.str t.name),.pv (vI t.id),.pv (vI t.home),.pv (.aw (t.args.map Ty.pv))]),(4,[.pv (vI 0),.pv (.str []),.pv (vI 0),.pv (vI 0),.own [] 0]),
       (5,[.pv (vI t.kind),.pv (.str t.name),.pv (vI t.id),.pv (vI t.home),.own ((t.args.map (Ty.kf s)).map Ty.pv) 1])],[],[0,t.args.length]⟩)
 |0,i,hn,hi,acc,ha=>by
   have:i=t.args.length:=by omega
   subst this;subst ha;rw[g48L0e];simp[g48B0]
 |n+1,i,hn,hi,acc,ha=>by
   have hi:i<t.args.length:=(by omega);obtain⟨x,hx⟩:=aP hi;unfold Sm at hS;have hb:(acc.length+1)*64≤140737488355328:=by subst ha;simp;omega
   have hc:=h x (aQ hx);have ih:=W9 hS h n (i+1) (by omega) (by omega) (acc++[x.kf s]) (by rw[List.take_add_one,hx,ha];simp);rw[g48L0e]at ih⊢;simp at ih hc;simp (disch:=omega) [-getElem?_pos,g48B0,hx,hi,hc,hb,aq];rw[g48L0e];simp[ih]
theorem c48{s:List Ty}(hs:Sm s){t:Ty}(hO:t.Ok):(aF AP).p 48 [t.pv,.aw (s.map Ty.pv)]=some [(t.kf s).pv]:=by
 revert hO
 refine Ty.dJ (p:=fun t=>t.Ok→(aF AP).p 48 [t.pv,.aw (s.map Ty.pv)]=some [(t.kf s).pv]) ?_ t;intro t ih hO;rw[ah (af:=g48) rfl rfl (by decide)];unfold Sm at hs;have h:=W9 (s:=s) hO.sm (fun x hx=>ih x hx (hO.gh x hx)) _ 0 rfl (by omega) [] (by simp);rw[g48L0e]at h;simp at h;cases hp:MU s t with
 |some u=>
   obtain⟨a,b,c,d⟩:=mN hp;have b1:¬t.id<0:=by omega
   simp (disch:=omega) [-getElem?_pos,g48,a,b,b1,c,d,Ty.mO s t,hp]
 |none=>
   have q:=BH hp;by_cases a:t.kind=2
   · by_cases b:0≤t.id
     ·have c:¬t.id<s.length:=fun c=>q ⟨a,b,c⟩;simp[a]at h;simp (disch:=omega) [-getElem?_pos,g48,a,b,c,g48L0e,h,Ty.mO s t,hp]
     ·simp[a]at h;simp (disch:=omega) [-getElem?_pos,g48,a,b,g48L0e,h,Ty.mO s t,hp]
   ·simp (disch:=omega) [-getElem?_pos,g48,a,g48L0e,h,Ty.mO s t,hp]
theorem Fb{s:List Ty}(hs:∀a∈s,a.Ok){t:Ty}(h:t.Ok):(t.kf s).Ok:=by
 revert h
 refine Ty.dJ (p:=fun t=>t.Ok→(t.kf s).Ok) ?_ t;intro t ih h;rw[Ty.mO];cases hp:MU s t with
 |some u=>exact hs u (aQ (mN hp).2.2.2)
 |none=>
   refine⟨?_,?_⟩
   ·have:=h.sm;unfold Sm at this⊢;simpa using this
   ·intro x hx;simp at hx;obtain⟨y,hy,rfl⟩:=hx;exact ih y hy (h.gh y hy)
structure Good(S:List Ty)(t:Ty):Prop where
 ok:t.Ok
 wf:t.Wf
 sub:∀x∈t.eJ 1,x∈S
theorem wH{t:Ty}(hW:t.Wf):∀x∈t.nodes,x.kind=1→x∈t.eJ 1:=by
 revert hW
 refine Ty.dJ (p:=fun t=>t.Wf→∀x∈t.nodes,x.kind=1→x∈t.eJ 1) ?_ t;intro t ih hW x hx hk;rw[Ty.aL]at hx;rw[Ty.lH];simp only[List.mem_cons,List.mem_flatMap]at hx;rcases hx with rfl|⟨y,hy,hx⟩
 ·have ea:=hW.var hk;simp[hk,ea]
 · have:¬(t.kind=1∧t.args.length=0):=by
     rintro⟨_,h⟩
     have:t.args=[]:=by simpa using h
     rw[this]at hy;simp at hy
   rw[if_neg this];simp only[List.mem_flatMap];exact⟨y,hy,ih y hy (hW.gh y hy) x hx hk⟩
theorem Fe{S:List Ty}(hf:S.length<1099511627776)(hO:∀x∈S,x.Ok){l:List Ty}(hS:Sm l)(hG:∀t∈l,Good S t):(aF AP).p 56 [.aw (l.map Ty.pv)]=some [.aw ((vars l).map vI)]:=by
 rw[←lI (fun t ht=>(hG t ht).wf)];refine c56 hf hO hS (fun t ht=>(hG t ht).ok) ?_;intro x hx;simp only[List.mem_flatMap]at hx;obtain⟨t,ht,hx⟩:=hx;exact (hG t ht).sub x hx
theorem SU{l:List En}(hS:Sm l):∀(n i:Nat),l.length-i=n→i≤l.length→∀acc:List En,acc.length≤i →
   cl AP g201L0 ⟨[(0,.pv (.aw (l.map En.pv))),(3,.own (acc.map En.pv) 0),(4,.pv (vI i))],[],[],[acc.length]⟩ =
     some (.exit 0,⟨[(0,.pv (.aw (l.map En.pv))),(3,.own ((acc++bW (l.drop i)).map En.pv) 0),(4,.pv (vI l.length)),(10,.pv (.bool false))],[],[],[(acc++bW (l.drop i)).length]⟩)
 |0,i,hn,hi,acc,ha=>by
   have:i=l.length:=by omega
   subst this;rw[g201L0e];simp[g201B0,bW]
 |n+1,i,hn,hi,acc,ha=>by
   have hi:i<l.length:=(by omega);obtain⟨x,hx⟩:=aP hi;have k:=c181 (l:=l.drop (i+1)) (s:=x.name) (by unfold Sm at hS⊢;simp;omega);unfold Sm at hS;have hb:(acc.length+1)*88≤140737488355328:=(by omega);have hsl:=Wx (sz:=7) (l:=l.map En.pv) (k:=.i64) (h:=(i:Int)+1) (by omega) (by simp;omega) (by simp);have hd:((i:Int)+1).toNat=i+1:=(by omega);rw[hd]at hsl;rw[bl hx];simp only[MA]at k;cases e:vn (l.drop (i+1)) x.name with
   |some c=>
     have ea:(l.drop (i+1)).any (fun y=>decide (y.name=x.name))=true:=any_none.2 ⟨c,e⟩;have es:bW (x::l.drop (i+1))=bW (l.drop (i+1)):=(by simp only[bW,ea,if_true]);have ih:=SU hS n (i+1) (by omega) (by omega) acc (by omega);rw[g201L0e]at ih⊢;rw[e]at k;simp at ih k;simp (disch:=omega) [-getElem?_pos,g201B0,hx,hi,aq,hsl,k,es];rw[g201L0e];simp[ih]
   |none=>
     have ea:(l.drop (i+1)).any (fun y=>decide (y.name=x.name))=false:=by
       cases h:(l.drop (i+1)).any (fun y=>decide (y.name=x.name)) with
       |false=>rfl
       |true=>obtain⟨c,hc⟩:=any_none.1 h;rw[e]at hc;cases hc
     have es:bW (x::l.drop (i+1))=x::bW (l.drop (i+1)):=(by simp only[bW,ea];simp);have ih:=SU hS n (i+1) (by omega) (by omega) (acc++[x]) (by simp;omega);rw[g201L0e]at ih⊢;rw[e]at k;simp at ih k;simp (disch:=omega) [-getElem?_pos,g201B0,hx,hi,aq,hsl,k,es,hb];rw[g201L0e];simp[ih]
theorem c201{l:List En}(hS:Sm l):(aF AP).p 201 [.aw (l.map En.pv)]=some [.aw ((bW l).map En.pv)]:=by
 have h:=SU hS _ 0 rfl (by omega) [] (by simp);rw[ah (af:=g201) rfl rfl (by decide)];rw[g201L0e]at h;simp at h;simp[g201,g201L0e,h]
inductive Ty.Kn (K:Int→Prop):Ty→Prop
 |mk {t:Ty}:(t.kind≠4→K t.kind∧t.args=[])→t.name.length≤100→(∀x∈t.args,x.Kn K)→t.Kn K
theorem Ty.Kn.hd{K:Int→Prop}{t:Ty}(h:t.Kn K):t.kind≠4→K t.kind∧t.args=[]:=by cases h;assumption
theorem Ty.Kn.nm{K:Int→Prop}{t:Ty}(h:t.Kn K):t.name.length≤100:=by cases h;assumption
theorem Ty.Kn.kd{K:Int→Prop}{t:Ty}(h:t.Kn K):∀x∈t.args,x.Kn K:=by cases h;assumption
theorem Ty.Kn.imp{K K':Int→Prop}(hK:∀k,K k→K' k){t:Ty}(h:t.Kn K):t.Kn K':=by
 induction h with
 |mk h1 hn _ ih=>exact .mk (fun q=>⟨hK _ (h1 q).1,(h1 q).2⟩) hn ih
theorem Ty.Kn.wf{K:Int→Prop}{t:Ty}(h:t.Kn K):t.Wf:=by
 induction h with
 |mk h1 _ _ ih=>exact⟨fun q=>(h1 (by rw[q];decide)).2,ih⟩
theorem Ty.Kn.cw{K:Int→Prop}{t:Ty}(h:t.Kn K):t.Cw:=by
 induction h with
 |mk h1 _ _ ih=>exact⟨fun q=>(h1 q).2,ih⟩
theorem Ty.Kn.bare{K:Int→Prop}{t:Ty}(h:t.args=[])(hk:t.kind≠4→K t.kind)(hn:t.name.length≤100):t.Kn K:=.mk (fun q=>⟨hk q,h⟩) hn (by rw[h];simp)
theorem Ty.Kn.nodes{K:Int→Prop}{t:Ty}(h:t.Kn K):∀y∈t.nodes,y.kind≠4→K y.kind∧y.args=[]:=by
 induction h with
 | @mk t h1 _ _ ih=>
   intro y hy;rw[Ty.aL]at hy;simp only[List.mem_cons,List.mem_flatMap]at hy;rcases hy with rfl|⟨a,ha,hy⟩
   ·exact h1
   ·exact ih a ha y hy
@[simp] def KS(k:Int):Prop:=k=0∨k=1∨k=3
abbrev Ty.Kw(t:Ty):Prop:=t.Kn KS
theorem Ty.Kw.var{t:Ty}(h:t.Kw):t.kind=1→t.args=[]:=fun q=>(Ty.Kn.hd h (by rw[q];decide)).2
theorem Ty.Kw.gh{t:Ty}(h:t.Kw):∀x∈t.args,x.Kw:=Ty.Kn.kd h
@[simp] def KG(k:Int):Prop:=k=0∨k=3
@[simp] def KC(k:Int):Prop:=k=0∨k=2∨k=3
@[simp] def KV(k:Int):Prop:=k=0∨k=1∨k=2∨k=3
theorem Qu:∀k,KG k→KS k:=by intro k h;simp at h⊢;omega
theorem U8:∀k,KG k→KC k:=by intro k h;simp at h⊢;omega
theorem Qv:∀k,KC k→KV k:=by intro k h;simp at h⊢;omega
theorem MW:∀k,KS k→KV k:=by intro k h;simp at h⊢;omega
theorem ue{K K':Int→Prop}{s:List As}{t:Ty}(h:t.Kn K)(hK:∀k,K k→k≠1→K' k)(hs:∀i x,iQ s i=some x→x.Kn K')(h1:K' 1∨∀y∈t.nodes,y.kind=1→∃x,iQ s y.id=some x):(t.sub s).Kn K':=by
 induction h with
 | @mk t hh hn _ ih=>
   have hself:t∈t.nodes:=(by rw[Ty.aL];simp);rw[Ty.sub_eq];by_cases q:t.kind=1
   · rw[if_pos q];cases e:iQ s t.id with
     |some x=>simpa using hs _ _ e
     |none=>
       rcases h1 with h1|h1
       ·have:=hh (by rw[q];decide);exact .mk (fun _=>⟨by simp only[Option.getD_none];rw[q];exact h1,by simpa using this.2⟩) (by simpa using hn) (by rw[Option.getD_none,this.2];simp)
       ·obtain⟨x,hx⟩:=h1 t hself q;rw[hx]at e;cases e
   · rw[if_neg q];refine .mk (fun r=>?_) hn ?_
     ·have:=hh r;exact⟨hK _ this.1 q,by simp[this.2]⟩
     · intro x hx;simp only[List.mem_map]at hx;obtain⟨a,ha,rfl⟩:=hx;refine ih a ha ?_;rcases h1 with h1|h1
       ·exact .inl h1
       ·right;intro y hy;refine h1 y ?_;rw[Ty.aL];simp only[List.mem_cons,List.mem_flatMap];exact .inr ⟨a,ha,hy⟩
theorem Ff{K K':Int→Prop}{l:List Ty}{t:Ty}(h:t.Kn K)(hK:∀k,K k→k≠2→K' k)(hs:∀x∈l,x.Kn K')(h1:∀y∈t.nodes,y.kind=2→0≤y.id∧y.id<l.length):(t.kf l).Kn K':=by
 induction h with
 | @mk t hh hn _ ih=>
   have hself:t∈t.nodes:=(by rw[Ty.aL];simp);rw[Ty.mO];cases e:MU l t with
   |some x=>
     obtain⟨_,_,_,hx⟩:=mN e;simpa using hs _ (aQ hx)
   |none=>
     have q:t.kind≠2:=fun q=>BH e ⟨q,(h1 t hself q).1,(h1 t hself q).2⟩;simp only[Option.getD_none];refine .mk (fun r=>?_) hn ?_
     ·have:=hh r;exact⟨hK _ this.1 q,by simp[this.2]⟩
     ·intro x hx;simp only[List.mem_map]at hx;obtain⟨a,ha,rfl⟩:=hx;refine ih a ha ?_;intro y hy;refine h1 y ?_;rw[Ty.aL];simp only[List.mem_cons,List.mem_flatMap];exact .inr ⟨a,ha,hy⟩
theorem nr{k:Int}{t:Ty}:(t.eJ k).length≤t.nodes.length:=by
 refine Ty.dJ (p:=fun t=>(t.eJ k).length≤t.nodes.length) ?_ t;intro t ih;rw[Ty.lH,Ty.aL];split
 ·simp
 · have key:∀l:List Ty,(∀a∈l,(a.eJ k).length≤a.nodes.length)→(l.flatMap (Ty.eJ k)).length≤(l.flatMap Ty.nodes).length:=by
     intro l;induction l with
     |nil=>intro _;simp
     |cons a r ihr=>
       intro h;have h1:=h a (by simp);have h2:=ihr fun b hb=>h b (by simp[hb])
       simp only[List.flatMap_cons,List.length_append];omega
   have:=key t.args ih;simp only[List.length_cons];omega
theorem kL{k:Int}{t:Ty}:∀x∈t.eJ k,x.args=[]:=by
 refine Ty.dJ (p:=fun t=>∀x∈t.eJ k,x.args=[]) ?_ t;intro t ih x hx;rw[Ty.lH]at hx;split at hx
 ·rename_i q;simp at hx;subst hx;exact List.length_eq_zero_iff.1 q.2
 ·simp only[List.mem_flatMap]at hx;obtain⟨a,ha,hx⟩:=hx;exact ih a ha x hx
theorem c59t{u:Ty}(hu:u.Ok)(hn:u.nodes.length≤4000):∃r:List Ty,(aF AP).p 59 [.aw [u.pv]]=some [.aw (r.map Ty.pv)]∧Sm r:=by
 have hl:=nr (k:=3) (t:=u);obtain⟨r,e,h,_⟩:=c59 (S:=u.eJ 3) (by omega) (fun x hx=>bL (kL x hx)) (l:=[u]) (by simp[Sm]) (by simpa using hu) (by simp);exact⟨r,e,h⟩
structure Inv(n M:Nat)(S:List Int)(s:de):Prop where
 len:s.sl.length=n
 NW:s.tr.length+(n+2)*ub s.sl≤M
 ok:∀x∈s.sl,x.ty.Ok
 gQ:∀x∈s.sl,∀w,ef x.ty w→w∈S
 B6:JI s.sl
 wf:∀x∈s.sl,x.ty.Kw
structure Ext(s s':List Sl):Prop where
 le:s.length≤s'.length
 bd:∀(k:Nat) x,s[k]?=some x→x.bd=true→∃y,s'[k]?=some y∧y.bd=true∧y.ty=x.ty
theorem Ext.refl(s:List Sl):Ext s s:=⟨Nat.le_refl _,fun _ x h hb=>⟨x,h,hb,rfl⟩⟩
theorem Ext.trans{s s' s2:List Sl}(h:Ext s s')(h':Ext s' s2):Ext s s2:=⟨Nat.le_trans h.le h'.le,fun k x hx hb=>by
 obtain⟨y,hy,yb,e⟩:=h.bd k x hx hb;obtain⟨z,hz,zb,e'⟩:=h'.bd k y hy yb;exact⟨z,hz,zb,by rw[e',e]⟩⟩
theorem Ext.set{s:List Sl}{i:Nat}{o x:Sl}(ho:s[i]?=some o)(h:o.bd=false∨x.bd=o.bd∧x.ty=o.ty):Ext s (s.set i x):=⟨by simp,fun k y hy hb=>by
 rw[List.getElem?_set];by_cases e:i=k
 · subst e;rw[ho]at hy;cases hy;rcases h with h|⟨h1,h2⟩
   ·rw[h]at hb;cases hb
   ·have:=(List.getElem?_eq_some_iff.1 ho).1;exact⟨x,by simp[this],by rw[h1,hb],h2⟩
 ·exact⟨y,by simp[e,hy],hb,rfl⟩⟩
theorem mem_set{α:Type}{l:List α}{k:Nat}{x y:α}(h:y∈l.set k x):y=x∨y∈l:=by
 rcases List.mem_or_eq_of_mem_set h with h|h
 ·exact .inr h
 ·exact .inl h
theorem b_{s:de}{i:Nat}{o x:Sl}:(gj s i o x).sl=s.sl.set i x:=rfl
theorem nu{s:de}{i:Nat}{o x:Sl}:(gj s i o x).tr.length=s.tr.length+1:=by simp[gj]
theorem r5{s:List Sl}{k:Nat}{o:Sl}(hk:s[k]?=some o)(h:¬ky s (k:Int)):o.bd=false:=by
 cases e:o.bd with
 |false=>rfl
 |true=>exact absurd ⟨k,o,rfl,hk,e⟩ h
theorem MX{n M:Nat}{S:List Int}{s:de}(I:Inv n M S s){i j:Nat}{l h l' h':Sl}(hl:s.sl[i]?=some l)(hh:s.sl[j]?=some h)(hij:i≠j)(fi:¬ky s.sl (i:Int))(fj:¬ky s.sl (j:Int))
   (hl1:l'.bd=l.bd) (hl2:l'.ty=l.ty) (hh1:h'.bd=true) (hh2:h'.ty=aK i) (hi:(i:Int)∈S) :
   Inv n M S (gj (gj s i l l') j h h')∧ub (gj (gj s i l l') j h h').sl<ub s.sl∧Ext s.sl (gj (gj s i l l') j h h').sl:=by
 have hj':(gj s i l l').sl[j]?=some h:=by
   rw[b_,List.getElem?_set,if_neg hij,hh]
 have u1:=rZ hl hl1;have u2:=yz hj' (r5 hh fj) hh1;rw[b_]at u2;have hp:=I.NW;refine⟨⟨by simp[gj,I.len],?_,?_,?_,?_,?_⟩,?_,(Ext.set hl (.inr ⟨hl1,hl2⟩)).trans (Ext.set hj' (.inl (r5 hh fj)))⟩
 · rw[nu,nu];simp only[b_];have:(n+2)*ub s.sl=(n+2)*ub ((s.sl.set i l').set j h')+(n+2):=by rw[←u1,←u2,Nat.mul_add,Nat.mul_one]
   omega
 · intro x hx;simp only[b_]at hx;rcases mem_set hx with rfl|hx
   ·rw[hh2];exact bL rfl
   · rcases mem_set hx with rfl|hx
     ·rw[hl2];exact I.ok l (aQ hl)
     ·exact I.ok x hx
 · intro x hx w ho;simp only[b_]at hx;rcases mem_set hx with rfl|hx
   ·rw[hh2]at ho;rw[gP (t:=aK i) rfl ho];exact hi
   · rcases mem_set hx with rfl|hx
     ·rw[hl2]at ho;exact I.gQ l (aQ hl) w ho
     ·exact I.gQ x hx w ho
 · simp only[b_];refine BD (BC I.B6 hl hl1 hl2) ?_;intro v ho hv;rw[hh2]at ho;have e:=gP (t:=aK i) rfl ho;have e2:v=(i:Int):=e;subst e2
   have fi':¬ky (s.sl.set i l') (i:Int):=by
     rintro⟨k,x,q,hx,hb⟩
     have:k=i:=by omega
     subst this;have hlt:k<s.sl.length:=by obtain⟨h,_⟩:=List.getElem?_eq_some_iff.1 hl;exact h
     rw[List.getElem?_set,if_pos rfl,if_pos hlt]at hx;cases hx;rw[hl1,r5 hl fi]at hb;cases hb
   have:=mL hv fi';omega
 · intro x hx;simp only[b_]at hx;rcases mem_set hx with rfl|hx
   ·rw[hh2];exact⟨by simp[aK],by simp[aK],by simp[aK]⟩
   · rcases mem_set hx with rfl|hx
     ·rw[hl2];exact I.wf l (aQ hl)
     ·exact I.wf x hx
 ·simp only[b_];omega
theorem Inv.MY{n M:Nat}{S:List Int}{s:de}(I:Inv n M S s):s.Ok n (M+10):=⟨by rw[I.len];omega,by have:=I.NW;have:0≤(n+2)*ub s.sl:=Nat.zero_le _;omega,I.ok⟩
theorem Inv.WC{n M:Nat}{S:List Int}{s:de}(I:Inv n M S s){i:Nat}{o x:Sl}(hx:x.ty.Ok):(gj s i o x).Ok n (M+10):=⟨by rw[b_,List.length_set,I.len];omega,by rw[nu];have:=I.NW;have:0≤(n+2)*ub s.sl:=Nat.zero_le _;omega,by
 intro y hy;rw[b_]at hy;rcases mem_set hy with rfl|hy
 ·exact hx
 ·exact I.ok y hy⟩
theorem c397{n M:Nat}{S:List Int}{s:de}(I:Inv n M S s)(hn:n≤1000000)(hM:M≤1100000000000){x y:Ty}{i j:Nat}(hxi:x.id=i)(hyj:y.id=j)(hi:i<n)(hj:j<n)(fi:¬ky s.sl (i:Int))(fj:¬ky s.sl (j:Int))(hiS:(i:Int)∈S)(hjS:(j:Int)∈S) :
   ∃s',(aF AP).p 397 [s.pv,x.pv,y.pv]=some [s'.pv]∧Inv n M S s'∧(s'=s∨ub s'.sl<ub s.sl)∧Ext s.sl s'.sl:=by
 by_cases hij:i=j
 · refine⟨s,?_,I,.inl rfl,.refl _⟩;have h2:x.id=y.id:=by rw[hxi,hyj,hij]
   rw[ah (af:=g397) rfl rfl (by decide)];simp[g397,h2]
 · have hne:¬(i:Int)=j:=(by omega);obtain⟨a,ha⟩:=aP (l:=s.sl) (i:=min i j) (by rw[I.len];omega);obtain⟨b,hb⟩:=aP (l:=s.sl) (i:=max i j) (by rw[I.len];omega);have hab:min i j≠max i j:=by omega
   have fa:¬ky s.sl ((min i j:Nat):Int):=by
     by_cases q:i≤j
     ·rw[Nat.min_eq_left q];exact fi
     ·rw[Nat.min_eq_right (by omega)];exact fj
   have fb:¬ky s.sl ((max i j:Nat):Int):=by
     by_cases q:i≤j
     ·rw[Nat.max_eq_right q];exact fj
     ·rw[Nat.max_eq_left (by omega)];exact fi
   have haS:((min i j:Nat):Int)∈S:=by
     by_cases q:i≤j
     ·rw[Nat.min_eq_left q];exact hiS
     ·rw[Nat.min_eq_right (by omega)];exact hjS
   have hmin:(if j<i then (j:Int) else (i:Int))=((min i j:Nat):Int):=by split<;>omega
   have hmax:(if i<j then (j:Int) else (i:Int))=((max i j:Nat):Int):=by split<;>omega
   have hlo:min i j<s.sl.length:=(by rw[I.len];omega);have hhi:max i j<s.sl.length:=(by rw[I.len];omega);generalize min i j=p at *;generalize max i j=q at *;have k0:=c63 (n:=p);let a':Sl:=⟨a.bd,a.ty,if b.home<a.home then b.home else a.home,a.base || b.base⟩;let b':Sl:=⟨true,aK p,b.home,b.base⟩;have aO:a'.ty.Ok:=I.ok a (aQ ha);have k1:=c393 I.MY (by omega) (by omega) ha a';have hb1:(gj s p a a').sl[q]?=some b:=(by rw[b_,List.getElem?_set,if_neg hab,hb]);have k2:=c393 (I.WC (i:=p) (o:=a) aO) (by omega) (by omega) hb1 b';obtain⟨J,hu,hx⟩:=MX I (l':=a') (h':=b') ha hb hab fa fb rfl rfl rfl rfl haS;refine⟨gj (gj s p a a') q b b',?_,J,.inr hu,hx⟩;generalize gj (gj s p a a') q b b'=s2 at *;generalize gj s p a a'=s1 at *;simp[a',b',aK]at k0 k1 k2;rw[ah (af:=g397) rfl rfl (by decide)];cases hab1:a.base
   ·simp[hab1]at k1;simp (disch:=omega) [-getElem?_pos,g397,hxi,hyj,hne,hmin,hmax,ha,hb,hlo,hhi,k0,k1,k2,hab1]
   ·simp[hab1]at k1;simp (disch:=omega) [-getElem?_pos,g397,hxi,hyj,hne,hmin,hmax,ha,hb,hlo,hhi,k0,k1,k2,hab1]
def zS:List AV:=[.own [] 0,.own [] 1]
def qd(v:Sl):List AV:=[.pv (.bool v.bd),.pv (vI v.ty.kind),.pv (.str v.ty.name),.pv (vI v.ty.id),.pv (vI v.ty.home),.pv (.aw (v.ty.args.map Ty.pv)),.pv (vI v.home),.pv (.bool v.base)]
def MZ(s:de)(q:aG):Option (aU×St):=some (.ret,⟨[(6,.au 6 0),(7,.pv (vI 13))],[(6,sC s)],[],q⟩)
theorem Qw{s:de}{i:Nat}{t:Ty}{v:Sl}{out:List Int}{r:List Ty}(hr:Sm r):∀(n k:Nat),r.length-k=n→k≤r.length →
   (∃q,cl AP g398L0 ⟨[(1,.pv (vI i)),(3,.au 3 0),(5,.au 5 0),(6,.au 6 0),(8,.au 8 0),(9,.pv (.aw (out.map vI))),(15,.pv (.aw (r.map Ty.pv))),(16,.pv (vI k))],[(3,sC s),(5,tC t),(6,zS),(8,qd v)],[],[0,0]⟩=MZ s q) ∨
   cl AP g398L0 ⟨[(1,.pv (vI i)),(3,.au 3 0),(5,.au 5 0),(6,.au 6 0),(8,.au 8 0),(9,.pv (.aw (out.map vI))),(15,.pv (.aw (r.map Ty.pv))),(16,.pv (vI k))],[(3,sC s),(5,tC t),(6,zS),(8,qd v)],[],[0,0]⟩ =
     some (.exit 0,⟨[(1,.pv (vI i)),(3,.au 3 0),(5,.au 5 0),(6,.au 6 0),(8,.au 8 0),(9,.pv (.aw (out.map vI))),(15,.pv (.aw (r.map Ty.pv))),(16,.pv (vI r.length)),(57,.pv (.bool false))],[(3,sC s),(5,tC t),(6,zS),(8,qd v)],[],[0,0]⟩)
 |0,k,hn,hk=>by
   have:k=r.length:=by omega
   subst this;refine .inr ?_;rw[g398L0e];simp[g398B0,sC,tC,zS,qd]
 |n+1,k,hn,hk=>by
   have hk:k<r.length:=(by omega);obtain⟨x,hx⟩:=aP hk;unfold Sm at hr;by_cases hg:v.home<x.home
   ·refine .inl ?_;rw[g398L0e];simp (disch:=omega) [-getElem?_pos,g398B0,sC,tC,zS,qd,MZ,hx,hk,hg]
   · have ih:=Qw (s:=s) (i:=i) (t:=t) (v:=v) (out:=out) hr n (k+1) (by omega) (by omega)
     have e1:cl AP g398L0 ⟨[(1,.pv (vI i)),(3,.au 3 0),(5,.au 5 0),(6,.au 6 0),(8,.au 8 0),(9,.pv (.aw (out.map vI))),(15,.pv (.aw (r.map Ty.pv))),(16,.pv (vI k))],[(3,sC s),(5,tC t),(6,zS),(8,qd v)],[],[0,0]⟩=cl AP g398L0 ⟨[(1,.pv (vI i)),(3,.au 3 0),(5,.au 5 0),(6,.au 6 0),(8,.au 8 0),(9,.pv (.aw (out.map vI))),(15,.pv (.aw (r.map Ty.pv))),(16,.pv (vI (k+1:Nat)))],[(3,sC s),(5,tC t),(6,zS),(8,qd v)],[],[0,0]⟩:=by
       conv=>lhs;rw[g398L0e]
       simp (disch:=omega) [-getElem?_pos,g398B0,sC,tC,zS,qd,hx,hk,hg,aq]
     rw[e1];exact ih
theorem Qx{s:de}{i:Nat}{t:Ty}{v:Sl}{out:List Int}(hr:Sm out):∀(n k:Nat),out.length-k=n→k≤out.length →
   (∃q,cl AP g398L1 ⟨[(1,.pv (vI i)),(3,.au 3 0),(5,.au 5 0),(6,.au 6 0),(8,.au 8 0),(9,.pv (.aw (out.map vI))),(17,.pv (vI k))],[(3,sC s),(5,tC t),(6,zS),(8,qd v)],[],[0,0]⟩=MZ s q) ∨
   cl AP g398L1 ⟨[(1,.pv (vI i)),(3,.au 3 0),(5,.au 5 0),(6,.au 6 0),(8,.au 8 0),(9,.pv (.aw (out.map vI))),(17,.pv (vI k))],[(3,sC s),(5,tC t),(6,zS),(8,qd v)],[],[0,0]⟩ =
     some (.exit 2,⟨[(1,.pv (vI i)),(3,.au 3 0),(5,.au 5 0),(6,.au 6 0),(8,.au 8 0),(9,.pv (.aw (out.map vI))),(17,.pv (vI out.length)),(72,.pv (.bool false))],[(3,sC s),(5,tC t),(6,zS),(8,qd v)],[],[0,0]⟩)
 |0,k,hn,hk=>by
   have:k=out.length:=by omega
   subst this;refine .inr ?_;rw[g398L1e];simp[g398B1,sC,tC,zS,qd]
 |n+1,k,hn,hk=>by
   have hk:k<out.length:=(by omega);obtain⟨x,hx⟩:=aP hk;unfold Sm at hr;by_cases hg:(s.sl.length:Int)≤x∧v.home<0
   ·obtain⟨g1,g2⟩:=hg;refine .inl ?_;rw[g398L1e];simp (disch:=omega) [-getElem?_pos,g398B1,sC,tC,zS,qd,MZ,hx,hk,g1,g2]
   · have ih:=Qx (s:=s) (i:=i) (t:=t) (v:=v) (out:=out) hr n (k+1) (by omega) (by omega)
     have e1:cl AP g398L1 ⟨[(1,.pv (vI i)),(3,.au 3 0),(5,.au 5 0),(6,.au 6 0),(8,.au 8 0),(9,.pv (.aw (out.map vI))),(17,.pv (vI k))],[(3,sC s),(5,tC t),(6,zS),(8,qd v)],[],[0,0]⟩=cl AP g398L1 ⟨[(1,.pv (vI i)),(3,.au 3 0),(5,.au 5 0),(6,.au 6 0),(8,.au 8 0),(9,.pv (.aw (out.map vI))),(17,.pv (vI (k+1:Nat)))],[(3,sC s),(5,tC t),(6,zS),(8,qd v)],[],[0,0]⟩:=by
       conv=>lhs;rw[g398L1e]
       by_cases g1:(s.sl.length:Int)≤x
       ·have g2:¬v.home<0:=fun h=>hg ⟨g1,h⟩;simp (disch:=omega) [-getElem?_pos,g398B1,sC,tC,zS,qd,hx,hk,g1,g2,aq]
       ·simp (disch:=omega) [-getElem?_pos,g398B1,sC,tC,zS,qd,hx,hk,g1,aq]
     rw[e1];exact ih
structure Kp(s s':de)(c:Nat):Prop where
 len:s'.sl.length=s.sl.length
 tr:s'.tr.length≤s.tr.length+c
 M0:∀(k:Nat) o',s'.sl[k]?=some o'→∃o,s.sl[k]?=some o∧o'.bd=o.bd∧o'.ty=o.ty
 ub:ub s'.sl=ub s.sl
theorem Kp.yA{s s':de}{c:Nat}(h:Kp s s' c){i v:Int}(e:Edge s'.sl i v):Edge s.sl i v:=by
 obtain⟨k,x,rfl,hx,hb,ho⟩:=e;obtain⟨o,hk,h1,h2⟩:=h.M0 k x hx;exact⟨k,o,rfl,hk,by rw[←h1];exact hb,by rw[←h2];exact ho⟩
theorem Kp.set{s s':de}{c:Nat}(h:Kp s s' c){k:Nat}{o x:Sl}(ho:s'.sl[k]?=some o)(hb:x.bd=o.bd)(ht:x.ty=o.ty):Kp s (gj s' k o x) (c+1) where
 len:=by rw[b_,List.length_set,h.len]
 tr:=by rw[nu];have:=h.tr;omega
 M0:=by
   intro j o' hj;rw[b_,List.getElem?_set]at hj;by_cases e:k=j
   · subst e;have hl:k<s'.sl.length:=by obtain⟨h,_⟩:=List.getElem?_eq_some_iff.1 ho;exact h
     rw[if_pos rfl,if_pos hl]at hj;cases hj;obtain⟨p,h1,h2,h3⟩:=h.M0 k o ho;exact⟨p,h1,by rw[hb,h2],by rw[ht,h3]⟩
   ·rw[if_neg e]at hj;exact h.M0 j o' hj
 ub:=by rw[b_,rZ ho hb,h.ub]
theorem Kp.ext{s s':de}{c:Nat}(h:Kp s s' c):Ext s.sl s'.sl:=⟨by rw[h.len];omega,fun k x hx hb=>by
 have hl:k<s'.sl.length:=by rw[h.len];exact (List.getElem?_eq_some_iff.1 hx).1
 obtain⟨y,hy⟩:=aP hl;obtain⟨o,h1,h2,h3⟩:=h.M0 k y hy;rw[hx]at h1;cases h1;exact⟨y,hy,by rw[h2,hb],h3⟩⟩
theorem Kp.refl{s:de}:Kp s s 0:=⟨rfl,by omega,fun k o h=>⟨o,h,rfl,rfl⟩,rfl⟩
theorem Kp.bQ{s s':de}{c d:Nat}(h:Kp s s' c)(hd:c≤d):Kp s s' d:=⟨h.len,by have:=h.tr;omega,h.M0,h.ub⟩
def oB(n:Nat)(l:List Int):Nat:=(l.filter fun w:Int=>decide (w<(n:Int))).length
theorem F9{n:Nat}{l:List Int}(hd:l.Nodup)(h0:∀w∈l,0≤w):oB n l≤n:=by
 have h1:(l.filter fun w=>decide (w<(n:Int))).Nodup:=hd.filter _
 have h2:∀x∈(l.filter fun w=>decide (w<(n:Int))),x∈(List.range n).map (fun k:Nat=>(k:Int)):=by
   intro x hx;simp at hx;simp;exact⟨x.toNat,by have:=h0 x hx.1;omega,by have:=h0 x hx.1;omega⟩
 have:=fp h1 h2;simpa[oB] using this
theorem Kp.MY{n M:Nat}{S:List Int}{s s':de}{c:Nat}(I:Inv n M S s)(h:Kp s s' c)(hc:c≤n):s'.Ok n (M+n+10):=⟨by rw[h.len,I.len];omega,by have:=h.tr;have:=I.NW;have:0≤(n+2)*Lw.ub s.sl:=Nat.zero_le _;omega,by
 intro x hx;obtain⟨k,hk⟩:=List.mem_iff_getElem?.1 hx;obtain⟨o,ho,_,e⟩:=h.M0 k x hk;rw[e];exact I.ok o (aQ ho)⟩
theorem F_{N M:Nat}{S:List Int}{s:de}(I:Inv N M S s)(hN:N≤1000000)(hM:M≤1100000000000){i:Nat}{t:Ty}{v:Sl}{out:List Int}(hr:Sm out)(hd:out.Nodup)(h0:∀w∈out,0≤w):∀(n k:Nat),out.length-k=n→k≤out.length→∀s':de,Kp s s' (oB N (out.take k))→∃s2,Kp s s2 (oB N out) ∧
   cl AP g398L2 ⟨[(1,.pv (vI i)),(3,.au 3 0),(5,.au 5 0),(6,.au 6 0),(8,.au 8 0),(9,.pv (.aw (out.map vI))),(18,.pv (vI k))],[(3,sC s'),(5,tC t),(6,zS),(8,qd v)],[],[0,0]⟩ =
     some (.exit 4,⟨[(1,.pv (vI i)),(3,.au 3 0),(5,.au 5 0),(6,.au 6 0),(8,.au 8 0),(9,.pv (.aw (out.map vI))),(18,.pv (vI out.length)),(92,.pv (.bool false))],[(3,sC s2),(5,tC t),(6,zS),(8,qd v)],[],[0,0]⟩)
 |0,k,hn,hk,s',hK=>by
   have:k=out.length:=by omega
   subst this;refine⟨s',by simpa using hK,?_⟩;rw[g398L2e];simp[g398B2,sC,tC,zS,qd]
 |n+1,k,hn,hk,s',hK=>by
   have hk:k<out.length:=(by omega);obtain⟨x,hx⟩:=aP hk;have hx0:=h0 x (aQ hx);have hl:=hK.len;rw[I.len]at hl;have htk:out.take (k+1)=out.take k++[x]:=(by rw[List.take_add_one,hx];rfl);have hsub:oB N (out.take k)≤N:=F9 (hd.sublist (List.take_sublist _ _)) (fun w hw=>h0 w (List.mem_of_mem_take hw));have hs:=hr;unfold Sm at hr;by_cases hg:x<(N:Int)
   · obtain⟨j,rfl⟩:∃j:Nat,x=j:=⟨x.toNat,by omega⟩;have hj:j<s'.sl.length:=by omega
     obtain⟨o,ho⟩:=aP hj
     have hcnt:oB N (out.take (k+1))=oB N (out.take k)+1:=by
       rw[htk];simp[oB,hg]
     by_cases hh:v.home<o.home
     ·have c:=c393 (hK.MY I hsub) hN (by omega) ho ⟨o.bd,o.ty,v.home,o.base⟩;have hK2:=hK.set (x:=⟨o.bd,o.ty,v.home,o.base⟩) ho rfl rfl;rw[←hcnt]at hK2;obtain⟨s2,h2,e⟩:=F_ (i:=i) (t:=t) (v:=v) I hN hM hs hd h0 n (k+1) (by omega) (by omega) _ hK2;refine⟨s2,h2,?_⟩;generalize gj s' j o ⟨o.bd,o.ty,v.home,o.base⟩=s1 at *;rw[g398L2e]at e⊢;simp[sC,tC,zS,qd]at e;simp at c;simp (disch:=omega) [-getElem?_pos,g398B2,sC,tC,zS,qd,hx,hk,hj,ho,hh,c,aq];rw[g398L2e];simp[e]
     ·have hK2:Kp s s' (oB N (out.take (k+1))):=hK.bQ (by omega);obtain⟨s2,h2,e⟩:=F_ (i:=i) (t:=t) (v:=v) I hN hM hs hd h0 n (k+1) (by omega) (by omega) s' hK2;refine⟨s2,h2,?_⟩;rw[g398L2e]at e⊢;simp[sC,tC,zS,qd]at e;simp (disch:=omega) [-getElem?_pos,g398B2,sC,tC,zS,qd,hx,hk,hj,ho,hh,aq];rw[g398L2e];simp[e]
   · have hcnt:oB N (out.take (k+1))=oB N (out.take k):=by
       rw[htk];simp[oB,hg]
     have hK2:Kp s s' (oB N (out.take (k+1))):=(by rw[hcnt];exact hK);obtain⟨s2,h2,e⟩:=F_ (i:=i) (t:=t) (v:=v) I hN hM hs hd h0 n (k+1) (by omega) (by omega) s' hK2;refine⟨s2,h2,?_⟩;have hg':¬x<(s'.sl.length:Int):=(by omega);rw[g398L2e]at e⊢;simp[sC,tC,zS,qd]at e;simp (disch:=omega) [-getElem?_pos,g398B2,sC,tC,zS,qd,hx,hk,hg',aq];rw[g398L2e];simp[e]
def UR(n M:Nat)(S:List Int)(s s':de)(e:Int):Prop:=e=0→Inv n M S s'∧(s'=s∨ub s'.sl<ub s.sl)∧Ext s.sl s'.sl
theorem BK{n M:Nat}{S:List Int}{s s2:de}(I:Inv n M S s){i:Nat}{v:Sl}{t:Ty}(hv:s.sl[i]?=some v)(fi:¬ky s.sl (i:Int)){c:Nat}(hK:Kp s s2 c)(hc:c≤n){o:Sl}(ho:s2.sl[i]?=some o)(ht:t.Ok)(hwf:t.Kw)(hw:∀w,ef t w→w∈S)(hnr:¬RT s.sl t i){x:Sl}(hb:x.bd=true)(hx:x.ty=t) :
   Inv n M S (gj s2 i o x)∧ub (gj s2 i o x).sl<ub s.sl∧Ext s.sl (gj s2 i o x).sl:=by
 have hob:o.bd=false:=by
   obtain⟨o2,h1,h2,_⟩:=hK.M0 i o ho;rw[hv]at h1;cases h1;rw[h2];exact r5 hv fi
 have u2:=yz ho hob hb;have hu:=hK.ub;have hp:=I.NW;have hl:=I.len;refine⟨⟨by rw[b_,List.length_set,hK.len,I.len],?_,?_,?_,?_,?_⟩,?_,hK.ext.trans (Ext.set ho (.inl hob))⟩
 · rw[nu,b_];have:(n+2)*ub s.sl=(n+2)*ub (s2.sl.set i x)+(n+2):=by rw[←hu,←u2,Nat.mul_add,Nat.mul_one]
   have:=hK.tr;omega
 · intro y hy;rw[b_]at hy;rcases mem_set hy with rfl|hy
   ·rw[hx];exact ht
   ·obtain⟨k,hk⟩:=List.mem_iff_getElem?.1 hy;obtain⟨p,h1,_,h3⟩:=hK.M0 k y hk;rw[h3];exact I.ok p (aQ h1)
 · intro y hy w hw2;rw[b_]at hy;rcases mem_set hy with rfl|hy
   ·rw[hx]at hw2;exact hw w hw2
   ·obtain⟨k,hk⟩:=List.mem_iff_getElem?.1 hy;obtain⟨p,h1,_,h3⟩:=hK.M0 k y hk;rw[h3]at hw2;exact I.gQ p (aQ h1) w hw2
 · rw[b_];refine BD (I.B6.of fun a b=>hK.yA) ?_;intro w ho2 hr;rw[hx]at ho2;refine hnr ⟨w,ho2,?_⟩
   have key:∀{a b:Int},rY s2.sl a b→rY s.sl a b:=by
     intro a b h;induction h with
     |refl=>exact .refl _
     |step e _ ih=>exact .step (hK.yA e) ih
   exact key hr
 · intro y hy;rw[b_]at hy;rcases mem_set hy with rfl|hy
   ·rw[hx];exact hwf
   ·obtain⟨k,hk⟩:=List.mem_iff_getElem?.1 hy;obtain⟨p,h1,_,h3⟩:=hK.M0 k y hk;rw[h3];exact I.wf p (aQ h1)
 ·rw[b_];omega
theorem c398{n M:Nat}{S:List Int}{s:de}(I:Inv n M S s)(hn:n≤1000000)(hM:M≤1100000000000)(hf:S.length<1099511627776)(hS0:∀w∈S,0≤w){i:Nat}(hi:i<n)(fi:¬ky s.sl (i:Int)){t:Ty}(ht:t.Ok)(hwf:t.Kw)(hw:∀w,ef t w→w∈S) :
   ∃s' e,(aF AP).p 398 [s.pv,vI i,t.pv]=some [s'.pv,vI e]∧UR n M S s s' e:=by
 have hl:=I.len;have his:i<s.sl.length:=by omega
 obtain⟨v,hv⟩:=aP his;obtain⟨out,k1,hc,hall⟩:=c372 (by omega) I.B6 I.ok I.gQ hf (l:=[t]) (by simp[Sm]) (by simpa using ht) (by simpa using hw);have hsm:=hc.len;have k2:=c95 hsm (y:=(i:Int));obtain⟨a,b,ar,k3,_⟩:=c194g ht;have hsl:Sm s.sl:=by unfold Sm;omega
 obtain⟨u,bb,k4,hu,hun⟩:=c358 hsl I.ok ht;obtain⟨r,k5,hr⟩:=c59t hu hun;have A:=Qw (s:=s) (i:=i) (t:=t) (v:=v) (out:=out) hr _ 0 rfl (by omega);have B:=Qx (s:=s) (i:=i) (t:=t) (v:=v) (out:=out) hsm _ 0 rfl (by omega);have h0:∀w∈out,0≤w:=fun w hw=>hS0 w (hc.sub w hw)
 obtain⟨s2,hK,C⟩:=F_ (i:=i) (t:=t) (v:=v) I hn hM hsm hc.nodup h0 _ 0 rfl (by omega) s (by simpa[oB] using Kp.refl);have hcn:oB n out≤n:=F9 hc.nodup h0;have hi2:i<s2.sl.length:=by rw[hK.len];exact his
 obtain⟨o,ho⟩:=aP hi2;let x:Sl:=⟨true,t,v.home,v.base⟩;have k6:=c393 (hK.MY I hcn) hn (by omega) ho x;by_cases q1:(i:Int)∈out
 ·rw[decide_eq_true q1]at k2;refine⟨s,12,?_,by intro h;cases h⟩;rw[ah (af:=g398) rfl rfl (by decide)];simp at k1;simp (disch:=omega) [-getElem?_pos,g398,his,hv,k1,k2]
 · rw[decide_eq_false q1]at k2;have hnr:¬RT s.sl t i:=fun h=>q1 ((hall i).2 ⟨t,by simp,h,fi⟩)
   have J:=BK I (x:=x) hv fi hK hcn ho ht hwf hw hnr rfl rfl;generalize gj s2 i o x=s3 at *;simp[x]at k6;simp at k1 k3 k4 k5;rw[g398L0e]at A;rw[g398L1e]at B;rw[g398L2e]at C;simp[sC,tC,zS,qd,MZ]at A B C;by_cases q2:ar=true∧v.base=true
   ·obtain⟨q3,q4⟩:=q2;refine⟨s,14,?_,by intro h;cases h⟩;rw[ah (af:=g398) rfl rfl (by decide)];simp (disch:=omega) [-getElem?_pos,g398,his,hv,k1,k2,k3,q3,q4]
   · rcases A with⟨q,A⟩|A
     · refine⟨s,13,?_,by intro h;cases h⟩;rw[ah (af:=g398) rfl rfl (by decide)];cases ar with
       |true=>
         have q4:v.base=false:=by cases e:v.base with|false=>rfl|true=>exact absurd ⟨rfl,e⟩ q2
         simp[q4]at A;simp (disch:=omega) [-getElem?_pos,g398,his,hv,k1,k2,k3,k4,k5,q4,g398L0e,A]
       |false=>simp (disch:=omega) [-getElem?_pos,g398,his,hv,k1,k2,k3,k4,k5,g398L0e,A]
     · rcases B with⟨q,B⟩|B
       · refine⟨s,13,?_,by intro h;cases h⟩;rw[ah (af:=g398) rfl rfl (by decide)];cases ar with
         |true=>
           have q4:v.base=false:=by cases e:v.base with|false=>rfl|true=>exact absurd ⟨rfl,e⟩ q2
           simp[q4]at A B;simp (disch:=omega) [-getElem?_pos,g398,his,hv,k1,k2,k3,k4,k5,q4,g398L0e,A,g398L1e,B]
         |false=>simp (disch:=omega) [-getElem?_pos,g398,his,hv,k1,k2,k3,k4,k5,g398L0e,A,g398L1e,B]
       · refine⟨s3,0,?_,fun _=>⟨J.1,.inr J.2.1,J.2.2⟩⟩;rw[ah (af:=g398) rfl rfl (by decide)];cases ar with
         |true=>
           have q4:v.base=false:=by cases e:v.base with|false=>rfl|true=>exact absurd ⟨rfl,e⟩ q2
           simp[q4]at A B C k6;simp (disch:=omega) [-getElem?_pos,g398,his,hv,k1,k2,k3,k4,k5,q4,g398L0e,A,g398L1e,B,g398L2e,C,k6]
         |false=>simp (disch:=omega) [-getElem?_pos,g398,his,hv,k1,k2,k3,k4,k5,g398L0e,A,g398L1e,B,g398L2e,C,k6]
theorem BL{s:List Sl}{rk:Int→Nat}(hr:∀i v,Edge s i v→rk v<rk i):∀(m:Nat) (t:Ty),iD s (wk s m t)≠none→∃(i:Nat) (l:List Nat),t.kind=1∧t.id=i∧l.length=m∧(i::l).Pairwise (fun a b:Nat=>rk (b:Int)<rk (a:Int))∧∀a∈i::l,a<s.length
 |0,t,h=>by
   cases hb:iD s t with
   |none=>exact absurd hb h
   |some x=>
     obtain⟨k,i,hi,hx,_⟩:=d4 hb;have hl:i<s.length:=by obtain⟨h,_⟩:=List.getElem?_eq_some_iff.1 hx;exact h
     exact⟨i,[],k,hi,rfl,by simp,by simpa using hl⟩
 |m+1,t,h=>by
   cases hb:iD s t with
   |none=>
     have:wk s (m+1) t=t:=by simp[wk,hb]
     rw[this]at h;exact absurd hb h
   |some x=>
     obtain⟨k,i,hi,hx,hbd⟩:=d4 hb;have hl:i<s.length:=by obtain⟨h,_⟩:=List.getElem?_eq_some_iff.1 hx;exact h
     have e:wk s (m+1) t=wk s m x.ty:=(by simp[wk,hb]);rw[e]at h;obtain⟨j,l,k2,hj,hn,hp,ha⟩:=BL hr m x.ty h;have ed:Edge s (i:Int) (j:Int):=⟨i,x,rfl,hx,hbd,by rw[←hj];exact .var k2⟩;have hlt:=hr _ _ ed;refine⟨i,j::l,k,hi,by simp[hn],?_,?_⟩
     · rw[List.pairwise_cons];refine⟨?_,hp⟩;intro b hb;simp only[List.mem_cons]at hb;rcases hb with rfl|hb
       ·exact hlt
       ·have:=(List.pairwise_cons.1 hp).1 b hb;omega
     · intro a hm;simp only[List.mem_cons]at hm;rcases hm with rfl|hm
       ·exact hl
       ·exact ha a (by simpa using hm)
theorem mP{s:List Sl}(h:JI s){t:Ty}:iD s (iE s t)=none:=by
 obtain⟨rk,hr⟩:=h;cases hb:iD s (iE s t) with
 |none=>rfl
 |some x=>
   exfalso;obtain⟨i,l,_,_,hl,hp,ha⟩:=BL hr (s.length+1) t (by unfold iE at hb;rw[hb];simp);have hd:(i::l).Nodup:=hp.imp (fun {a b} h e=>by rw[e]at h;omega);have:=fp hd (S:=List.range s.length) (fun a h=>by simpa using ha a h);simp at this;omega
theorem lJ{s:List Sl}{S:List Int}(hs:∀x∈s,∀w,ef x.ty w→w∈S):∀{m:Nat} {t:Ty},(∀w,ef t w→w∈S)→∀w,ef (wk s m t) w→w∈S
 |0,t,h=>h
 |m+1,t,h=>by
   unfold wk;split
   ·rename_i x hx;obtain⟨_,i,_,hi,_⟩:=d4 hx;exact lJ hs (hs x (aQ hi))
   ·exact h
theorem U9{n M:Nat}{S:List Int}{s:de}{x y:Ty}(hx:x.Ok)(hxy:x.args.length=y.args.length)
   (H:∀s',Inv n M S s'→(s'=s∨ub s'.sl<ub s.sl)→∀(i:Nat) a b,x.args[i]?=some a→y.args[i]?=some b→∃s2 e,(aF AP).p 391 [s'.pv,a.pv,b.pv]=some [s2.pv,vI e]∧UR n M S s' s2 e) :
   ∀(m i:Nat),x.args.length-i=m→i≤x.args.length→∀(s':de) (e:Int),UR n M S s s' e→∃(s2:de) (e2:Int) (i2:Nat),
   cl AP g391L0 ⟨[(3,.au 3 0),(6,.au 6 0),(8,.au 8 0),(9,.au 9 0),(10,.pv (vI e)),(11,.pv (vI i))],[(3,sC s'),(6,zS),(8,tC x),(9,tC y)],[],[0,0]⟩ =
     some (.exit 1,⟨[(3,.au 3 0),(6,.au 6 0),(8,.au 8 0),(9,.au 9 0),(10,.pv (vI e2)),(11,.pv (vI i2)),(109,.pv (.bool false))],[(3,sC s2),(6,zS),(8,tC x),(9,tC y)],[],[0,0]⟩)∧UR n M S s s2 e2
 |0,i,hm,hi,s',e,h=>by
   have:i=x.args.length:=by omega
   subst this;refine⟨s',e,x.args.length,?_,h⟩;rw[g391L0e];simp[g391B0,sC,tC,zS]
 |m+1,i,hm,hi,s',e,h=>by
   have hi:i<x.args.length:=(by omega);obtain⟨a,ha⟩:=aP hi;have hiy:i<y.args.length:=(by omega);obtain⟨b,hb⟩:=aP hiy;have hsm:=hx.sm;unfold Sm at hsm;by_cases he:e=0
   · obtain⟨I,hu,hx1⟩:=h he;obtain⟨s1,e1,c,h1⟩:=H s' I hu i a b ha hb
     have h2:UR n M S s s1 e1:=fun q=>by
       obtain⟨J,ju,jx⟩:=h1 q;refine⟨J,?_,hx1.trans jx⟩;rcases ju with rfl|ju
       ·exact hu
       · rcases hu with rfl|hu
         ·exact .inr ju
         ·exact .inr (by omega)
     obtain⟨s2,e2,i2,eq,h3⟩:=U9 hx hxy H m (i+1) (by omega) (by omega) s1 e1 h2;refine⟨s2,e2,i2,?_,h3⟩;rw[g391L0e]at eq⊢;simp[sC,tC,zS]at eq;simp at c;simp (disch:=omega) [-getElem?_pos,g391B0,sC,tC,zS,hi,hiy,ha,hb,he,c,aq];rw[g391L0e];simp[eq]
   ·refine⟨s',e,i,?_,h⟩;rw[g391L0e];simp (disch:=omega) [-getElem?_pos,g391B0,sC,tC,zS,hi,he]
theorem oC{s:List Sl}{t:Ty}(h:nP s t=true):t.kind=1∧∃i:Nat,t.id=i∧i<s.length:=by
 simp[nP]at h;exact⟨h.1,t.id.toNat,by omega,by omega⟩
theorem nQ{s:List Sl}(hs:∀x∈s,x.ty.Kw):∀{m:Nat} {t:Ty},t.Kw→(wk s m t).Kw
 |0,t,h=>h
 |m+1,t,h=>by
   unfold wk;split
   ·rename_i x hx;obtain⟨_,i,_,hi,_⟩:=d4 hx;exact nQ hs (hs x (aQ hi))
   ·exact h
theorem U_{n M:Nat}{S:List Int}{s:de}(I:Inv n M S s)(hn:n≤1000000)(hM:M≤1100000000000)(hf:S.length<1099511627776)(hS0:∀w∈S,0≤w){a b:Ty}(ha:a.Ok)(hb:b.Ok)(wa:a.Kw)(wb:b.Kw)(oa:∀w,ef a w→w∈S)(ob:∀w,ef b w→w∈S){r1:Nat}(k1:(aF AP).p 355 [s.pv,a.pv,vI (200:Nat)]=some [vI r1])
   (H:r1≤200→∀s',Inv n M S s'→(s'=s∨ub s'.sl<ub s.sl)→∀(i:Nat) x y,(iE s.sl a).args[i]?=some x→(iE s.sl b).args[i]?=some y→∃s2 e,(aF AP).p 391 [s'.pv,x.pv,y.pv]=some [s2.pv,vI e]∧UR n M S s' s2 e) :
   ∃s' e,(aF AP).p 391 [s.pv,a.pv,b.pv]=some [s'.pv,vI e]∧UR n M S s s' e:=by
 have hl:=I.len;have hsm:Sm s.sl:=by unfold Sm;omega
 obtain⟨r2,k2,_,_,_⟩:=c355 hsm I.ok (m:=200) (by omega) hb;have k3:=c386 hsm (t:=a);have k4:=c386 hsm (t:=b);have xf:=mP I.B6 (t:=a);have yf:=mP I.B6 (t:=b);have xO:(iE s.sl a).Ok:=mK I.ok ha;have yO:(iE s.sl b).Ok:=mK I.ok hb;have xo:∀w,ef (iE s.sl a) w→w∈S:=lJ I.gQ oa;have yo:∀w,ef (iE s.sl b) w→w∈S:=lJ I.gQ ob
 change (aF AP).p 386 [s.pv,a.pv]=some [(iE s.sl a).pv]at k3
 change (aF AP).p 386 [s.pv,b.pv]=some [(iE s.sl b).pv]at k4
 have xw:(iE s.sl a).Kw:=nQ I.wf wa;have yw:(iE s.sl b).Kw:=nQ I.wf wb;generalize iE s.sl a=x at *;generalize iE s.sl b=y at *;have k5:=c396 (s:=s) (t:=x);have k6:=c396 (s:=s) (t:=y);simp at k1 k2 k3 k4;by_cases h1:200<r1
 · refine⟨s,15,?_,by intro h;cases h⟩;have h1':(200:Int)<r1:=by omega
   rw[ah (af:=g391) rfl rfl (by decide)];simp[g391,k1,h1']
 · have h1':¬(200:Int)<r1:=(by omega);have H:=H (by omega);by_cases h2:200<r2
   · refine⟨s,15,?_,by intro h;cases h⟩;have h2':(200:Int)<r2:=by omega
     rw[ah (af:=g391) rfl rfl (by decide)];simp[g391,k1,k2,h1',h2']
   · have h2':¬(200:Int)<r2:=(by omega);cases sx:nP s.sl x with
     |true=>
       obtain⟨xk,i,xi,hi⟩:=oC sx;have fi:¬ky s.sl (i:Int):=by rw[←xi];exact gk xk xf
       rw[sx]at k5;cases sy:nP s.sl y with
       |true=>
         obtain⟨yk,j,yj,hj⟩:=oC sy;have fj:¬ky s.sl (j:Int):=by rw[←yj];exact gk yk yf
         rw[sy]at k6;obtain⟨s',c,J⟩:=c397 I hn hM xi yj (by omega) (by omega) fi fj (by rw[←xi];exact xo _ (.var xk)) (by rw[←yj];exact yo _ (.var yk));refine⟨s',0,?_,fun _=>J⟩;simp at k5 k6 c;rw[ah (af:=g391) rfl rfl (by decide)];simp[g391,k1,k2,k3,k4,k5,k6,h1',h2',c]
       |false=>
         rw[sy]at k6;obtain⟨s',e,c,J⟩:=c398 I hn hM hf hS0 (by omega) fi yO yw yo;refine⟨s',e,?_,J⟩;simp[xi]at k3 k5 k6 c;rw[ah (af:=g391) rfl rfl (by decide)];simp[g391,k1,k2,k3,k4,k5,k6,h1',h2',xi,c]
     |false=>
       rw[sx]at k5;cases sy:nP s.sl y with
       |true=>
         obtain⟨yk,j,yj,hj⟩:=oC sy;have fj:¬ky s.sl (j:Int):=by rw[←yj];exact gk yk yf
         rw[sy]at k6;obtain⟨s',e,c,J⟩:=c398 I hn hM hf hS0 (by omega) fj xO xw xo;refine⟨s',e,?_,J⟩;simp[yj]at k4 k5 k6 c;rw[ah (af:=g391) rfl rfl (by decide)];simp[g391,k1,k2,k3,k4,k5,k6,h1',h2',yj,c]
       |false=>
         rw[sy]at k6;simp at k5 k6;by_cases q:x.kind=y.kind∧x.name=y.name∧x.id=y.id∧x.home=y.home∧x.args.length=y.args.length
         ·obtain⟨q1,q2,q3,q4,q5⟩:=q;obtain⟨s2,e2,i2,eq,U⟩:=U9 xO q5 H _ 0 rfl (by omega) s 0 (fun _=>⟨I,.inl rfl,.refl _⟩);refine⟨s2,e2,?_,U⟩;rw[g391L0e]at eq;simp[sC,tC,zS]at eq;rw[ah (af:=g391) rfl rfl (by decide)];simp[g391,k1,k2,k3,k4,k5,k6,h1',h2'];simp only[q1,q2,q3,q4,q5]at *;simp[g391L0e,eq]
         · refine⟨s,11,?_,by intro h;cases h⟩;rw[ah (af:=g391) rfl rfl (by decide)];by_cases q1:x.kind=y.kind
           · have p1:=eq_true q1;by_cases q2:x.name=y.name
             · have p2:=eq_true q2;by_cases q3:x.id=y.id
               · have p3:=eq_true q3;by_cases q4:x.home=y.home
                 · have p4:=eq_true q4;have q5:¬x.args.length=y.args.length:=fun e=>q ⟨q1,q2,q3,q4,e⟩
                   have q6:¬(x.args.length:Int)=y.args.length:=(by omega);clear q q1 q2 q3 q4;simp[g391,k1,k2,k3,k4,k5,k6,h1',h2',p1,p2,p3,p4,q5,q6]
                 ·clear q q1 q2 q3;simp[g391,k1,k2,k3,k4,k5,k6,h1',h2',p1,p2,p3,q4]
               ·clear q q1 q2;simp[g391,k1,k2,k3,k4,k5,k6,h1',h2',p1,p2,q3]
             ·clear q q1;simp[g391,k1,k2,k3,k4,k5,k6,h1',h2',p1,q2]
           ·simp[g391,k1,k2,k3,k4,k5,k6,h1',h2',q1]
theorem r7{S:List Int}{t:Ty}(hw:t.Kw)(h:∀w,ef t w→w∈S):∀z∈t.args,∀w,ef z w→w∈S:=by
 intro z hz w ho;by_cases k:t.kind=1
 ·rw[hw.var k]at hz;cases hz
 ·exact h w (.arg k hz ho)
def SV(n M:Nat)(S:List Int)(s:de):Prop:=∀a b:Ty,a.Ok→b.Ok→a.Kw→b.Kw→(∀w,ef a w→w∈S)→(∀w,ef b w→w∈S)→∃s2 e,(aF AP).p 391 [s.pv,a.pv,b.pv]=some [s2.pv,vI e]∧UR n M S s s2 e
theorem c391r{n M:Nat}{S:List Int}{s:de}(I:Inv n M S s)(hn:n≤1000000)(hM:M≤1100000000000)(hf:S.length<1099511627776)(hS0:∀w∈S,0≤w)
   (IH:∀s':de,ub s'.sl<ub s.sl→Inv n M S s'→SV n M S s') (r:Nat) :
   ∀a b:Ty,Tr s.sl a r→a.Ok→b.Ok→a.Kw→b.Kw→(∀w,ef a w→w∈S)→(∀w,ef b w→w∈S)→∃s2 e,(aF AP).p 391 [s.pv,a.pv,b.pv]=some [s2.pv,vI e]∧UR n M S s s2 e:=by
 induction r using Nat.strongRecOn with
 |ind r ih=>
   intro a b ht ha hb wa wb oa ob;have hl:=I.len;have hsm:Sm s.sl:=by unfold Sm;omega
   obtain⟨r1,k1,_,_,_⟩:=c355 hsm I.ok (m:=200) (by omega) ha;obtain⟨ns,hT,hr⟩:=ht.inv;have xO:(iE s.sl a).Ok:=mK I.ok ha;have yO:(iE s.sl b).Ok:=mK I.ok hb;have xw:(iE s.sl a).Kw:=nQ I.wf wa;have yw:(iE s.sl b).Kw:=nQ I.wf wb;have xo:=r7 xw (lJ I.gQ oa:∀w,ef (iE s.sl a) w→w∈S);have yo:=r7 yw (lJ I.gQ ob:∀w,ef (iE s.sl b) w→w∈S);refine U_ I hn hM hf hS0 ha hb wa wb oa ob k1 ?_;intro _ s' I' hu i x y hx hy;have hi:i<(iE s.sl a).args.length:=by obtain⟨h,_⟩:=List.getElem?_eq_some_iff.1 hx;exact h
   have mx:=aQ hx;have my:=aQ hy;rcases hu with rfl|hu
   ·obtain⟨m,hm⟩:=aP (l:=ns) (i:=i) (by rw[hT.1];exact hi);have:=yu hm;exact ih m (by omega) x y (hT.2 i x m hx hm) (xO.gh x mx) (yO.gh y my) (xw.gh x mx) (yw.gh y my) (xo x mx) (yo y my)
   ·exact IH s' hu I' x y (xO.gh x mx) (yO.gh y my) (xw.gh x mx) (yw.gh y my) (xo x mx) (yo y my)
theorem c391{n M:Nat}{S:List Int}(hn:n≤1000000)(hM:M≤1100000000000)(hf:S.length<1099511627776)(hS0:∀w∈S,0≤w)(u:Nat):∀s:de,ub s.sl=u→Inv n M S s→SV n M S s:=by
 induction u using Nat.strongRecOn with
 |ind u IH=>
   intro s hu I a b ha hb wa wb oa ob;have hl:=I.len;have hsm:Sm s.sl:=by unfold Sm;omega
   have IH':∀s':de,ub s'.sl<ub s.sl→Inv n M S s'→SV n M S s':=fun s' h I'=>IH _ (by omega) s' rfl I';obtain⟨r1,k1,_,_,ht⟩:=c355 hsm I.ok (m:=200) (by omega) ha;have xO:(iE s.sl a).Ok:=mK I.ok ha
   have yO:(iE s.sl b).Ok:=mK I.ok hb;have xw:(iE s.sl a).Kw:=nQ I.wf wa;have yw:(iE s.sl b).Kw:=nQ I.wf wb;have xo:=r7 xw (lJ I.gQ oa:∀w,ef (iE s.sl a) w→w∈S);have yo:=r7 yw (lJ I.gQ ob:∀w,ef (iE s.sl b) w→w∈S);refine U_ I hn hM hf hS0 ha hb wa wb oa ob k1 ?_;intro h200 s' I' hu i x y hx hy;have hi:i<(iE s.sl a).args.length:=by obtain⟨h,_⟩:=List.getElem?_eq_some_iff.1 hx;exact h
   have mx:=aQ hx;have my:=aQ hy;rcases hu with rfl|hu
   ·obtain⟨ns,hT,hr⟩:=(ht h200).inv;obtain⟨m,hm⟩:=aP (l:=ns) (i:=i) (by rw[hT.1];exact hi);exact c391r I' hn hM hf hS0 IH' m x y (hT.2 i x m hx hm) (xO.gh x mx) (yO.gh y my) (xw.gh x mx) (yw.gh y my) (xo x mx) (yo y my)
   ·exact IH' s' hu I' x y (xO.gh x mx) (yO.gh y my) (xw.gh x mx) (yw.gh y my) (xo x mx) (yo y my)
structure Fit(S:List Int)(t:Ty):Prop where
 ok:t.Ok
 wf:t.Kw
 gQ:∀w,ef t w→w∈S
structure Wb(n M:Nat)(S:List Int):Prop where
 n:n≤1000000
 m:M≤1100000000000
 rV:S.length<1099511627776
 nn:∀w∈S,0≤w
theorem c385{n M:Nat}{S:List Int}(N:Wb n M S){s:de}(I:Inv n M S s){a b:Ty}(fa:Fit S a)(fb:Fit S b):∃s' e,(aF AP).p 385 [s.pv,a.pv,b.pv]=some [s'.pv,vI e]∧Inv n M S s'∧Ext s.sl s'.sl:=by
 obtain⟨s',e,c,U⟩:=c391 N.n N.m N.rV N.nn _ s rfl I a b fa.ok fb.ok fa.wf fb.wf fa.gQ fb.gQ;simp at c;by_cases he:e=0
 ·refine⟨s',0,?_,(U he).1,(U he).2.2⟩;subst he;rw[ah (af:=g385) rfl rfl (by decide)];simp[g385,c]
 ·refine⟨s,e,?_,I,.refl _⟩;rw[ah (af:=g385) rfl rfl (by decide)];simp[g385,c,he]
theorem M1{n M:Nat}{S:List Int}{s:de}(I:Inv n M S s){i:Nat}{o x:Sl}(ho:s.sl[i]?=some o)(hb:x.bd=o.bd)(ht:x.ty=o.ty):Inv n (M+1) S (gj s i o x) where
 len:=by rw[b_,List.length_set,I.len]
 NW:=by rw[nu,b_,rZ ho hb];have:=I.NW;omega
 ok:=by
   intro y hy;rw[b_]at hy;rcases mem_set hy with rfl|hy
   ·rw[ht];exact I.ok o (aQ ho)
   ·exact I.ok y hy
 gQ:=by
   intro y hy;rw[b_]at hy;rcases mem_set hy with rfl|hy
   ·rw[ht];exact I.gQ o (aQ ho)
   ·exact I.gQ y hy
 B6:=by rw[b_];exact BC I.B6 ho hb ht
 wf:=by
   intro y hy;rw[b_]at hy;rcases mem_set hy with rfl|hy
   ·rw[ht];exact I.wf o (aQ ho)
   ·exact I.wf y hy
theorem Inv.bQ{n M M':Nat}{S S':List Int}{s:de}(I:Inv n M S s)(h:M≤M')(hS:∀w∈S,w∈S'):Inv n M' S' s:=⟨I.len,by have:=I.NW;omega,I.ok,fun x hx w ho=>hS w (I.gQ x hx w ho),I.B6,I.wf⟩
theorem c394{n M:Nat}{S:List Int}(N:Wb n M S)(hS:∀w∈S,w<n){s:de}(I:Inv n M S s){t:Ty}(ft:Fit S t):∃s',(aF AP).p 394 [s.pv,t.pv]=some [s'.pv]∧Inv n (M+1) S s':=by
 have hl:=I.len;have hn:=N.n;have hM:=N.m;have hsm:Sm s.sl:=by unfold Sm;omega
 have k3:=c386 hsm (t:=t);have xo:∀w,ef (wk s.sl (s.sl.length+1) t) w→w∈S:=lJ I.gQ ft.gQ;generalize wk s.sl (s.sl.length+1) t=x at *;by_cases k:x.kind=1
 ·have ho:=xo _ (.var k);have h0:=N.nn _ ho;have h1:=hS _ ho;obtain⟨i,hi⟩:∃i:Nat,x.id=i:=⟨x.id.toNat,by omega⟩;have hil:i<s.sl.length:=(by omega);obtain⟨o,hoo⟩:=aP hil;have c:=c393 I.MY hn (by omega) hoo ⟨o.bd,o.ty,o.home,true⟩;refine⟨_,?_,M1 I hoo (x:=⟨o.bd,o.ty,o.home,true⟩) rfl rfl⟩;generalize gj s i o ⟨o.bd,o.ty,o.home,true⟩=s1 at *;simp[k,hi]at k3;simp at c;rw[ah (af:=g394) rfl rfl (by decide)];simp (disch:=omega) [-getElem?_pos,g394,k3,hil,hoo,c]
 ·refine⟨s,?_,I.bQ (by omega) (fun _ h=>h)⟩;simp at k3;rw[ah (af:=g394) rfl rfl (by decide)];simp[g394,k3,k]
def dq(n:Nat):List Int:=(List.range n).map fun k:Nat=>(k:Int)
theorem dG{n:Nat}{w:Int}:w∈dq n↔0≤w∧w<n:=by
 simp only[dq,List.mem_map,List.mem_range];constructor
 ·rintro⟨k,h,rfl⟩;omega
 ·intro h;exact⟨w.toNat,by omega,by omega⟩
theorem Po{n M:Nat}(hn:n≤1000000)(hM:M≤1100000000000):Wb n M (dq n):=⟨hn,hM,by simp[dq];omega,fun w h=>(dG.1 h).1⟩
theorem qe{n M:Nat}{s:de}(I:Inv n M (dq n) s)(home:Int)(b:Bool){M':Nat}(hM:M+ub s.sl+n+4≤M'):Inv (n+1) M' (dq (n+1)) (bN s home b) where
 len:=by simp[bN,I.len]
 NW:=by
   have:=I.NW;have hu:ub (bN s home b).sl=ub s.sl+1:=by simp[bN,ub,List.countP_append]
   have ht:(bN s home b).tr.length=s.tr.length+1:=(by simp[bN]);rw[hu,ht];have:(n+1+2)*(ub s.sl+1)=(n+2)*ub s.sl+ub s.sl+n+3:=(by rw[Nat.mul_add,Nat.add_right_comm n 1 2,Nat.add_mul (n+2) 1];omega);omega
 ok:=by
   intro x hx;simp[bN]at hx;rcases hx with hx|rfl
   ·exact I.ok x hx
   ·exact bL rfl
 gQ:=by
   intro x hx w ho;simp[bN]at hx;rcases hx with hx|rfl
   ·have:=dG.1 (I.gQ x hx w ho);exact dG.2 (by omega)
   · cases ho with
     |var q=>simp[bC]at q
     |arg _ ha _=>simp[bC]at ha
 B6:=MM I.B6 rfl
 wf:=by
   intro x hx;simp[bN]at hx;rcases hx with hx|rfl
   ·exact I.wf x hx
   ·exact⟨by simp[bC],by simp[bC],by simp[bC]⟩
structure W_(e:Ex)(C:List AV):Prop where
 len:C.length=11
 leaf:C.all a0=true
 bR:∀sh,dF sh C=some e.cells
 flat:bD.ew C=true
 gS:eT C=true
def dY(f:Bool)(l:List PV):AV:=if f then .cY l else .pv (.aw l)
def i6(fk fa fg:Bool)(e:Ex):List AV:=[.pv (vI e.kind),.pv (vI e.pos),.pv (.str e.name),.pv (vI e.num),dY fk (e.kids.map Ex.pv),dY fa (e.aY.map Ar.pv),.pv (vI e.ty.kind),.pv (.str e.ty.name),.pv (vI e.ty.id),.pv (vI e.ty.home),dY fg (e.ty.args.map Ty.pv)]
theorem jE(fk fa fg:Bool)(e:Ex):W_ e (i6 fk fa fg e):=by
 refine⟨rfl,?_,?_,?_,?_⟩
 ·cases fk<;>cases fa<;>cases fg<;>rfl
 ·intro sh;rw[Ex.aS];cases fk<;>cases fa<;>cases fg<;>simp[i6,dY]
 ·cases fk<;>cases fa<;>cases fg<;>simp[i6,dY]
 ·cases fk<;>cases fa<;>cases fg<;>simp[i6,dY]
structure Ho where
 bind:Int
 pos:Int
 ctx:List En
 goal:Ty
def Ho.pv(h:Ho):PV:=.agg [vI h.bind,vI h.pos,.aw (h.ctx.map En.pv),vI h.goal.kind,.str h.goal.name,vI h.goal.id,vI h.goal.home,.aw (h.goal.args.map Ty.pv)]
@[simp] theorem Ho.jD(h:Ho):h.pv=.agg [.int .i64 h.bind,.int .i64 h.pos,.aw (h.ctx.map En.pv),.int .i64 h.goal.kind,.str h.goal.name,.int .i64 h.goal.id,.int .i64 h.goal.home,.aw (h.goal.args.map Ty.pv)]:=rfl
theorem Qy:El Ho.pv 8 true:=⟨fun _=>by simp,fun _=>by simp⟩
@[simp] theorem TM{l:List Ho}:a_ 8 (l.map Ho.pv)=true:=Qy.head l
structure Dv where
 ty:Ty
 inst:List Ty
 gen:List Int
 kids:List Dv
instance:Inhabited Dv:=⟨⟨bC,[],[],[]⟩⟩
mutual
def Dv.cells:Dv→List PV
 |⟨t,i,g,ks⟩=>[vI t.kind,.str t.name,vI t.id,vI t.home,.aw (t.args.map Ty.pv),.aw (i.map Ty.pv),.aw (g.map vI),.aw (Dv.cz ks)]
def Dv.cz:List Dv→List PV
 |[]=>[]
 |d::r=>.agg (Dv.cells d)::Dv.cz r
end
def Dv.pv(d:Dv):PV:=.agg d.cells
theorem Dv.j8:∀l:List Dv,Dv.cz l=l.map Dv.pv
 |[]=>by simp[Dv.cz]
 |e::r=>by simp[Dv.cz,Dv.j8 r,Dv.pv]
theorem Dv.aS(d:Dv):d.cells=[.int .i64 d.ty.kind,.str d.ty.name,.int .i64 d.ty.id,.int .i64 d.ty.home,.aw (d.ty.args.map Ty.pv),.aw (d.inst.map Ty.pv),.aw (d.gen.map vI),.aw (d.kids.map Dv.pv)]:=by
 cases d;simp only[Dv.cells,Dv.j8]
@[simp] theorem Dv.jD(d:Dv):d.pv=.agg [.int .i64 d.ty.kind,.str d.ty.name,.int .i64 d.ty.id,.int .i64 d.ty.home,.aw (d.ty.args.map Ty.pv),.aw (d.inst.map Ty.pv),.aw (d.gen.map vI),.aw (d.kids.map Dv.pv)]:=by
 rw[Dv.pv,Dv.aS]
theorem U':El Dv.pv 8 true:=⟨fun _=>by simp,fun _=>by simp⟩
@[simp] theorem TN{l:List Dv}:a_ 8 (l.map Dv.pv)=true:=U'.head l
def kM(a b c k:Bool)(d:Dv):List AV:=[.pv (vI d.ty.kind),.pv (.str d.ty.name),.pv (vI d.ty.id),.pv (vI d.ty.home),dY a (d.ty.args.map Ty.pv),dY b (d.inst.map Ty.pv),dY c (d.gen.map vI),dY k (d.kids.map Dv.pv)]
structure Xq(d:Dv)(C:List AV):Prop where
 len:C.length=8
 leaf:C.all a0=true
 bR:∀sh,dF sh C=some d.cells
 flat:bD.ew C=true
 gS:eT C=true
 kill:C.flatMap tF=[]
theorem gm(a b c k:Bool)(d:Dv):Xq d (kM a b c k d):=by
 refine⟨rfl,?_,?_,?_,?_,?_⟩
 ·cases a<;>cases b<;>cases c<;>cases k<;>rfl
 ·intro sh;rw[Dv.aS];cases a<;>cases b<;>cases c<;>cases k<;>simp[kM,dY]
 ·cases a<;>cases b<;>cases c<;>cases k<;>simp[kM,dY]
 ·cases a<;>cases b<;>cases c<;>cases k<;>simp[kM,dY]
 ·cases a<;>cases b<;>cases c<;>cases k<;>rfl
structure Mc where
 ds:List Dt
 home:Int
 s:de
 err:Int
 pos:Int
 rc:List Ho
 hd:List Bool
def Mc.cells(m:Mc):List AV:=[.pv (.aw (m.ds.map Dt.pv)),.pv (vI m.home),.pv (.aw (m.s.sl.map Sl.pv)),.pv (.aw (m.s.tr.map Ch.pv)),.pv (vI m.err),.pv (vI m.pos),.own (m.rc.map Ho.pv) 0,.own (m.hd.map .bool) 1]
def Mc.sh(m:Mc):Sh:=[some m.cells]
def Mc.tk(m:Mc):aG:=[m.rc.length,m.hd.length]
theorem Pp(l:List Bool):a_ 1 (l.map PV.bool)=true:=by cases l<;>simp[a_]
def kg(g:Nat)(args:List AV)(m:Mc)(rs:List AV)(m':Mc):Prop:=(aF AP).i g (.aM 0 0::args) m.sh m.tk=some (rs,m'.sh,m'.tk)
abbrev r_(n:Nat)(s:de):Prop:=Inv n (n*n+4*n) (dq n) s
theorem Qz{n:Nat}(h:n≤1000000):n*n+4*n≤1000004000000:=by
 have:=Nat.mul_le_mul h h;omega
theorem r_.fresh{n:Nat}{s:de}(I:r_ n s)(home:Int):r_ (n+1) (bN s home false):=by
 refine qe I home false ?_;have hu:ub s.sl≤n:=by have:=List.countP_le_length (p:=fun x:Sl=>!x.bd) (l:=s.sl);rw[I.len]at this;exact this
 have:(n+1)*(n+1)=n*n+2*n+1:=by rw[Nat.add_mul,Nat.mul_add];omega
 omega
theorem Ext.fresh(s:de)(home:Int)(b:Bool):Ext s.sl (bN s home b).sl:=⟨by simp[bN],fun k x hx hb=>⟨x,by simp only[bN];rw[List.getElem?_append_left (List.getElem?_eq_some_iff.1 hx).1];exact hx,hb,rfl⟩⟩
theorem SW{n:Nat}(h:n≤1000000):Wb n (n*n+4*n) (dq n):=Po h (by have:=Qz h;omega)
theorem c367{m:Mc}{n:Nat}(I:r_ n m.s)(hn:n≤1000000):kg 367 [] m [(aK n).av] { m with s:=bN m.s m.home false }:=by
 have e:=c381 I.MY hn (by have:=Qz hn;omega) m.home false;rw[I.len]at e;unfold kg;rw[aB (af:=g367) rfl (by simp[g367])];simp[aK]at e;simp[g367,Mc.sh,Mc.tk,Mc.cells,e,aK]
abbrev fq(n:Nat)(t:Ty):Prop:=Fit (dq n) t
theorem c369{m:Mc}{n:Nat}(I:r_ n m.s)(hn:n≤1000000){a b:Ty}(fa:fq n a)(fb:fq n b)(p:Int):∃s' e' p',kg 369 [.pv a.pv,.pv b.pv,.pv (vI p)] m [] { m with s:=s',err:=e',pos:=p' }∧r_ n s'∧Ext m.s.sl s'.sl:=by
 obtain⟨s',e,c,I',x⟩:=c385 (SW hn) I fa fb;unfold kg;simp at c;by_cases h:m.err=0
 · by_cases he:e=0
   ·subst he;refine⟨s',0,m.pos,?_,I',x⟩;rw[aB (af:=g369) rfl (by simp[g369])];simp[g369,Mc.sh,Mc.tk,Mc.cells,h,c]
   ·refine⟨m.s,e,p,?_,I,.refl _⟩;rw[aB (af:=g369) rfl (by simp[g369])];simp[g369,Mc.sh,Mc.tk,Mc.cells,h,c,he]
 ·refine⟨m.s,m.err,m.pos,?_,I,.refl _⟩;rw[aB (af:=g369) rfl (by simp[g369])];simp[g369,Mc.sh,Mc.tk,Mc.cells,h]
theorem c384{m:Mc}{env:List En}(hE:Sm env)(e:Ex)(t:Ty)(hr:m.rc.length≤1000000)(hl:m.hd.length≤1000000):kg 384 [.pv (.aw (env.map En.pv)),.pv e.pv,.pv t.pv] m [] { m with rc:=m.rc++[⟨m.home,e.pos,bW env,t⟩],hd:=m.hd++[e.kind == 11] }:=by
 have k:=c201 hE;have b1:(m.rc.length+1)*104≤140737488355328:=by omega
 have b2:m.hd.length+1≤140737488355328:=by omega
 have h1:=Pp m.hd;unfold kg
 try simp at k
 rw[aB (af:=g384) rfl (by simp[g384])];simp[g384,Mc.sh,Mc.tk,Mc.cells,k,b1,b2,h1]
mutual
def Ty.l_(l:List bX):Ty→Ty
 |⟨k,n,i,h,as⟩=>if k=5∧0≤mJ l n then br (mJ l n) else ⟨k,n,i,h,Ty.M3 l as⟩
def Ty.M3(l:List bX):List Ty→List Ty
 |[]=>[]
 |a::r=>a.l_ l::Ty.M3 l r
end
theorem Ty.BM(l:List bX):∀as:List Ty,Ty.M3 l as=as.map (Ty.l_ l)
 |[]=>by simp[Ty.M3]
 |a::r=>by simp[Ty.M3,Ty.BM l r]
theorem Ty.yF(l:List bX)(t:Ty):t.l_ l=if t.kind=5∧0≤mJ l t.name then br (mJ l t.name) else ⟨t.kind,t.name,t.id,t.home,t.args.map (Ty.l_ l)⟩:=by
 cases t;simp only[Ty.l_,Ty.BM]
theorem Va{l:List bX}{t:Ty}(hS:Sm t.args)(h:∀x∈t.args,(aF AP).p 198 [x.pv,.aw (l.map .str)]=some [(x.l_ l).pv]):∀(n i:Nat),t.args.length-i=n→i≤t.args.length→∀acc:List Ty,acc=(t.args.take i).map (Ty.l_ l) →
   cl AP g198L0 ⟨[(1,.pv (.aw (l.map .str))),(2,.au 2 0),(4,.au 4 0),(6,.au 6 0),(7,.pv (vI i))],
     [(2,Pg t),(4,[.pv (vI 0),.pv (.str []),.pv (vI 0),.pv (vI 0),.own [] 0]),(6,[.pv (vI t.kind),.pv (.str t.name),.pv (vI t.id),.pv (vI t.home),.own (acc.map Ty.pv) 1])],[],[0,acc.length]⟩ =
     some (.exit 0,⟨[(1,.pv (.aw (l.map .str))),(2,.au 2 0),(4,.au 4 0),(6,.au 6 0),(7,.pv (vI t.args.length)),(26,.pv (.bool false))],
     [(2,Pg t),(4,[.pv (vI 0),.pv (.str []),.pv (vI 0),.pv (vI 0),.own [] 0]),(6,[.pv (vI t.kind),.pv (.str t.name),.pv (vI t.id),.pv (vI t.home),.own ((t.args.map (Ty.l_ l)).map Ty.pv) 1])],[],[0,t.args.length]⟩)
 |0,i,hn,hi,acc,ha=>by
   have:i=t.args.length:=by omega
   subst this;subst ha;rw[g198L0e];simp[g198B0]
 |n+1,i,hn,hi,acc,ha=>by
   have hi:i<t.args.length:=(by omega);obtain⟨x,hx⟩:=aP hi;unfold Sm at hS;have hb:(acc.length+1)*64≤140737488355328:=by subst ha;simp;omega
   have hc:=h x (aQ hx);have ih:=Va hS h n (i+1) (by omega) (by omega) (acc++[x.l_ l]) (by rw[List.take_add_one,hx,ha];simp);rw[g198L0e]at ih⊢;simp at ih hc;simp (disch:=omega) [-getElem?_pos,g198B0,hx,hi,hc,hb,aq];rw[g198L0e];simp[ih]
theorem c198{l:List bX}(hl:Sm l){t:Ty}(hO:t.Ok)(hC:t.Cw):(aF AP).p 198 [t.pv,.aw (l.map .str)]=some [(t.l_ l).pv]:=by
 revert hO hC
 refine Ty.dJ (p:=fun t=>t.Ok→t.Cw→(aF AP).p 198 [t.pv,.aw (l.map .str)]=some [(t.l_ l).pv]) ?_ t;intro t ih hO hC;have k1:=c216 hl (y:=t.name);have k2:=c72 (n:=mJ l t.name);have h:=Va hO.sm (fun x hx=>ih x hx (hO.gh x hx) (hC.gh x hx)) t.args.length 0 (by omega) (by omega) [] (by simp);rw[ah (af:=g198) rfl rfl (by decide),Ty.yF];rw[g198L0e]at h;simp at k2 h;by_cases e1:t.kind=5
 · have ea:=hC.bare (by rw[e1];decide);by_cases e2:0≤mJ l t.name
   ·simp[g198,k1,e1,e2,k2,br]
   ·simp[g198,k1,e1,e2,ea]
 ·simp[g198,e1,g198L0e,h]
def eP(out:List bX)(x:bX):List bX:=if x∈out then out else out++[x]
structure kh(S out:List bX):Prop where
 nodup:out.Nodup
 sub:∀x∈out,x∈S
 rV:S.length<1099511627776
theorem kh.len{S out:List bX}(h:kh S out):Sm out:=by
 have:=fp h.nodup h.sub;have:=h.rV;unfold Sm;omega
theorem kh.put{S out:List bX}(h:kh S out){x:bX}(hx:x∈S):kh S (eP out x):=by
 unfold eP;split
 ·exact h
 · rename_i e;refine⟨?_,?_,h.rV⟩
   ·rw[List.nodup_append];refine⟨h.nodup,by simp,?_⟩;intro a ha b hb;simp at hb;subst hb;intro e';subst e';exact e ha
   · intro y hy;simp at hy;rcases hy with hy|rfl
     ·exact h.sub y hy
     ·exact hx
theorem kh.fold{S:List bX}:∀{l:List bX} {out:List bX},kh S out→(∀x∈l,x∈S)→kh S (l.foldl eP out)
 |[],_,h,_=>h
 |x::r,out,h,hx=>by
   simp only[List.foldl_cons];exact kh.fold (h.put (hx x (by simp))) (fun y hy=>hx y (by simp[hy]))
theorem wI:∀{l:List bX} {out:List bX} {x:bX},x∈out→x∈l.foldl eP out
 |[],_,_,h=>h
 |y::r,out,x,h=>by
   simp only[List.foldl_cons];apply wI;unfold eP;split
   ·exact h
   ·simp[h]
mutual
def Ty.eQ:Ty→List bX
 |⟨k,n,_,_,as⟩=>(if k=5 then [n] else [])++Ty.BN as
def Ty.BN:List Ty→List bX
 |[]=>[]
 |a::r=>a.eQ++Ty.BN r
end
theorem Ty.wJ:∀l:List Ty,Ty.BN l=l.flatMap Ty.eQ
 |[]=>by simp[Ty.BN]
 |a::r=>by simp[Ty.BN,Ty.wJ r]
theorem Ty.F'(t:Ty):t.eQ=(if t.kind=5 then [t.name] else [])++t.args.flatMap Ty.eQ:=by
 cases t;simp only[Ty.eQ,Ty.wJ]
def ct(t:Ty):List bX:=t.eQ.foldl eP []
theorem Vb{S:List bX}{t:Ty}(hS:Sm t.args)(h:∀x∈t.args,∀out,kh S out→(aF AP).i 222 [.own (out.map .str) 0,.pv x.pv] [] [out.length]=some ([.own ((x.eQ.foldl eP out).map .str) 0],[],[(x.eQ.foldl eP out).length]))
   (hk:∀y∈t.args.flatMap Ty.eQ,y∈S):∀(n i:Nat),t.args.length-i=n→i≤t.args.length→∀out,kh S out →
   cl AP g222L0 ⟨[(0,.own (out.map .str) 0),(3,.au 3 0),(5,.pv (vI i))],[(3,Pg t)],[],[out.length]⟩ =
     some (.exit 0,⟨[(0,.own ((((t.args.drop i).flatMap Ty.eQ).foldl eP out).map .str) 0),(3,.au 3 0),(5,.pv (vI t.args.length)),(25,.pv (.bool false))],[(3,Pg t)],[],[(((t.args.drop i).flatMap Ty.eQ).foldl eP out).length]⟩)
 |0,i,hn,hi,out,hc=>by
   have:i=t.args.length:=by omega
   subst this;rw[g222L0e];simp[g222B0]
 |n+1,i,hn,hi,out,hc=>by
   have hi:i<t.args.length:=(by omega);obtain⟨x,hx⟩:=aP hi;unfold Sm at hS;have hkx:∀y∈x.eQ,y∈S:=fun y hy=>hk y (by simp only[List.mem_flatMap];exact⟨x,aQ hx,hy⟩)
   have k:=h x (aQ hx) out hc;have ih:=Vb (t:=t) (by unfold Sm;exact hS) h hk n (i+1) (by omega) (by omega) _ (hc.fold hkx);rw[g222L0e]at ih⊢;rw[bl hx];simp at k ih;simp (disch:=omega) [-getElem?_pos,g222B0,hx,hi,k,aq];rw[g222L0e];simp[ih]
theorem c222{S:List bX}{t:Ty}(hO:t.Ok)(hk:∀y∈t.eQ,y∈S):∀out,kh S out →
   (aF AP).i 222 [.own (out.map .str) 0,.pv t.pv] [] [out.length]=some ([.own ((t.eQ.foldl eP out).map .str) 0],[],[(t.eQ.foldl eP out).length]):=by
 revert hO hk
 refine Ty.dJ (p:=fun t=>t.Ok→(∀y∈t.eQ,y∈S)→∀out,kh S out →
   (aF AP).i 222 [.own (out.map .str) 0,.pv t.pv] [] [out.length]=some ([.own ((t.eQ.foldl eP out).map .str) 0],[],[(t.eQ.foldl eP out).length])) ?_ t
 intro t ih hO hk out hc;rw[Ty.F']at hk⊢;have hkb:∀y∈(if t.kind=5 then [t.name] else []),y∈S:=fun y hy=>hk y (List.mem_append_left _ hy)
 have hka:∀y∈t.args.flatMap Ty.eQ,y∈S:=fun y hy=>hk y (List.mem_append_right _ hy);have h:=Vb (S:=S) hO.sm (fun x hx out hc=>ih x hx (hO.gh x hx) (fun y hy=>hka y (by simp only[List.mem_flatMap];exact⟨x,hx,hy⟩)) out hc) hka _ 0 rfl (by omega) _ (hc.fold hkb)
 have hl:=hc.len;have k:=c216 hl (y:=t.name);have k2:=t9 (s:=out) (y:=t.name);unfold Sm at hl;have hb:(out.length+1)*16≤140737488355328:=by omega
 have hh:a_ 1 (out.map PV.str)=true:=by cases out<;>simp
 rw[aB (af:=g222) rfl (by simp[g222]),List.foldl_append];rw[g222L0e]at h;by_cases e1:t.kind=5
 · by_cases e2:t.name∈out
   · simp[e2]at k2;have k3:¬mJ out t.name<0:=by omega
     simp[e1,eP,e2]at h;simp[g222,e1,k,k3,g222L0e,h,eP,e2]
   ·simp[e2]at k2;simp[e1,eP,e2]at h;simp[g222,e1,k,k2,g222L0e,h,eP,e2,hb,hh]
 ·simp[e1]at h;simp[g222,e1,g222L0e,h]
theorem c196{S:List bX}(hS:S.length<1099511627776){t:Ty}(hO:t.Ok)(hk:∀y∈t.eQ,y∈S):(aF AP).p 196 [t.pv]=some [.aw ((ct t).map .str)]:=by
 have k:=c222 hO hk [] ⟨by simp,by simp,hS⟩;rw[ah (af:=g196) rfl rfl (by decide)];unfold ct;simp at k;simp[g196,k]
def Xr(pos:Int)(name:bX)(ps:List bX)(cs:List mG):List AV:=[.pv (vI pos),.pv (.str name),.own (ps.map .str) 1,.own (cs.map mG.pv) 2]
@[simp] theorem WD(pos:Int)(name:bX)(ps:List bX)(cs:List mG):Xr pos name ps cs=[.pv (vI pos),.pv (.str name),.own (ps.map .str) 1,.own (cs.map mG.pv) 2]:=rfl
structure Small(ds:List Dt):Prop where
 num:Sm ds
 par:∀d∈ds,Sm d.params
 kr:∀d∈ds,Sm d.cons
 Xa:Sm (ds.flatMap Dt.cons)
 WE:∀d∈ds,∀c∈d.cons,Sm c.fields∧(∀x∈c.fields,x.Ok)∧∀x∈c.fields,x.Cw
theorem Pq{l:List Dt}{b:Nat}(h:∀d∈l,d.cons.length≤b):(l.flatMap Dt.cons).length≤l.length*b:=by
 induction l with
 |nil=>simp
 |cons a r ih=>
   have h1:=h a (by simp);have h2:=ih (fun x hx=>h x (by simp[hx]));simp only[List.flatMap_cons,List.length_append,List.length_cons,Nat.add_mul];omega
def BO(a b:Ty):Ty:=⟨4,[45,62],0,0,[a,b]⟩
def rG(n:Nat):List Ty:=(List.range n).map fun i:Nat=>br i
theorem pq{n:Nat}:(rG n).length=n:=by simp[rG]
theorem JL{n:Nat}:rG (n+1)=rG n++[br n]:=by simp[rG,List.range_succ]
def SX(d:Dt):List AV:=[.pv (vI d.pos),.pv (.str d.name),.pv (.aw (d.params.map .str)),.pv (.aw (d.cons.map mG.pv))]
@[simp] theorem WG(d:Dt):SX d=[.pv (vI d.pos),.pv (.str d.name),.pv (.aw (d.params.map .str)),.pv (.aw (d.cons.map mG.pv))]:=rfl
def M4(d:Dt):Ty:=⟨4,d.name,0,0,rG d.params.length⟩
theorem Vc{d:Dt}(hS:Sm d.params):∀(n i:Nat),d.params.length-i=n→i≤d.params.length →
   cl AP g221L0 ⟨[(1,.au 1 0),(2,.au 2 0),(3,.own ((rG i).map Ty.pv) 0),(4,.pv (vI i))],[(1,SX d),(2,[.pv (vI 0),.pv (.str []),.pv (vI 0),.pv (vI 0),.own [] 1])],[],[i,0]⟩ =
     some (.exit 0,⟨[(1,.au 1 0),(2,.au 2 0),(3,.own ((rG d.params.length).map Ty.pv) 0),(4,.pv (vI d.params.length)),(9,.pv (.bool false))],[(1,SX d),(2,[.pv (vI 0),.pv (.str []),.pv (vI 0),.pv (vI 0),.own [] 1])],[],[d.params.length,0]⟩)
 |0,i,hn,hi=>by
   have:i=d.params.length:=by omega
   subst this;have hl:=pq (n:=d.params.length);rw[g221L0e];simp[g221B0,hl]
 |n+1,i,hn,hi=>by
   have hi:i<d.params.length:=(by omega);unfold Sm at hS;have hl:=pq (n:=i);have hl2:=pq (n:=i+1);have hb:(i+1)*64≤140737488355328:=(by omega);have k:=c72 (n:=i);have ih:=Vc hS n (i+1) (by omega) (by omega);rw[g221L0e]at ih⊢;rw[JL]at ih;simp[br,hl]at ih k;simp (disch:=omega) [-getElem?_pos,g221B0,hi,k,hl,hb,aq];rw[g221L0e];simp[ih,hl]
theorem c221{d:Dt}(hS:Sm d.params):(aF AP).p 221 [d.pv]=some [(M4 d).pv]:=by
 have h:=Vc hS _ 0 rfl (by omega);have hl:=pq (n:=d.params.length);have k:=c62 (s:=d.name) (l:=rG d.params.length) (by unfold Sm at hS⊢;omega);rw[ah (af:=g221) rfl rfl (by decide)];rw[g221L0e]at h;simp[rG]at h;simp[rG]at k;simp[g221,g221L0e,h,k,M4,rG]
def Fg(ps:List bX)(fs:List Ty)(t:Ty):Ty:=fs.foldr (fun f t=>BO (f.l_ ps) t) t
theorem JM{ps:List bX}{fs:List Ty}{k:Nat}{x t:Ty}(h:fs[k]?=some x):Fg ps (fs.take (k+1)) t=Fg ps (fs.take k) (BO (x.l_ ps) t):=by
 rw[List.take_add_one,h];simp[Fg]
def mQ(ds:List Dt)(s:bX):Option Sc:=(l6 ds s 0).bind fun q=>(ds[q.1]?).bind fun d=>(d.cons[q.2]?).map fun c=>⟨d.params.length,Fg d.params c.fields (M4 d)⟩
theorem Vd{ds:List Dt}{i:Nat}{d:Dt}(hd:ds[i]?=some d)(hp:Sm d.params){fs:List Ty}(hS:Sm fs)(hO:∀x∈fs,x.Ok)(hC:∀x∈fs,x.Cw):∀(k:Nat),k≤fs.length→∀t:Ty,
   cl AP g193L0 ⟨[(0,.pv (.aw (ds.map Dt.pv))),(4,.au 4 0),(6,.pv (vI i)),(9,.au 9 0),(10,.pv (.aw (fs.map Ty.pv))),(11,.pv (vI ((k:Int)-1)))],
     [(4,[.pv (vI 0),.pv (vI 0),.pv (.str []),.pv (vI 0),.pv (vI 0),.own [] 0]),(9,Pg t)],[],[0]⟩ =
   some (.exit 0,⟨[(0,.pv (.aw (ds.map Dt.pv))),(4,.au 4 0),(6,.pv (vI i)),(9,.au 9 0),(10,.pv (.aw (fs.map Ty.pv))),(11,.pv (vI (-1))),(40,.pv (.bool false))],
     [(4,[.pv (vI 0),.pv (vI 0),.pv (.str []),.pv (vI 0),.pv (vI 0),.own [] 0]),(9,Pg (Fg d.params (fs.take k) t))],[],[0]⟩)
 |0,hk,t=>by
   rw[g193L0e];simp[g193B0,Fg]
 |k+1,hk,t=>by
   obtain⟨x,hx⟩:=aP (l:=fs) (i:=k) (by omega);unfold Sm at hS;have ih:=Vd hd hp (fs:=fs) (by unfold Sm;exact hS) hO hC k (by omega) (BO (x.l_ d.params) t);have e1:((k+1:Nat):Int)-1=k:=by omega
   have q1:=c198 hp (hO x (aQ hx)) (hC x (aQ hx));have q2:=c69 (a:=x.l_ d.params) (b:=t);rw[g193L0e,e1,JM hx];simp[BO]at ih q1 q2;simp (disch:=omega) [-getElem?_pos,g193B0,hd,hx,q1,q2,aq,ih,BO]
theorem c193{ds:List Dt}(hS:Sm ds)(hc:∀d∈ds,Sm d.cons)(hp:∀d∈ds,Sm d.params)(hf:∀d∈ds,∀c∈d.cons,Sm c.fields∧(∀x∈c.fields,x.Ok)∧∀x∈c.fields,x.Cw){s:bX} :
   (aF AP).p 193 [.aw (ds.map Dt.pv),.str s]=some (MA (mQ ds s)):=by
 have k:=c191 hS hc (s:=s);rw[ah (af:=g193) rfl rfl (by decide)];cases e:l6 ds s 0 with
 |none=>
   rw[e]at k;simp[rF]at k;simp[g193,k,mQ,e,MA,e_]
 |some q=>
   rw[e]at k;obtain⟨_,d,c,hd,hcc,_⟩:=yE e;simp only[Nat.sub_zero]at hd;obtain⟨f1,f2,f3⟩:=hf d (aQ hd) c (aQ hcc);have k2:=c221 (hp d (aQ hd));have h:=Vd hd (hp d (aQ hd)) f1 f2 f3 c.fields.length (Nat.le_refl _) (M4 d);rw[List.take_length]at h;rw[g193L0e]at h;unfold Sm at f1;simp[rF]at k;simp at k2 h;simp (disch:=omega) [-getElem?_pos,g193,k,hd,hcc,k2,mQ,e,MA,aq,g193L0e,h]
theorem WH{sz:Nat}{l:List PV}{k:IntKind}{h:Int}(h0:0≤h)(h1:h≤l.length):dT false sz false true false [.pv (.aw l),.pv (.int k h)]=some (.pv (.aw (l.take h.toNat))):=by
 simp[dT,cf,fY,h0,h1]
def Xs(l:List bX)(s:bX):List bX:=if s∈l then l else l++[s]
def nS:List bX→List bX→Bool
 |_,[]=>false
 |pre,s::r=>decide (s∈pre) || nS (pre++[s]) r
def vq(cons:List bX):List mG→Option Int×List bX
 |[]=>(none,cons)
 |c::r=>if c.name∈cons then (some c.pos,cons) else vq (cons++[c.name]) r
def JN(types:List bX)(d:Dt):Bool:=decide (d.name=[73,110,116]∨d.name∈types) || nS [] d.params
def JO(types cons:List bX):List Dt→Option Int
 |[]=>none
 |d::r=>if JN types d=true then some d.pos
   else match vq cons d.cons with
     |(some p,_)=>some p
     |(none,cs)=>JO (types++[d.name]) cs r
def wK(ds:List Dt)(ps:List bX):List mG→Option (Int×Int)
 |[]=>none
 |c::r=>if Ty.dp ds ps c.fields≠0 then some (Ty.dp ds ps c.fields,c.pos) else wK ds ps r
def JP(ds:List Dt):List Dt→Option (Int×Int)
 |[]=>none
 |d::r=>match wK ds d.params d.cons with
   |some q=>some q
   |none=>JP ds r
def check(ds:List Dt):Int×Int:=match JO [] [] ds with
 |some p=>(6,p)
 |none=>(JP ds ds).getD (0,0)
def Xt(a b:List (PV×PV)):Sh:=[some [.dB a],some [.dB b]]
@[simp] theorem WI(a b:List (PV×PV)):Xt a b=[some [.dB a],some [.dB b]]:=rfl
def SY(c:mG):List AV:=[.pv (vI c.pos),.pv (.str c.name),.pv (.aw (c.fields.map Ty.pv))]
@[simp] theorem Wc(c:mG):SY c=[.pv (vI c.pos),.pv (.str c.name),.pv (.aw (c.fields.map Ty.pv))]:=rfl
theorem yG{s:List bX}{y:bX}:decide (0≤mJ s y)=decide (y∈s):=by
 have h:=t9 (s:=s) (y:=y);by_cases e:y∈s
 ·simp[e]at h;simp[e];omega
 ·simp[e]at h;simp[e];omega
theorem QA{ds:List Dt}{d:Dt}{i:Nat}{ty co:List bX}(hS:Sm d.params):∀(n k:Nat),d.params.length-k=n→k≤d.params.length→∀b:Bool,
   cl AP g189L1 ⟨[(0,.pv (.aw (ds.map Dt.pv))),(2,.au 2 0),(3,.own (ty.map .str) 0),(4,.own (co.map .str) 1),(5,.pv (vI i)),(6,.au 6 0),(7,.pv (.bool b)),(8,.pv (vI k))],
     [(2,[.pv (vI 0),.pv (vI 0)]),(6,SX d)],[],[ty.length,co.length]⟩ =
   some (.exit 2,⟨[(0,.pv (.aw (ds.map Dt.pv))),(2,.au 2 0),(3,.own (ty.map .str) 0),(4,.own (co.map .str) 1),(5,.pv (vI i)),(6,.au 6 0),(7,.pv (.bool (b || nS (d.params.take k) (d.params.drop k)))),(8,.pv (vI d.params.length)),(39,.pv (.bool false))],
     [(2,[.pv (vI 0),.pv (vI 0)]),(6,SX d)],[],[ty.length,co.length]⟩)
 |0,k,hn,hk,b=>by
   have:k=d.params.length:=by omega
   subst this;rw[g189L1e];simp[g189B1,nS]
 |n+1,k,hn,hk,b=>by
   have hk:k<d.params.length:=(by omega);have hk':k≤d.params.length:=(by omega);obtain⟨x,hx⟩:=aP hk;have hSt:Sm (d.params.take k):=(by unfold Sm at hS⊢;simp;omega);unfold Sm at hS;have q:=c216 hSt (y:=x);have q2:=yG (s:=d.params.take k) (y:=x);have sl:=WH (sz:=1) (l:=d.params.map PV.str) (k:=.i64) (h:=k) (by omega) (by simp;omega);have ih:=QA (ds:=ds) (d:=d) (i:=i) (ty:=ty) (co:=co) (by unfold Sm;exact hS) n (k+1) (by omega) (by omega);have e1:d.params.take (k+1)=d.params.take k++[x]:=(by rw[List.take_add_one,hx];rfl);rw[e1]at ih;rw[bl hx];simp only[nS];rw[List.map_take]at q;simp at sl q;cases b with
   |true=>
     have ih:=ih true;rw[g189L1e]at ih⊢;simp at ih;simp (disch:=omega) [-getElem?_pos,g189B1,hx,hk,aq];rw[g189L1e];simp[ih]
   |false=>
     have ih:=ih (decide (x∈d.params.take k));rw[g189L1e]at ih⊢;simp at ih;simp (disch:=omega) [-getElem?_pos,g189B1,hx,hk,hk',sl,q,q2,aq];rw[g189L1e];simp[ih]
theorem QB{ds:List Dt}{d:Dt}{i:Nat}{ty:List bX}(hS:Sm d.cons):∀(n k:Nat),d.cons.length-k=n→k≤d.cons.length→∀cons:List bX,cons.length+n<1099511627776→∃q:aG,
   cl AP g189L2 ⟨[(0,.pv (.aw (ds.map Dt.pv))),(2,.au 2 0),(3,.own (ty.map .str) 0),(4,.own (cons.map .str) 1),(5,.pv (vI i)),(6,.au 6 0),(9,.pv (vI k))],
     [(2,[.pv (vI 0),.pv (vI 0)]),(6,SX d)],[],[ty.length,cons.length]⟩ =
   match vq cons (d.cons.drop k) with
   |(some p,_)=>some (.ret,⟨[(2,.au 2 0)],[(2,[.pv (vI 6),.pv (vI p)])],[],q⟩)
   |(none,c2)=>some (.exit 4,⟨[(0,.pv (.aw (ds.map Dt.pv))),(2,.au 2 0),(3,.own (ty.map .str) 0),(4,.own (c2.map .str) 1),(5,.pv (vI i)),(6,.au 6 0),(9,.pv (vI d.cons.length)),(69,.pv (.bool false))],
     [(2,[.pv (vI 0),.pv (vI 0)]),(6,SX d)],[],[ty.length,c2.length]⟩)
 |0,k,hn,hk,cons,hb=>by
   have:k=d.cons.length:=by omega
   subst this;refine⟨[],?_⟩;rw[g189L2e];simp[g189B2,vq]
 |n+1,k,hn,hk,cons,hb=>by
   have hk:k<d.cons.length:=(by omega);obtain⟨x,hx⟩:=aP hk;have q:=c216 (s:=cons) (by unfold Sm;omega) (y:=x.name);have q2:=yG (s:=cons) (y:=x.name);unfold Sm at hS;rw[bl hx];simp only[vq];have hb2:(cons.length+1)*16≤140737488355328:=(by omega);have hh:a_ 1 (cons.map PV.str)=true:=by cases cons<;>simp
   by_cases e:x.name∈cons
   ·refine⟨[ty.length,cons.length],?_⟩;rw[g189L2e];simp[e]at q q2;simp (disch:=omega) [-getElem?_pos,g189B2,hx,hk,q,q2,e]
   · obtain⟨q',ih⟩:=QB (ds:=ds) (i:=i) (ty:=ty) (by unfold Sm;exact hS) n (k+1) (by omega) (by omega) (cons++[x.name]) (by simp;omega);refine⟨q',?_⟩;rw[g189L2e]at ih⊢;simp[e]at q q2;have q3:¬0≤mJ cons x.name:=by omega
     simp at ih;simp (disch:=omega) [-getElem?_pos,g189B2,hx,hk,q,q3,e,aq,hb2,hh];rw[g189L2e];simp[ih]
theorem Ve{ds:List Dt}(hS:Sm ds)(hp:∀d∈ds,Sm d.params)(hc:∀d∈ds,Sm d.cons):∀(n i:Nat),ds.length-i=n→i≤ds.length→∀types cons:List bX,types.length+n<1099511627776→cons.length+((ds.drop i).flatMap Dt.cons).length<1099511627776→∃(q:aG) (ty co:List bX),
   cl AP g189L0 ⟨[(0,.pv (.aw (ds.map Dt.pv))),(2,.au 2 0),(3,.own (types.map .str) 0),(4,.own (cons.map .str) 1),(5,.pv (vI i))],
     [(2,[.pv (vI 0),.pv (vI 0)])],[],[types.length,cons.length]⟩ =
   match JO types cons (ds.drop i) with
   |some p=>some (.ret,⟨[(2,.au 2 0)],[(2,[.pv (vI 6),.pv (vI p)])],[],q⟩)
   |none=>some (.exit 0,⟨[(0,.pv (.aw (ds.map Dt.pv))),(2,.au 2 0),(3,.own (ty.map .str) 0),(4,.own (co.map .str) 1),(5,.pv (vI ds.length)),(18,.pv (.bool false))],
     [(2,[.pv (vI 0),.pv (vI 0)])],[],[ty.length,co.length]⟩)
 |0,i,hn,hi,types,cons,hb1,hb2=>by
   have:i=ds.length:=by omega
   subst this;refine⟨[],types,cons,?_⟩;rw[g189L0e];simp[g189B0,JO]
 |n+1,i,hn,hi,types,cons,hb1,hb2=>by
   have hi:i<ds.length:=(by omega);obtain⟨d,hd⟩:=aP hi;unfold Sm at hS;have hpd:=hp d (aQ hd);rw[bl hd,List.flatMap_cons,List.length_append]at hb2;have q:=c216 (s:=types) (by unfold Sm;omega) (y:=d.name);have q2:=yG (s:=types) (y:=d.name);have k1:=QA (ds:=ds) (d:=d) (i:=i) (ty:=types) (co:=cons) hpd _ 0 rfl (by omega) (decide (d.name=[73,110,116]) || decide (d.name∈types));obtain⟨q',k2⟩:=QB (ds:=ds) (i:=i) (ty:=types++[d.name]) (hc d (aQ hd)) _ 0 rfl (by omega) cons (by omega)
   have eb:((decide (d.name=[73,110,116]) || decide (d.name∈types)) || nS (d.params.take 0) (d.params.drop 0))=JN types d:=by
     simp[JN]
   have hb3:(types.length+1)*16≤140737488355328:=(by omega);have hh:a_ 1 (types.map PV.str)=true:=by cases types<;>simp
   rw[eb]at k1;rw[bl hd];simp only[JO];rw[g189L1e]at k1;rw[g189L2e]at k2;have key:∀X,(cl AP g189L0 X=cl AP g189L0 X)→True:=fun _ _=>trivial
   by_cases e:JN types d=true
   · refine⟨[types.length,cons.length],[],[],?_⟩;rw[if_pos e,g189L0e];rw[e]at k1;simp at k1;by_cases e1:d.name=[73,110,116]
     ·simp[e1]at k1;simp (disch:=omega) [-getElem?_pos,g189B0,hd,hi,e1];rw[g189L1e];simp[e1,k1]
     ·simp[e1]at k1;simp (disch:=omega) [-getElem?_pos,g189B0,hd,hi,e1,q,q2];rw[g189L1e];simp[k1]
   · have e':JN types d=false:=by simpa using e
     have e1:¬d.name=[73,110,116]:=by
       intro h;apply e;simp[JN,h]
     rw[if_neg e];rw[e']at k1;simp[e1]at k1;cases hC:vq cons d.cons with
     |mk o cs=>
       rw[List.drop_zero,hC]at k2;cases o with
       |some p=>
         refine⟨q',[],[],?_⟩;rw[g189L0e];simp at k2;simp (disch:=omega) [-getElem?_pos,g189B0,hd,hi,e1,q,q2];rw[g189L1e];simp[k1,hb3,hh];rw[g189L2e];simp[k2]
       |none=>
         have hcl:cs.length=cons.length+d.cons.length:=by
           have key:∀(l:List mG) (c:List bX),(vq c l).1=none→(vq c l).2.length=c.length+l.length:=by
             intro l;induction l with
             |nil=>intro c _;simp[vq]
             |cons a r ih=>
               intro c h;simp only[vq]at h⊢;split at h
               ·simp at h
               ·rename_i hne;rw[if_neg hne,ih _ h];simp;omega
           have:=key d.cons cons (by rw[hC]);rw[hC]at this;exact this
         obtain⟨q'',ty,co,ih⟩:=Ve (ds:=ds) (by unfold Sm;exact hS) hp hc n (i+1) (by omega) (by omega) (types++[d.name]) cs (by simp;omega) (by omega);refine⟨q'',ty,co,?_⟩;rw[g189L0e]at ih⊢;simp at k2 ih;simp (disch:=omega) [-getElem?_pos,g189B0,hd,hi,e1,q,q2];rw[g189L1e];simp[k1,hb3,hh];rw[g189L2e];simp (disch:=omega) [k2,aq];rw[g189L0e];simp[ih]
theorem QC{ds:List Dt}(hds:Sm ds){i:Nat}{d:Dt}(hd:ds[i]?=some d)(hp:Sm d.params){c:mG}{k:Nat}(hS:Sm c.fields)(hO:∀x∈c.fields,x.Ok)(hC:∀x∈c.fields,x.Cw):∀(n j:Nat),c.fields.length-j=n→j≤c.fields.length →
   cl AP g189L5 ⟨[(0,.pv (.aw (ds.map Dt.pv))),(2,.au 2 0),(10,.pv (vI i)),(11,.pv (vI k)),(12,.au 12 0),(13,.pv (vI j))],
     [(2,[.pv (vI 0),.pv (vI 0)]),(12,SY c)],[],[]⟩ =
   if Ty.dp ds d.params (c.fields.drop j)≠0 then some (.ret,⟨[(2,.au 2 0)],[(2,[.pv (vI (Ty.dp ds d.params (c.fields.drop j))),.pv (vI c.pos)])],[],[]⟩)
   else some (.exit 10,⟨[(0,.pv (.aw (ds.map Dt.pv))),(2,.au 2 0),(10,.pv (vI i)),(11,.pv (vI k)),(12,.au 12 0),(13,.pv (vI c.fields.length)),(125,.pv (.bool false))],
     [(2,[.pv (vI 0),.pv (vI 0)]),(12,SY c)],[],[]⟩)
 |0,j,hn,hj=>by
   have:j=c.fields.length:=by omega
   subst this;rw[g189L5e];simp[g189B5,Ty.dp]
 |n+1,j,hn,hj=>by
   have hj:j<c.fields.length:=(by omega);obtain⟨x,hx⟩:=aP hj;have q:=c186 hds hp (hO x (aQ hx)) (hC x (aQ hx));unfold Sm at hS;have ih:=QC hds hd hp (c:=c) (k:=k) (by unfold Sm;exact hS) hO hC n (j+1) (by omega) (by omega);rw[bl hx];simp only[Ty.dp];rw[g189L5e]at ih⊢;simp at ih q;by_cases e:x.formed ds d.params=0
   ·rw[e]at q;simp (disch:=omega) [-getElem?_pos,g189B5,hd,hx,hj,q,e,aq];rw[g189L5e];simp[ih]
   ·simp (disch:=omega) [-getElem?_pos,g189B5,hd,hx,hj,q,e]
theorem QD{ds:List Dt}(hds:Sm ds){i:Nat}{d:Dt}(hd:ds[i]?=some d)(hp:Sm d.params)(hS:Sm d.cons)(hf:∀c∈d.cons,Sm c.fields∧(∀x∈c.fields,x.Ok)∧∀x∈c.fields,x.Cw):∀(n k:Nat),d.cons.length-k=n→k≤d.cons.length →
   cl AP g189L4 ⟨[(0,.pv (.aw (ds.map Dt.pv))),(2,.au 2 0),(10,.pv (vI i)),(11,.pv (vI k))],[(2,[.pv (vI 0),.pv (vI 0)])],[],[]⟩ =
   match wK ds d.params (d.cons.drop k) with
   |some q=>some (.ret,⟨[(2,.au 2 0)],[(2,[.pv (vI q.1),.pv (vI q.2)])],[],[]⟩)
   |none=>some (.exit 8,⟨[(0,.pv (.aw (ds.map Dt.pv))),(2,.au 2 0),(10,.pv (vI i)),(11,.pv (vI d.cons.length)),(110,.pv (.bool false))],[(2,[.pv (vI 0),.pv (vI 0)])],[],[]⟩)
 |0,k,hn,hk=>by
   have:k=d.cons.length:=by omega
   subst this;rw[g189L4e];simp[-getElem?_pos,g189B4,wK,hd]
 |n+1,k,hn,hk=>by
   have hk:k<d.cons.length:=(by omega);obtain⟨c,hx⟩:=aP hk;obtain⟨f1,f2,f3⟩:=hf c (aQ hx);have h:=QC hds hd hp (c:=c) (k:=k) f1 f2 f3 _ 0 rfl (by omega);unfold Sm at hS;have ih:=QD hds hd hp (by unfold Sm;exact hS) hf n (k+1) (by omega) (by omega);rw[bl hx];simp only[wK];rw[g189L4e]at ih⊢;rw[g189L5e]at h;simp at ih h;by_cases e:Ty.dp ds d.params c.fields=0
   ·simp[e]at h;simp (disch:=omega) [-getElem?_pos,g189B4,hd,hx,hk,e];rw[g189L5e];simp (disch:=omega) [h,aq];rw[g189L4e];simp[ih]
   ·simp[e]at h;simp (disch:=omega) [-getElem?_pos,g189B4,hd,hx,hk,e];rw[g189L5e];simp[h]
theorem QE{ds:List Dt}(hds:Sm ds)(hp:∀d∈ds,Sm d.params)(hc:∀d∈ds,Sm d.cons)(hf:∀d∈ds,∀c∈d.cons,Sm c.fields∧(∀x∈c.fields,x.Ok)∧∀x∈c.fields,x.Cw):∀(n i:Nat),ds.length-i=n→i≤ds.length →
   cl AP g189L3 ⟨[(0,.pv (.aw (ds.map Dt.pv))),(2,.au 2 0),(10,.pv (vI i))],[(2,[.pv (vI 0),.pv (vI 0)])],[],[]⟩ =
   match JP ds (ds.drop i) with
   |some q=>some (.ret,⟨[(2,.au 2 0)],[(2,[.pv (vI q.1),.pv (vI q.2)])],[],[]⟩)
   |none=>some (.exit 6,⟨[(0,.pv (.aw (ds.map Dt.pv))),(2,.au 2 0),(10,.pv (vI ds.length)),(100,.pv (.bool false))],[(2,[.pv (vI 0),.pv (vI 0)])],[],[]⟩)
 |0,i,hn,hi=>by
   have:i=ds.length:=by omega
   subst this;rw[g189L3e];simp[g189B3,JP]
 |n+1,i,hn,hi=>by
   have hi:i<ds.length:=(by omega);obtain⟨d,hd⟩:=aP hi;have h:=QD hds hd (hp d (aQ hd)) (hc d (aQ hd)) (hf d (aQ hd)) _ 0 rfl (by omega);have ih:=QE hds hp hc hf n (i+1) (by omega) (by omega);have hds':=hds;unfold Sm at hds';rw[bl hd];simp only[JP];rw[g189L3e]at ih⊢;rw[g189L4e]at h;simp at ih h;cases e:wK ds d.params d.cons with
   |none=>
     rw[e]at h;simp at h;simp (disch:=omega) [-getElem?_pos,g189B3,hd,hi];rw[g189L4e];simp (disch:=omega) [h,aq];rw[g189L3e];simp[ih]
   |some q=>
     rw[e]at h;simp at h;simp (disch:=omega) [-getElem?_pos,g189B3,hd,hi];rw[g189L4e];simp[h]
theorem c189{ds:List Dt}(hds:Sm ds)(hp:∀d∈ds,Sm d.params)(hc:∀d∈ds,Sm d.cons)(hT:Sm (ds.flatMap Dt.cons))(hf:∀d∈ds,∀c∈d.cons,Sm c.fields∧(∀x∈c.fields,x.Ok)∧∀x∈c.fields,x.Cw) :
   (aF AP).p 189 [.aw (ds.map Dt.pv)]=some [.agg [vI (check ds).1,vI (check ds).2]]:=by
 have hds':=hds;unfold Sm at hds' hT;obtain⟨q,ty,co,h1⟩:=Ve hds hp hc _ 0 rfl (by omega) [] [] (by simp;omega) (by simpa using hT);have h2:=QE hds hp hc hf _ 0 rfl (by omega);rw[ah (af:=g189) rfl rfl (by decide)];unfold check;rw[g189L0e]at h1;rw[g189L3e]at h2;simp at h1 h2;cases e1:JO [] [] ds with
 |some p=>
   rw[e1]at h1;simp at h1;simp[g189,g189L0e,h1]
 |none=>
   rw[e1]at h1;simp at h1;cases e2:JP ds ds with
   |none=>
     rw[e2]at h2;simp at h2;simp[g189,g189L0e,h1,g189L3e,h2]
   |some q=>
     rw[e2]at h2;simp at h2;simp[g189,g189L0e,h1,g189L3e,h2]
theorem yH{l:List bX}{t:Ty}(h:t.Ok):(t.l_ l).Ok:=by
 revert h
 refine Ty.dJ (p:=fun t=>t.Ok→(t.l_ l).Ok) ?_ t;intro t ih h;rw[Ty.yF];split
 ·exact bL rfl
 ·refine⟨by have:=h.sm;unfold Sm at this⊢;simpa using this,?_⟩;intro x hx;simp only[List.mem_map]at hx;obtain⟨y,hy,rfl⟩:=hx;exact ih y hy (h.gh y hy)
def fieldsOf(ds:List Dt)(s:bX)(as:List Ty):Option (List Ty):=(l6 ds s 0).bind fun q=>(ds[q.1]?).bind fun d=>(d.cons[q.2]?).bind fun c=>if as.length=d.params.length then some (c.fields.map fun f=>(f.l_ d.params).kf as) else none
def TO(o:Option (List Ty)):List PV:=[.aw ((o.getD []).map Ty.pv),.bool o.isSome]
theorem Vf{ds:List Dt}{i:Nat}{d:Dt}(hd:ds[i]?=some d)(hp:Sm d.params){as:List Ty}(ha:Sm as){fs:List Ty}(hS:Sm fs)(hO:∀x∈fs,x.Ok)(hC:∀x∈fs,x.Cw):∀(n j:Nat),fs.length-j=n→j≤fs.length→∀acc:List Ty,acc=(fs.take j).map (fun f=>(f.l_ d.params).kf as) →
   cl AP g207L0 ⟨[(0,.pv (.aw (ds.map Dt.pv))),(2,.pv (.aw (as.map Ty.pv))),(8,.pv (vI i)),(11,.own (acc.map Ty.pv) 0),(12,.pv (.aw (fs.map Ty.pv))),(13,.pv (vI j))],[],[],[acc.length]⟩ =
     some (.exit 0,⟨[(0,.pv (.aw (ds.map Dt.pv))),(2,.pv (.aw (as.map Ty.pv))),(8,.pv (vI i)),(11,.own ((fs.map (fun f=>(f.l_ d.params).kf as)).map Ty.pv) 0),(12,.pv (.aw (fs.map Ty.pv))),(13,.pv (vI fs.length)),(46,.pv (.bool false))],[],[],[fs.length]⟩)
 |0,j,hn,hj,acc,hacc=>by
   have:j=fs.length:=by omega
   subst this;subst hacc;rw[g207L0e];simp[g207B0]
 |n+1,j,hn,hj,acc,hacc=>by
   have hj:j<fs.length:=(by omega);obtain⟨x,hx⟩:=aP hj;have q1:=c198 hp (hO x (aQ hx)) (hC x (aQ hx));have q2:=c48 ha (t:=x.l_ d.params) (yH (hO x (aQ hx)));unfold Sm at hS;have hb:(acc.length+1)*64≤140737488355328:=by subst hacc;simp;omega
   have ih:=Vf hd hp ha (fs:=fs) (by unfold Sm;exact hS) hO hC n (j+1) (by omega) (by omega) (acc++[(x.l_ d.params).kf as]) (by rw[List.take_add_one,hx,hacc];simp);generalize x.l_ d.params=u at q1 q2 ih;generalize u.kf as=v at q2 ih;rw[g207L0e]at ih⊢;simp at ih q1 q2;simp (disch:=omega) [-getElem?_pos,g207B0,hd,hx,hj,q1,q2,hb,aq];rw[g207L0e];simp[ih]
theorem c207{ds:List Dt}(h:Small ds){as:List Ty}(ha:Sm as){s:bX}:(aF AP).p 207 [.aw (ds.map Dt.pv),.str s,.aw (as.map Ty.pv)]=some (TO (fieldsOf ds s as)):=by
 have k:=c191 h.num h.kr (s:=s);rw[ah (af:=g207) rfl rfl (by decide)];cases e:l6 ds s 0 with
 |none=>
   rw[e]at k;simp[rF]at k;simp[g207,k,fieldsOf,e,TO]
 |some q=>
   rw[e]at k;obtain⟨_,d,c,hd,hc,_⟩:=yE e;simp only[Nat.sub_zero]at hd;obtain⟨f1,f2,f3⟩:=h.WE d (aQ hd) c (aQ hc);have hl:=Vf hd (h.par d (aQ hd)) ha f1 f2 f3 _ 0 rfl (by omega) [] rfl;rw[g207L0e]at hl;simp[rF]at k;by_cases e2:as.length=d.params.length
   ·simp at hl;simp (disch:=omega) [-getElem?_pos,g207,k,hd,hc,fieldsOf,e,TO,e2,g207L0e,hl]
   ·have e3:¬(as.length:Int)=d.params.length:=(by omega);simp (disch:=omega) [-getElem?_pos,g207,k,hd,hc,fieldsOf,e,TO,e2,e3]
theorem Ga{α:Type}{p:α→Bool}:∀{l:List α} {k:Nat},db p l=some k→k<l.length
 |[],k,h=>by simp[db]at h
 |a::r,k,h=>by
   simp only[db]at h;split at h
   ·cases h;simp
   ·simp only[Option.map_eq_some_iff]at h;obtain⟨j,hj,rfl⟩:=h;have:=Ga hj;simp;omega
theorem BP{S:List Ty}(hf:S.length<1099511627776){l:List Ty}(hG:∀t∈l,Good S t):Sm (vars l):=by
 have c0:iC (S.map Ty.id) []:=pn (by simpa using hf);refine (c0.fold (l:=l.flatMap Ty.nodes) ?_).len;intro x hx hk;simp only[List.mem_flatMap]at hx;obtain⟨t,ht,hx⟩:=hx;exact List.mem_map_of_mem ((hG t ht).sub x (wH (hG t ht).wf x hx hk))
mutual
def Ty.ku(k:Int):Ty→Bool
 |⟨q,_,_,_,as⟩=>decide (q=k) || Ty.BQ k as
def Ty.BQ(k:Int):List Ty→Bool
 |[]=>false
 |a::r=>a.ku k || Ty.BQ k r
end
theorem Ty.wL(k:Int):∀l:List Ty,Ty.BQ k l=l.any (Ty.ku k)
 |[]=>by simp[Ty.BQ]
 |a::r=>by simp[Ty.BQ,Ty.wL k r]
theorem Ty.Gb(k:Int)(t:Ty):t.ku k=(decide (t.kind=k) || t.args.any (Ty.ku k)):=by
 cases t;simp only[Ty.ku,Ty.wL]
theorem Vg{t:Ty}{k:Int}(hS:Sm t.args)(h:∀x∈t.args,(aF AP).p 351 [x.pv,vI k]=some [.bool (x.ku k)]):∀(n i:Nat),t.args.length-i=n→i≤t.args.length →
   cl AP g351L0 ⟨[(1,.pv (vI k)),(2,.au 2 0),(5,.pv (vI i))],[(2,[.pv (vI t.kind),.pv (.str t.name),.pv (vI t.id),.pv (vI t.home),.pv (.aw (t.args.map Ty.pv))])],[],[]⟩ =
     if (t.args.drop i).any (Ty.ku k)=true then some (.ret,⟨[(4,.pv (.bool true))],[],[],[]⟩)
     else some (.exit 0,⟨[(1,.pv (vI k)),(2,.au 2 0),(5,.pv (vI t.args.length)),(14,.pv (.bool false))],[(2,[.pv (vI t.kind),.pv (.str t.name),.pv (vI t.id),.pv (vI t.home),.pv (.aw (t.args.map Ty.pv))])],[],[]⟩)
 |0,i,hn,hi=>by
   have:i=t.args.length:=by omega
   subst this;rw[g351L0e];simp[g351B0]
 |n+1,i,hn,hi=>by
   have hi:i<t.args.length:=(by omega);obtain⟨x,hx⟩:=aP hi;unfold Sm at hS;have c:=h x (aQ hx);have ih:=Vg hS h n (i+1) (by omega) (by omega);rw[g351L0e]at ih⊢;rw[bl hx,List.any_cons];cases e:x.ku k with
   |true=>
     rw[e]at c;simp at c;simp (disch:=omega) [-getElem?_pos,g351B0,hx,hi,c]
   |false=>
     rw[e]at c;simp at c;rw[Bool.false_or,←ih];simp (disch:=omega) [-getElem?_pos,g351B0,hx,hi,c,aq];rw[g351L0e];simp[g351B0]
theorem c351{t:Ty}{k:Int}(hO:t.Ok):(aF AP).p 351 [t.pv,vI k]=some [.bool (t.ku k)]:=by
 revert hO
 refine Ty.dJ (p:=fun t=>t.Ok→(aF AP).p 351 [t.pv,vI k]=some [.bool (t.ku k)]) ?_ t;intro t ih hO;have h:=Vg (k:=k) hO.sm (fun x hx=>ih x hx (hO.gh x hx)) _ 0 rfl (by omega);rw[ah (af:=g351) rfl rfl (by decide),Ty.Gb];rw[g351L0e]at h;by_cases e:t.kind=k
 ·simp[g351,e]
 · cases e':t.args.any (Ty.ku k) with
   |true=>simp only[List.drop_zero,e']at h;simp at h;simp[g351,e,g351L0e,h]
   |false=>simp only[List.drop_zero,e']at h;simp at h;simp[g351,e,g351L0e,h]
def vr(x:Ty):List Int:=if x.kind=1 then [x.id] else []
def lK(h:Int):Nat→List Ty
 |0=>[]
 |n+1=>lK h n++[dm h n]
theorem kN(h:Int):∀n,(lK h n).length=n
 |0=>rfl
 |n+1=>by simp[lK,kN h n]
theorem Vh{T:Ty}{h:Int}{nm:List bX}{q:List AV}(hq7:q=T.cl)(hS:nm.length<1000000000):∀(n i:Nat),nm.length-i=n→i≤nm.length →
   cl AP g327L0 ⟨[(1,.pv (vI h)),(4,.au 4 0),(5,.au 5 0),(6,.pv (.aw (nm.map .str))),(7,.au 7 0),(8,.own ((lK h i).map Ty.pv) 0),(9,.pv (vI i))],
     [(4,[.pv (vI 0),.pv (.str []),.pv (vI 0),.pv (vI 0),.own [] 1]),(5,[.pv (vI 0),.pv (vI 0),.pv (.str []),.pv (vI 0),.pv (vI 0),.own [] 2]),(7,q)],[],[i,0,0]⟩ =
     some (.exit 0,⟨[(1,.pv (vI h)),(4,.au 4 0),(5,.au 5 0),(6,.pv (.aw (nm.map .str))),(7,.au 7 0),(8,.own ((lK h nm.length).map Ty.pv) 0),(9,.pv (vI nm.length)),(18,.pv (.bool false))],
     [(4,[.pv (vI 0),.pv (.str []),.pv (vI 0),.pv (vI 0),.own [] 1]),(5,[.pv (vI 0),.pv (vI 0),.pv (.str []),.pv (vI 0),.pv (vI 0),.own [] 2]),(7,q)],[],[nm.length,0,0]⟩)
 |0,i,hn,hi=>by
   have:i=nm.length:=by omega
   subst this;have hl:=kN h nm.length;subst hq7;generalize lK h nm.length=R at *;rw[g327L0e];simp[g327B0,hl,Ty.cl]
 |n+1,i,hn,hi=>by
   have hi:i<nm.length:=(by omega);have ih:=Vh (h:=h) hq7 hS n (i+1) (by omega) (by omega);have k:=c71 (n:=h) (m:=i);have hl:=kN h i;have hb:(i+1)*64≤140737488355328:=(by omega);have hr:(lK h (i+1)).map Ty.pv=(lK h i).map Ty.pv++[(dm h i).pv]:=(by simp[lK]);rw[hr]at ih;subst hq7;generalize lK h i=R at *;rw[g327L0e]at ih⊢;simp[hl,Ty.cl,dm]at ih k;simp (disch:=omega) [-getElem?_pos,g327B0,hi,hl,k,hb,Ty.cl,aq];rw[g327L0e];simp[hl,ih]
theorem c327{S:List bX}(hf:S.length<1000000000){t:Ty}(hO:t.Ok)(hC:t.Cw)(hk:∀y∈t.eQ,y∈S){h:Int}:(aF AP).p 327 [t.pv,vI h]=some [((t.l_ (ct t)).kf (lK h (ct t).length)).pv,(As.mk (ct t).length (t.l_ (ct t))).pv]:=by
 have hcn:=kh.fold (S:=S) (l:=t.eQ) (out:=[]) ⟨by simp,by simp,by omega⟩ hk
 have hnl:(ct t).length<1000000000:=by
   have:=fp hcn.nodup hcn.sub;unfold ct;omega
 have k1:=c196 (S:=S) (by omega) hO hk;have k2:=c198 (l:=ct t) (by unfold Sm;omega) hO hC;have hbO:=yH (l:=ct t) hO;have k3:=c48 (s:=lK h (ct t).length) (by unfold Sm;rw[kN];omega) hbO;generalize ct t=nm at *;generalize t.l_ nm=T at *;have h4:=Vh (h:=h) (T:=T) (nm:=nm) rfl hnl _ 0 rfl (by omega);generalize lK h nm.length=R at *;generalize T.kf R=U at *;rw[g327L0e]at h4;simp[lK,Ty.cl]at h4;simp at k1 k2 k3;rw[ah (af:=g327) rfl rfl (by decide)];simp[g327,k1,k2,g327L0e,h4,k3]
theorem c325{S:List bX}(hf:S.length<1000000000){t:Ty}(hO:t.Ok)(hC:t.Cw)(hk:∀y∈t.eQ,y∈S):(aF AP).p 325 [t.pv]=some [((t.l_ (ct t)).kf (lK 98 (ct t).length)).pv]:=by
 have k:=c327 hf hO hC hk (h:=98);generalize (t.l_ (ct t)).kf (lK 98 (ct t).length)=U at *;simp at k;rw[ah (af:=g325) rfl rfl (by decide)];simp[g325,k]
theorem Vi{vs:List Int}(hv:Sm vs){t:Ty}:∀(n i:Nat),vs.length-i=n→i≤vs.length→∀acc:List As,acc.length≤i →
   cl AP g363L0 ⟨[(1,.au 1 0),(2,.au 2 0),(3,.pv (.aw (vs.map vI))),(4,.own (acc.map As.pv) 0),(5,.pv (vI i))],[(1,tC t),(2,zC 1)],[],[acc.length,0]⟩ =
     some (.exit 0,⟨[(1,.au 1 0),(2,.au 2 0),(3,.pv (.aw (vs.map vI))),(4,.own ((acc++(vs.drop i).map fun v=>As.mk v bj).map As.pv) 0),(5,.pv (vI vs.length)),(12,.pv (.bool false))],[(1,tC t),(2,zC 1)],[],[(acc++(vs.drop i).map fun v=>(⟨v,bj⟩:As)).length,0]⟩)
 |0,i,hn,hi,acc,ha=>by
   have:i=vs.length:=by omega
   subst this;rw[g363L0e];simp[g363B0,tC,zC]
 |n+1,i,hn,hi,acc,ha=>by
   have hi:i<vs.length:=(by omega);obtain⟨x,hx⟩:=aP hi;unfold Sm at hv;have hb:(acc.length+1)*72≤140737488355328:=(by omega);have k:=c34;have ih:=Vi (t:=t) hv n (i+1) (by omega) (by omega) (acc++[⟨x,bj⟩]) (by simp;omega);rw[g363L0e]at ih⊢;rw[bl hx];simp[tC,zC,bj]at ih k;simp (disch:=omega) [-getElem?_pos,g363B0,tC,zC,bj,hx,hi,k,aq,hb];rw[g363L0e];simp[ih]
theorem c363{S:List Ty}(hf:S.length<1099511627776)(hSo:∀x∈S,x.Ok){t:Ty}(hG:Good S t):(aF AP).p 363 [t.pv]=some [(t.sub ((vars [t]).map fun v=>As.mk v bj)).pv]:=by
 have k1:=Fe hf hSo (l:=[t]) (by simp[Sm]) (by simpa using hG);have hv:=BP hf (l:=[t]) (by simpa using hG);have h:=Vi (t:=t) hv _ 0 rfl (by omega) [] (by simp);have k2:=c46 (s:=(vars [t]).map fun v=>As.mk v bj) (by unfold Sm at *;simpa using hv) hG.ok;generalize vars [t]=vs at *;rw[g363L0e]at h;simp[tC,zC]at h;simp at k1 k2;rw[ah (af:=g363) rfl rfl (by decide)];simp[g363,k1,k2,g363L0e,h]
def gz(k:Nat):List AV:=[.pv (vI 0),.pv (vI 0),.pv (.str []),.pv (vI 0),.pv (vI 0),.own [] k]
inductive BR (k:Int):Ex→Prop
 |mk {e:Ex}:e.kind≠k→(∀x∈e.ch,BR k x)→BR k e
theorem BR.h{k:Int}{e:Ex}(h:BR k e):e.kind≠k:=by cases h;assumption
theorem BR.c{k:Int}{e:Ex}(h:BR k e):∀x∈e.ch,BR k x:=by cases h;assumption
theorem Vj{l:List Ex}(hl:l.length≤2000){k:Int}(IH:∀x∈l,∃b,(aF AP).p 307 [x.pv,vI k]=some [.bool b]∧(b=false→BR k x)):∀(n i:Nat),l.length-i=n→i≤l.length →
   cl AP g307L0 ⟨[(1,.pv (vI k)),(5,.pv (.aw (l.map Ex.pv))),(6,.pv (vI i))],[],[],[]⟩=some (.ret,⟨[(4,.pv (.bool true))],[],[],[]⟩) ∨
   cl AP g307L0 ⟨[(1,.pv (vI k)),(5,.pv (.aw (l.map Ex.pv))),(6,.pv (vI i))],[],[],[]⟩=some (.exit 0,⟨[(1,.pv (vI k)),(5,.pv (.aw (l.map Ex.pv))),(6,.pv (vI l.length)),(16,.pv (.bool false))],[],[],[]⟩)∧∀x∈l.drop i,BR k x
 |0,i,hn,hi=>by
   have:i=l.length:=by omega
   subst this;refine .inr ⟨?_,by simp⟩;rw[g307L0e];simp[g307B0]
 |n+1,i,hn,hi=>by
   have hi:i<l.length:=(by omega);obtain⟨x,hx⟩:=aP hi;obtain⟨b,c,hb⟩:=IH x (aQ hx);have he:=MK.len x;have ho:=MK.of x;cases b with
   |true=>
     refine .inl ?_;simp at c he ho;rw[g307L0e];simp (disch:=omega) [-getElem?_pos,g307B0,hx,hi,c,he,ho]
   |false=>
     have ih:=Vj hl IH n (i+1) (by omega) (by omega)
     have e1:cl AP g307L0 ⟨[(1,.pv (vI k)),(5,.pv (.aw (l.map Ex.pv))),(6,.pv (vI i))],[],[],[]⟩=cl AP g307L0 ⟨[(1,.pv (vI k)),(5,.pv (.aw (l.map Ex.pv))),(6,.pv (vI (i+1:Nat)))],[],[],[]⟩:=by
       conv=>lhs;rw[g307L0e]
       simp at c he ho;simp (disch:=omega) [-getElem?_pos,g307B0,hx,hi,c,aq,he,ho]
     rw[e1];refine ih.imp_right fun h=>⟨h.1,?_⟩;rw[bl hx];intro y hy;simp only[List.mem_cons]at hy;rcases hy with rfl|hy
     ·exact hb rfl
     ·exact h.2 y hy
theorem c307k{e:Ex}(h:e.Ok)(k:Int):∃b,(aF AP).p 307 [e.pv,vI k]=some [.bool b]∧(b=false→BR k e):=by
 induction h with
 | @mk e hk ha hv ht hc ih=>
   have k1:=c145 (Ex.Ok.mk hk ha hv ht hc);have hl:e.ch.length≤2000:=(by rw[Ex.yB];omega);have L:=Vj hl ih _ 0 rfl (by omega);rw[g307L0e,List.drop_zero]at L;simp at L k1;by_cases q:e.kind=k
   ·refine⟨true,?_,by simp⟩;rw[ah (af:=g307) rfl rfl (by decide)];simp[g307,q]
   · rcases L with L|L
     ·refine⟨true,?_,by simp⟩;rw[ah (af:=g307) rfl rfl (by decide)];simp[g307,q,k1,g307L0e,L]
     ·obtain⟨L,hn⟩:=L;refine⟨false,?_,fun _=>.mk q hn⟩;rw[ah (af:=g307) rfl rfl (by decide)];simp[g307,q,k1,g307L0e,L]
theorem c307{e:Ex}(h:e.Ok)(k:Int):∃b,(aF AP).p 307 [e.pv,vI k]=some [.bool b]:=by
 obtain⟨b,h,_⟩:=c307k h k;exact⟨b,h⟩
def cH(i:Nat):List Int→List As
 |[]=>[]
 |v::r=>⟨v,aK i⟩::cH (i+1) r
theorem fc{i:Nat}{l:List Int}:(cH i l).length=l.length:=by
 induction l generalizing i with
 |nil=>rfl
 |cons a r ih=>simp[cH,ih]
theorem QF{l:List Ty}{vs:List Int}(hv:Sm vs):∀(n i:Nat),vs.length-i=n→i≤vs.length→∀acc:List As,acc.length≤i →
   cl AP g395L0 ⟨[(0,.pv (.aw (l.map Ty.pv))),(3,.pv (.aw (vs.map vI))),(4,.own (acc.map As.pv) 0),(5,.pv (vI i))],[],[],[acc.length]⟩ =
     some (.exit 0,⟨[(0,.pv (.aw (l.map Ty.pv))),(3,.pv (.aw (vs.map vI))),(4,.own ((acc++cH i (vs.drop i)).map As.pv) 0),(5,.pv (vI vs.length)),(13,.pv (.bool false))],[],[],[(acc++cH i (vs.drop i)).length]⟩)
 |0,i,hn,hi,acc,ha=>by
   have:i=vs.length:=by omega
   subst this;rw[g395L0e];simp[g395B0,cH]
 |n+1,i,hn,hi,acc,ha=>by
   have hi:i<vs.length:=(by omega);obtain⟨x,hx⟩:=aP hi;unfold Sm at hv;have hb:(acc.length+1)*72≤140737488355328:=(by omega);have k:=c63 (n:=i);have ih:=QF (l:=l) hv n (i+1) (by omega) (by omega) (acc++[As.mk x (aK i)]) (by simp;omega);rw[g395L0e]at ih⊢;rw[bl hx];simp[aK]at ih k;simp (disch:=omega) [-getElem?_pos,g395B0,hx,hi,k,aq,hb,cH,aK];rw[g395L0e];simp[ih]
theorem QG{l:List Ty}(hl:Sm l)(hO:∀t∈l,t.Ok){s:List As}(hs:Sm s):∀(n i:Nat),l.length-i=n→i≤l.length→∀acc:List Ty,acc.length≤i →
   cl AP g395L1 ⟨[(0,.pv (.aw (l.map Ty.pv))),(4,.own (s.map As.pv) 0),(6,.own (acc.map Ty.pv) 1),(7,.pv (vI i))],[],[],[s.length,acc.length]⟩ =
     some (.exit 2,⟨[(0,.pv (.aw (l.map Ty.pv))),(4,.own (s.map As.pv) 0),(6,.own ((acc++(l.drop i).map (Ty.sub s)).map Ty.pv) 1),(7,.pv (vI l.length)),(29,.pv (.bool false))],[],[],[s.length,(acc++(l.drop i).map (Ty.sub s)).length]⟩)
 |0,i,hn,hi,acc,ha=>by
   have:i=l.length:=by omega
   subst this;rw[g395L1e];simp[g395B1]
 |n+1,i,hn,hi,acc,ha=>by
   have hi:i<l.length:=(by omega);obtain⟨x,hx⟩:=aP hi;have hl':=hl;unfold Sm at hl;have hb:(acc.length+1)*64≤140737488355328:=(by omega);have k:=c46 hs (hO x (aQ hx));have ih:=QG hl' hO hs n (i+1) (by omega) (by omega) (acc++[x.sub s]) (by simp;omega);rw[g395L1e]at ih⊢;rw[bl hx];simp at ih k;simp (disch:=omega) [-getElem?_pos,g395B1,hx,hi,k,aq,hb];rw[g395L1e];simp[ih]
theorem c395i{S:List Ty}(hf:S.length<1099511627776)(hSo:∀x∈S,x.Ok){l:List Ty}(hl:Sm l)(hG:∀t∈l,Good S t):(aF AP).i 395 [.pv (.aw (l.map Ty.pv))] [] []=some ([.own ((l.map (Ty.sub (cH 0 (vars l)))).map Ty.pv) 0],[],[l.length]):=by
 have k1:=Fe hf hSo hl hG;have hv:=BP hf hG;have h1:=QF (l:=l) hv _ 0 rfl (by omega) [] (by simp);have hs:Sm (cH 0 (vars l)):=by unfold Sm at *;rw[fc];exact hv
 have h2:=QG hl (fun t ht=>(hG t ht).ok) hs _ 0 rfl (by omega) [] (by simp);generalize vars l=vs at *;rw[g395L0e]at h1;rw[g395L1e]at h2;simp at h1 h2 k1;generalize cH 0 vs=s at *;rw[aB (af:=g395) rfl (by simp[g395])];simp[g395,k1,g395L0e,h1,g395L1e,h2]
theorem c377{s:List As}(hs:Sm s){c:Sc}(hO:c.ty.Ok):(aF AP).p 377 [.aw (s.map As.pv),c.pv]=some [(As.mk c.id (c.ty.sub s)).pv]:=by
 have k:=c22 hs hO;generalize c.ty.sub s=u at *;simp at k;rw[ah (af:=g377) rfl rfl (by decide)];simp[g377,k]
theorem QH{l:List En}(hl:Sm l){g:Ty}{b:PV}:∀(n i:Nat),l.length-i=n→i≤l.length→∀acc:List Ty,acc.length≤i →
   cl AP g376L0 ⟨[(2,.pv b),(3,.au 3 0),(6,.au 6 0),(8,.own (acc.map Ty.pv) 0),(9,.pv (.aw (l.map En.pv))),(10,.pv (vI i))],[(3,tC g),(6,[.own [] 1,.own [] 2])],[],[acc.length,0,0]⟩ =
     some (.exit 0,⟨[(2,.pv b),(3,.au 3 0),(6,.au 6 0),(8,.own ((acc++(l.drop i).map fun x=>x.sc.ty).map Ty.pv) 0),(9,.pv (.aw (l.map En.pv))),(10,.pv (vI l.length)),(21,.pv (.bool false))],[(3,tC g),(6,[.own [] 1,.own [] 2])],[],[(acc++(l.drop i).map fun x=>x.sc.ty).length,0,0]⟩)
 |0,i,hn,hi,acc,ha=>by
   have:i=l.length:=by omega
   subst this;rw[g376L0e];simp[g376B0,tC]
 |n+1,i,hn,hi,acc,ha=>by
   have hi:i<l.length:=(by omega);obtain⟨x,hx⟩:=aP hi;unfold Sm at hl;have hb:(acc.length+1)*64≤140737488355328:=(by omega);have ih:=QH (g:=g) (b:=b) hl n (i+1) (by omega) (by omega) (acc++[x.sc.ty]) (by simp;omega);rw[g376L0e]at ih⊢;rw[bl hx];simp[tC]at ih;simp (disch:=omega) [-getElem?_pos,g376B0,tC,hx,hi,aq,hb];rw[g376L0e];simp[ih]
def sa:Nat→de
 |0=>⟨[],[]⟩
 |i+1=>bN (sa i) 1000000 false
theorem M5:∀i,ub (sa i).sl=i
 |0=>rfl
 |i+1=>by
   have:=M5 i;simp only[ub]at this;simp[sa,bN,ub,List.countP_append,this]
theorem sb:∀i,Inv i (i*i+4*i) (dq i) (sa i)
 |0=>⟨rfl,by simp[sa,ub],by simp[sa],by simp[sa],⟨fun _=>0,by rintro i v ⟨k,x,_,h,_⟩;simp[sa]at h⟩,by simp[sa]⟩
 |i+1=>by
   have I:=sb i;refine qe I 1000000 false ?_;rw[M5];have:(i+1)*(i+1)=i*i+2*i+1:=(by rw[Nat.add_mul,Nat.mul_add];omega);omega
theorem QI{vs:List Int}(hv:vs.length≤5000):∀(n i:Nat),vs.length-i=n→i≤vs.length→∀acc:List As,acc.length≤i →
   cl AP g376L1 ⟨[(2,.pv (.aw [])),(6,.au 6 0),(11,.pv (.aw (vs.map vI))),(12,.au 12 0),(13,.own (acc.map As.pv) 0),(14,.pv (vI i))],[(6,[.own [] 1,.own [] 2]),(12,sC (sa i))],[],[acc.length,0,0]⟩ =
     some (.exit 2,⟨[(2,.pv (.aw [])),(6,.au 6 0),(11,.pv (.aw (vs.map vI))),(12,.au 12 0),(13,.own ((acc++cH i (vs.drop i)).map As.pv) 0),(14,.pv (vI vs.length)),(42,.pv (.bool false))],[(6,[.own [] 1,.own [] 2]),(12,sC (sa vs.length))],[],[(acc++cH i (vs.drop i)).length,0,0]⟩)
 |0,i,hn,hi,acc,ha=>by
   have:i=vs.length:=by omega
   subst this;rw[g376L1e];simp[g376B1,sC,cH]
 |n+1,i,hn,hi,acc,ha=>by
   have hi:i<vs.length:=(by omega);obtain⟨x,hx⟩:=aP hi;have hb:(acc.length+1)*72≤140737488355328:=(by omega);have k0:=c95 (s:=[]) (by simp[Sm]) (y:=x);have I:=sb i;have hq:i*i≤5000*5000:=Nat.mul_le_mul (by omega) (by omega);have k:=c381 I.MY (by omega) (by omega) 1000000 false;rw[I.len]at k;have ih:=QI hv n (i+1) (by omega) (by omega) (acc++[As.mk x (aK i)]) (by simp;omega);simp only[sa]at ih;generalize bN (sa i) 1000000 false=s1 at *;generalize sa i=s0 at *;rw[g376L1e]at ih⊢;rw[bl hx];simp[aK]at k;simp[sC,aK]at ih;simp at k0;simp (disch:=omega) [-getElem?_pos,g376B1,sC,hx,hi,k,k0,aq,hb,cH,aK];rw[g376L1e];simp[ih]
theorem c376{S:List Ty}(hf:S.length≤5000)(hSo:∀x∈S,x.Ok){g:Ty}(hg:Good S g){l:List En}(hl:Sm l)(hl2:l.length<1000000)(hG:∀x∈l,Good S x.sc.ty):∃vs:List Int,vs=vars (g::(bW l).map fun x=>x.sc.ty)∧vs.length≤5000 ∧
   (aF AP).p 376 [g.pv,.aw (l.map En.pv),.aw []]=some [(sa vs.length).pv,.aw ((cH 0 vs).map As.pv)]:=by
 have hsl:=kI l;have k1:=c201 hl
 have hG2:∀t∈(g::(bW l).map fun x=>x.sc.ty),Good S t:=by
   intro t ht;simp only[List.mem_cons,List.mem_map]at ht;rcases ht with rfl|⟨x,hx,rfl⟩
   ·exact hg
   ·exact hG x (gN l x hx)
 have hs:Sm (bW l):=by unfold Sm at *;omega
 have h1:=QH hs (g:=g) (b:=.aw []) _ 0 rfl (by omega) [] (by simp);have k2:=Fe (by omega) hSo (l:=g::(bW l).map fun x=>x.sc.ty) (by unfold Sm at *;simp;omega) hG2
 have hv:(vars (g::(bW l).map fun x=>x.sc.ty)).length≤5000:=by
   have c0:iC (S.map Ty.id) []:=pn (by simp;omega)
   have c1:=c0.fold (l:=(g::(bW l).map fun x=>x.sc.ty).flatMap Ty.nodes) (by
     intro x hx hk;simp only[List.mem_flatMap]at hx;obtain⟨t,ht,hx⟩:=hx;exact List.mem_map_of_mem ((hG2 t ht).sub x (wH (hG2 t ht).wf x hx hk)))
   have:=fp c1.nodup c1.sub;rw[List.length_map]at this;unfold vars;omega
 refine⟨_,rfl,hv,?_⟩;generalize vars (g::(bW l).map fun x=>x.sc.ty)=vs at *;have h2:=QI hv _ 0 rfl (by omega) [] (by simp);have k3:=c388;have hb:(1+(bW l).length)*64≤140737488355328:=by omega
 rw[g376L0e]at h1;rw[g376L1e]at h2;generalize sa vs.length=s2 at *;simp[tC]at h1;simp[sa,sC]at h2;have hh:=pk.head ((bW l).map fun x=>x.sc.ty);generalize bW l=E at *;simp at k1 k2 k3 hh;rw[ah (af:=g376) rfl rfl (by decide)];by_cases hE:E=[]
 ·subst hE;simp at h1 k1 k2;simp (disch:=omega) [g376,k1,g376L0e,h1,hb,hh,k2,k3,g376L1e,h2]
 ·simp (disch:=omega) [g376,k1,g376L0e,h1,hb,hh,hE,k2,k3,g376L1e,h2]
end Go.Ab.Lw
