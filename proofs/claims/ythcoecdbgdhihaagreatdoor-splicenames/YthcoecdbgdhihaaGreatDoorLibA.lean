import Derived.Test.YthcoecdbgdhihaaGreatDoorCodeA
import Derived.Test.YthcoecdbgdhihaaGreatDoorAbBridge
import Derived.Test.YthcoecdbgdhihaaGreatDoorAbForce
import Derived.KernelRfl
/-
  The program's data.
  The makers: what their functions GF.
  The makers: what their functions GF.
  The data declarations that programs are made of: what the reader makes of their text.
  The makers: data declarations, chosen by bits.
  The makers: types and substitutions off the tape.
  Types and substitutions: what replaces variables.
  Types: rebuilding with new leaves.
  Types and substitutions: the program's replacing, finding, composing.
  Substitutions: composing; equality of types and of substitutions.
  Chapter 13: the plain laws, and the law that composition composes.
  Chapter 13: equality of substitutions; the laws SubstAssociates and SubstEqual.
  Functions of package slices over any elements.
  Which types are valid.
  Contexts: their entries; looking names up.
  What the pure data of a parameter looks MD.
  Chapter 3: what its laws make; the laws TypesValid and TypesEqual.
  The variables of types, by the program and by the reference.
  The reference's variables of types; they are the program's.
  Contexts: schemes, adding, hidden entries; what law 19 makes.
  Law 19 makes contexts; the law EnvironLooks.
  The maker of types over any list of data types.
  Correct types in declarations.
  Expressions.
  slices.DeleteFunc over an array of texts that may be written.
  Arrays of structs in shared memory: their cells one behind the other.
  Expressions: children, the part at a path, and the names that are bound.
  Chapter 3: opening.
  Contexts: their free variables; the law EnvironSeen.
  Types by the kinds of their nodes.
  How many nodes an expression has; expressions whose texts are known.
  slices.DeleteFunc over an array of texts that may be written: all of it.
  scope.Visible: one step inward.
  The names that are visible at a path.
  The holes of an expression.
  The holes of an expression, by the reference; the same of programs.
  Raw expressions: what the maker gives.
  The maker of raw expressions.
  The maker of raw expressions: cases; all depths.
  The reference's store of type variables: what it looks MD, bound variables, walks.
  The reference's store: sizes and resolved types.
  The reference's store: resolving, new variables, changes.
  Chapter 13: valid and idempotent substitutions.
  The reference's store: a slot is set.
  The reference's unifier: arrows, rigid constants, variables of a store, joining.
  The reference's store: acyclic stores.
  The reference's store: a finder Ip.
  The reference's store: a finder finds every variable that is reached and not bound.
  Expressions: other children.
  Chapter 9: where a constructor is.
  Scopes: the errors of a case itself, by the reference.
  Scopes: the first error of an expression.
  Positions are numbered.
  The reference's store: the variables of a type.
  The reference's unifier: joining two variables.
  The reference's unifier: joining two variables, the walk.
  The reference's unifier: binding a variable, the loops.
  The reference's unifier: binding a variable.
  The reference's unifier: binding a variable, the walk.
  The reference's unifier: ends of walks, the loop over the arguments.
  The reference's unifier.
  The reference's unifier, from outside; marking a variable.
  The search's reference: a variable is marked; new variables bq a store fit.
  Chapter 9: written type variables become quantified ones.
  Chapter 9: the names of written type variables.
  Chapter 9: declarations off the tape.
  Chapter 9: the scheme of a constructor.
  Chapter 9: the first error of a list of declarations, by the program.
  The law DeclareFinds.
  The law DeclareFields.
  The law EnvironSeen.
  Valid schemes: the program's and the reference's answers are one.
  Closing and mono, by the program.
  Signatures of the reference.
  The maker of programs: small parts, 2.
  The maker of programs: the scheme of a let.
-/
set_option linter.unusedVariables false
set_option linter.unusedSimpArgs false
set_option linter.unnecessarySimpa false
set_option maxRecDepth 100000
set_option maxHeartbeats 8000000
namespace Go.Ab.Lw
structure Ty where
 kind:Int
 name:List UInt8
 id:Int
 home:Int
 args:List Ty
 deriving Inhabited
noncomputable instance:DecidableEq Ty:=fun _ _=>Classical.propDecidable _
mutual
def Ty.pv:Ty→PV
 | ⟨k,n,i,h,as⟩=>.agg [.int .i64 k,.str n,.int .i64 i,.int .i64 h,.aI (Ty.dC as)]
def Ty.dC:List Ty→List PV
 | []=>[]
 | a::r=>a.pv::Ty.dC r
end
theorem Ty.nZ:∀l:List Ty,Ty.dC l=l.map Ty.pv
 | []=>by simp [Ty.dC]
 | a::r=>by simp [Ty.dC,Ty.nZ r]
@[simp] theorem Ty.lI (t:Ty):t.pv=.agg [.int .i64 t.kind,.str t.name,.int .i64 t.id,.int .i64 t.home,.aI (t.args.map Ty.pv)]:=by
 cases t;simp only [Ty.pv,Ty.nZ]
theorem Ty.eU {p:Ty→Prop} (h:∀t:Ty,(∀x∈t.args,p x)→p t):∀t,p t
 | ⟨k,n,i,hm,as⟩=>h _ (fun x _hx=>Ty.eU h x)
termination_by t=>SizeOf.sizeOf t
decreasing_by have:=_root_.List.sizeOf_lt_of_mem _hx;simp at *;omega
structure p7 where
 pos:Int
 name:List UInt8
 fields:List Ty
 deriving Inhabited
structure Dt where
 pos:Int
 name:List UInt8
 params:List (List UInt8)
 cons:List p7
 deriving Inhabited
def p7.pv (c:p7):PV:=.agg [.int .i64 c.pos,.str c.name,.aI (c.fields.map Ty.pv)]
def Dt.pv (d:Dt):PV:=.agg [.int .i64 d.pos,.str d.name,.aI (d.params.map .str),.aI (d.cons.map p7.pv)]
@[simp] theorem p7.lI (c:p7):c.pv=.agg [.int .i64 c.pos,.str c.name,.aI (c.fields.map Ty.pv)]:=rfl
@[simp] theorem Dt.lI (d:Dt):d.pv=.agg [.int .i64 d.pos,.str d.name,.aI (d.params.map .str),.aI (d.cons.map p7.pv)]:=rfl
structure As where
 id:Int
 ty:Ty
 deriving Inhabited
def As.pv (a:As):PV:=.agg [.int .i64 a.id,.int .i64 a.ty.kind,.str a.ty.name,.int .i64 a.ty.id,.int .i64 a.ty.home,.aI (a.ty.args.map Ty.pv)]
@[simp] theorem As.lI (a:As):a.pv=.agg [.int .i64 a.id,.int .i64 a.ty.kind,.str a.ty.name,.int .i64 a.ty.id,.int .i64 a.ty.home,.aI (a.ty.args.map Ty.pv)]:=rfl
@[simp] theorem As.eta (t:As):As.mk t.id t.ty=t:=rfl
abbrev vI (n:Int):PV:=.int .i64 n
def tp (L:List Int) (i:Int):Sh:=[some [.pv (.aI (L.map vI)),.pv (vI i)]]
@[simp] theorem Q' (L:List Int) (i:Int):tp L i=[some [.pv (.aI (L.map vI)),.pv (vI i)]]:=rfl
def Sm {α:Type} (l:List α):Prop:=l.length<1099511627776
def Rr {α:Type} (l:List α):Prop:=l.length≤9223372036854775807
@[simp] theorem QQ (n:Nat):((n:Int)<0)↔False:=by simp
@[simp] theorem Qt (n:Nat):((n:Int)+1<0)↔False:=by simp;omega
theorem cp {α:Type} {l:List α} {i:Nat} {x:α} (h:l[i]?=some x):l.drop i=x::l.drop (i+1):=by
 obtain ⟨hi,rfl⟩:=List.getElem?_eq_some_iff.1 h;exact List.drop_eq_getElem_cons hi
theorem bD {α:Type} {l:List α} {i:Nat} (h:i<l.length):∃x,l[i]?=some x:=⟨_,List.getElem?_eq_getElem h⟩
theorem bt {α:Type} {l:List α} {i:Nat} {x:α} (h:l[i]?=some x):x∈l:=List.mem_of_getElem? h
theorem OW {α:Type} {l:List α} {i:Nat} (h:l.length≤i):l.drop i=[]:=List.drop_eq_nil_of_le h
open Ev
theorem c26 {n m:Int} (h1:1≤m) (h2:m<4611686018427387904):∃r,(aP AP).p 26 [vI n,vI m]=some [vI r]∧0≤r∧r<m:=by
 rw [aw (af:=g26) rfl rfl (by decide)];have a1:=Int.tmod_lt_of_pos n (show 0<m by omega);have a2:=Int.lt_tmod_of_pos n (show 0<m by omega);have e1:¬m<1:=by omega
 have e2:¬m=0:=by omega
 by_cases h:n.tmod m<0
 · refine ⟨n.tmod m+m,?_,by omega,by omega⟩;simp (disch:=omega) [g26,e1,e2,h,az]
 · refine ⟨n.tmod m,?_,by omega,by omega⟩;simp [g26,e1,e2,h]
theorem c63 {n:Int}:(aP AP).p 63 [vI n]=some [(Ty.mk 1 [] n 0 []).pv]:=by
 rw [aw (af:=g63) rfl rfl (by decide)];simp [g63]
theorem c71 {n m:Int}:(aP AP).p 71 [vI n,vI m]=some [(Ty.mk 3 [] m n []).pv]:=by
 rw [aw (af:=g71) rfl rfl (by decide)];simp [g71]
theorem c72 {n:Int}:(aP AP).p 72 [vI n]=some [(Ty.mk 2 [] n 0 []).pv]:=by
 rw [aw (af:=g72) rfl rfl (by decide)];simp [g72]
theorem c62 {s:List UInt8} {l:List Ty} (h:Sm l):(aP AP).p 62 [.str s,.aI (l.map Ty.pv)]=some [(Ty.mk 4 s 0 0 l).pv]:=by
 unfold Sm at h;rw [aw (af:=g62) rfl rfl (by decide)];cases l with
 | nil=>simp [g62]
 | cons a r=>
   have:(r.length+1)*64≤140737488355328:=by simp at h;omega
   simp [g62,this]
theorem c34:(aP AP).p 34 []=some [(Ty.mk 4 [73,110,116] 0 0 []).pv]:=by
 rw [aw (af:=g34) rfl rfl (by decide)];have h:=c62 (s:=[73,110,116]) (l:=[]) (by simp [Sm]);simp at h;simp [g34,h]
theorem c69 {a b:Ty}:(aP AP).p 69 [a.pv,b.pv]=some [(Ty.mk 4 [45,62] 0 0 [a,b]).pv]:=by
 rw [aw (af:=g69) rfl rfl (by decide)];have h:=c62 (s:=[45,62]) (l:=[a,b]) (by simp [Sm]);simp at h;simp [g69,h]
theorem c15 {l:List Int}:(aP AP).p 15 [.aI (l.map vI)]=some [.bool (decide (l.length≤60))]:=by
 rw [aw (af:=g15) rfl rfl (by decide)];simp [g15];omega
def cv (n:Int):Ty:=⟨1,[],n,0,[]⟩
def kz (h n:Int):Ty:=⟨3,[],n,h,[]⟩
def cU (n:Int):Ty:=⟨2,[],n,0,[]⟩
def bB:Ty:=⟨4,[73,110,116],0,0,[]⟩
def OX:List UInt8:=[100,97,116,97,32,66,111,111,108,32,61,32,84,114,117,101,32,124,32,70,97,108,115,101,59,32,100,97,116,97,32,79,112,116,105,111,110,32,97,32,61,32,78,111,110,101,32,124,32,83,111,109,101,32,97,59,32,100,97,116,97,32,76,105,115,116,32,97,32,61,32,78,105,108,32,124,32,67,111,110,115,32,97,32,40,76,105,115,116,32,97,41,59,100,97,116,97,32,80,97,105,114,32,97,32,98,32,61,32,80,97,105,114,32,97,32,98,59,32,100,97,116,97,32,78,97,116,32,61,32,90,101,114,111,32,124,32,83,117,99,99,32,78,97,116,59,32,100,97,116,97,32,70,117,110,32,97,32,98,32,61,32,70,117,110,32,40,97,32,45,62,32,98,41,59,32,100,97,116,97,32,84,119,111,32,97,32,61,32,66,111,116,104,32,97,32,97,32,124,32,79,110,101,32,40,79,112,116,105,111,110,32,97,41,59]
def LL:List PV:=[.aI [.agg [.int .i64 4,.str [100,97,116,97],.int .i64 0],.agg [.int .i64 2,.str [66,111,111,108],.int .i64 5],.agg [.int .i64 5,.str [61],.int .i64 10],.agg [.int .i64 2,.str [84,114,117,101],.int .i64 12],.agg [.int .i64 5,.str [124],.int .i64 17],.agg [.int .i64 2,.str [70,97,108,115,101],.int .i64 19],.agg [.int .i64 5,.str [59],.int .i64 24],.agg [.int .i64 4,.str [100,97,116,97],.int .i64 26],.agg [.int .i64 2,.str [79,112,116,105,111,110],.int .i64 31],.agg [.int .i64 1,.str [97],.int .i64 38],.agg [.int .i64 5,.str [61],.int .i64 40],.agg [.int .i64 2,.str [78,111,110,101],.int .i64 42],.agg [.int .i64 5,.str [124],.int .i64 47],.agg [.int .i64 2,.str [83,111,109,101],.int .i64 49],.agg [.int .i64 1,.str [97],.int .i64 54],.agg [.int .i64 5,.str [59],.int .i64 55],.agg [.int .i64 4,.str [100,97,116,97],.int .i64 57],.agg [.int .i64 2,.str [76,105,115,116],.int .i64 62],.agg [.int .i64 1,.str [97],.int .i64 67],.agg [.int .i64 5,.str [61],.int .i64 69],.agg [.int .i64 2,.str [78,105,108],.int .i64 71],.agg [.int .i64 5,.str [124],.int .i64 75],.agg [.int .i64 2,.str [67,111,110,115],.int .i64 77],.agg [.int .i64 1,.str [97],.int .i64 82],.agg [.int .i64 5,.str [40],.int .i64 84],.agg [.int .i64 2,.str [76,105,115,116],.int .i64 85],.agg [.int .i64 1,.str [97],.int .i64 90],.agg [.int .i64 5,.str [41],.int .i64 91],.agg [.int .i64 5,.str [59],.int .i64 92],.agg [.int .i64 4,.str [100,97,116,97],.int .i64 93],.agg [.int .i64 2,.str [80,97,105,114],.int .i64 98],.agg [.int .i64 1,.str [97],.int .i64 103],.agg [.int .i64 1,.str [98],.int .i64 105],.agg [.int .i64 5,.str [61],.int .i64 107],.agg [.int .i64 2,.str [80,97,105,114],.int .i64 109],.agg [.int .i64 1,.str [97],.int .i64 114],.agg [.int .i64 1,.str [98],.int .i64 116],.agg [.int .i64 5,.str [59],.int .i64 117],.agg [.int .i64 4,.str [100,97,116,97],.int .i64 119],.agg [.int .i64 2,.str [78,97,116],.int .i64 124],.agg [.int .i64 5,.str [61],.int .i64 128],.agg [.int .i64 2,.str [90,101,114,111],.int .i64 130],.agg [.int .i64 5,.str [124],.int .i64 135],.agg [.int .i64 2,.str [83,117,99,99],.int .i64 137],.agg [.int .i64 2,.str [78,97,116],.int .i64 142],.agg [.int .i64 5,.str [59],.int .i64 145],.agg [.int .i64 4,.str [100,97,116,97],.int .i64 147],.agg [.int .i64 2,.str [70,117,110],.int .i64 152],.agg [.int .i64 1,.str [97],.int .i64 156],.agg [.int .i64 1,.str [98],.int .i64 158],.agg [.int .i64 5,.str [61],.int .i64 160],.agg [.int .i64 2,.str [70,117,110],.int .i64 162],.agg [.int .i64 5,.str [40],.int .i64 166],.agg [.int .i64 1,.str [97],.int .i64 167],.agg [.int .i64 5,.str [45,62],.int .i64 169],.agg [.int .i64 1,.str [98],.int .i64 172],.agg [.int .i64 5,.str [41],.int .i64 173],.agg [.int .i64 5,.str [59],.int .i64 174],.agg [.int .i64 4,.str [100,97,116,97],.int .i64 176],.agg [.int .i64 2,.str [84,119,111],.int .i64 181],.agg [.int .i64 1,.str [97],.int .i64 185],.agg [.int .i64 5,.str [61],.int .i64 187],.agg [.int .i64 2,.str [66,111,116,104],.int .i64 189],.agg [.int .i64 1,.str [97],.int .i64 194],.agg [.int .i64 1,.str [97],.int .i64 196],.agg [.int .i64 5,.str [124],.int .i64 198],.agg [.int .i64 2,.str [79,110,101],.int .i64 200],.agg [.int .i64 5,.str [40],.int .i64 204],.agg [.int .i64 2,.str [79,112,116,105,111,110],.int .i64 205],.agg [.int .i64 1,.str [97],.int .i64 212],.agg [.int .i64 5,.str [41],.int .i64 213],.agg [.int .i64 5,.str [59],.int .i64 214]],.agg [.int .i64 0,.int .i64 0]]
def cI:List Dt:=[⟨0,[66,111,111,108],[],[⟨12,[84,114,117,101],[]⟩,⟨19,[70,97,108,115,101],[]⟩]⟩,
 ⟨26,[79,112,116,105,111,110],[[97]],[⟨42,[78,111,110,101],[]⟩,⟨49,[83,111,109,101],[⟨5,[97],0,0,[]⟩]⟩]⟩,
 ⟨57,[76,105,115,116],[[97]],[⟨71,[78,105,108],[]⟩,⟨77,[67,111,110,115],[⟨5,[97],0,0,[]⟩,⟨4,[76,105,115,116],0,0,[⟨5,[97],0,0,[]⟩]⟩]⟩]⟩,
 ⟨93,[80,97,105,114],[[97],[98]],[⟨109,[80,97,105,114],[⟨5,[97],0,0,[]⟩,⟨5,[98],0,0,[]⟩]⟩]⟩,
 ⟨119,[78,97,116],[],[⟨130,[90,101,114,111],[]⟩,⟨137,[83,117,99,99],[⟨4,[78,97,116],0,0,[]⟩]⟩]⟩,
 ⟨147,[70,117,110],[[97],[98]],[⟨162,[70,117,110],[⟨4,[45,62],0,0,[⟨5,[97],0,0,[]⟩,⟨5,[98],0,0,[]⟩]⟩]⟩]⟩,
 ⟨176,[84,119,111],[[97]],[⟨189,[66,111,116,104],[⟨5,[97],0,0,[]⟩,⟨5,[97],0,0,[]⟩]⟩,⟨200,[79,110,101],[⟨4,[79,112,116,105,111,110],0,0,[⟨5,[97],0,0,[]⟩]⟩]⟩]⟩]
theorem OY:(aP AP).p 118 [.str OX]=some LL:=Fc.M1 (k:=400) (n:=20) (by kernel_rfl)
def Ra (g:Nat) (x:List PV):Option (List PV):=match g,x with
 | 118,[.str s]=>if s=OX then some LL else none
 | _,_=>none
theorem M7:∀g x r,Ra g x=some r→(aP AP).p g x=some r:=by
 intro g x r h;unfold Ra at h;split at h
 · split at h
   · rename_i e;subst e;cases h;exact OY
   · cases h
 · cases h
theorem c79:(aP AP).p 79 []=some [.aI (cI.map Dt.pv)]:=Fc.LI (k:=400) (n:=40) M7 (by kernel_rfl)
@[simp] theorem NX {l:List Dt}:bC 4 (l.map Dt.pv)=true:=by cases l<;>simp
@[simp] theorem NY {l:List Ty}:bC 5 (l.map Ty.pv)=true:=by cases l<;>simp
@[simp] theorem NZ {l:List As}:bC 6 (l.map As.pv)=true:=by cases l<;>simp
theorem Iq {n:Int} (h1:0≤n) (h2:n<18446744073709551616):IntKind.u64.wrap n=n:=by
 simp [IntKind.wrap,IntKind.bits,IntKind.signed];omega
def OZ (bits:Int) (ds:List Dt):Option (bH×St):=
 some (.exit 0,⟨[(0,.pv (vI bits)),(3,.pv (.aI (cI.map Dt.pv))),(4,.own (ds.map Dt.pv) 0),(5,.pv (vI 7)),(24,.pv (.bool false))],[],[],[ds.length]⟩)
theorem Qu (bits:Int):∀(n i:Nat),7-i=n→i≤7→∀acc:List Dt,(∀d∈acc,d∈cI)→acc.length≤1+i →
   ∃ds:List Dt,cl AP g32L0 ⟨[(0,.pv (vI bits)),(3,.pv (.aI (cI.map Dt.pv))),(4,.own (acc.map Dt.pv) 0),(5,.pv (vI i))],[],[],[acc.length]⟩=OZ bits ds ∧
     (∀d∈ds,d∈cI)∧ds.length≤8
 | 0,i,hn,hi,acc,ha,hl=>by
   have:i=7:=by omega
   subst this;refine ⟨acc,?_,ha,by omega⟩;rw [g32L0e];have h7:cI.length=7:=rfl;simp [g32B0,h7,OZ]
 | n+1,i,hn,hi,acc,ha,hl=>by
   have h7:cI.length=7:=rfl;have hi:i<7:=(by omega);obtain ⟨x,hx⟩:=bD (l:=cI) (i:=i) (by omega);have hb:(acc.length+1)*72≤140737488355328:=by omega
   obtain ⟨d1,e1,m1,l1⟩:=Qu bits n (i+1) (by omega) (by omega) (acc++[x]) (by
     intro d hd;simp at hd;rcases hd with hd | rfl
     · exact ha d hd
     · exact bt hx) (by simp;omega)
   obtain ⟨d2,e2,m2,l2⟩:=Qu bits n (i+1) (by omega) (by omega) acc ha (by omega);simp at e1 e2;have hi':(i:Int)<7:=by omega
   have key:∀S,S=cl AP g32L0 ⟨[(0,.pv (vI bits)),(3,.pv (.aI (cI.map Dt.pv))),(4,.own (acc.map Dt.pv) 0),(5,.pv (vI i))],[],[],[acc.length]⟩→S=OZ bits d1∨S=OZ bits d2:=by
     intro S hS;rw [g32L0e] at hS;simp (disch:=omega) [-getElem?_pos,g32B0,h7,hi',hx,az,Iq,hb,e1,e2] at hS;subst hS
     (repeat' split)<;>simp
   rcases key _ rfl with h | h
   · exact ⟨d1,h,m1,l1⟩
   · exact ⟨d2,h,m2,l2⟩
theorem c32 (bits:Int):∃ds:List Dt,(aP AP).p 32 [vI bits]=some [.aI (ds.map Dt.pv)]∧(∀d∈ds,d∈cI)∧ds.length≤8:=by
 have hp:=c79;have h7:cI.length=7:=rfl;obtain ⟨x,hx⟩:=bD (l:=cI) (i:=1) (by decide);obtain ⟨d1,e1,m1,l1⟩:=Qu bits 7 0 rfl (by omega) [x] (by intro d hd;simp at hd;subst hd;exact bt hx) (by simp);obtain ⟨d2,e2,m2,l2⟩:=Qu bits 7 0 rfl (by omega) [] (by simp) (by simp);rw [g32L0e] at e1 e2;simp at e1 e2
 have key:∀S,S=(aP AP).p 32 [vI bits]→S=some [.aI (d1.map Dt.pv)]∨S=some [.aI (d2.map Dt.pv)]:=by
   intro S hS;rw [aw (af:=g32) rfl rfl (by decide)] at hS;simp [-getElem?_pos,g32,hp,g32L0e,hx,e1,e2,OZ] at hS;subst hS
   (repeat' split)<;>simp
 rcases key _ rfl with h | h
 · exact ⟨d1,h,m1,l1⟩
 · exact ⟨d2,h,m2,l2⟩
inductive Made (lv:Ty→Prop):Ty→Prop
 | leaf {t:Ty}:lv t→Made lv t
 | int:Made lv bB
 | iV {d:Dt} {args:List Ty}:d∈cI→args.length=d.params.length→(∀x∈args,Made lv x)→Made lv ⟨4,d.name,0,0,args⟩
 | arrow {a b:Ty}:Made lv a→Made lv b→Made lv ⟨4,[45,62],0,0,[a,b]⟩
def Ty.av (t:Ty):AV:=.agg [.pv (vI t.kind),.pv (.str t.name),.pv (vI t.id),.pv (vI t.home),.pv (.aI (t.args.map Ty.pv))]
@[simp] theorem Ty.Rb (t:Ty):t.av=.agg [.pv (vI t.kind),.pv (.str t.name),.pv (vI t.id),.pv (vI t.home),.pv (.aI (t.args.map Ty.pv))]:=rfl
def tT (L:List Int) (ds:List Dt) (lv:List Ty) (dep:Nat):Prop:=∀i:Nat,i≤L.length→∃(t:Ty) (j:Nat),
 (aP AP).i 27 [.br 0 0,.pv (.aI (ds.map Dt.pv)),.pv (.aI (lv.map Ty.pv)),.pv (vI dep)] (tp L i) []=some ([t.av],tp L j,[])∧Made (·∈lv) t∧j≤L.length
theorem kW {r:Int} {n:Nat} (h0:0≤r) (h1:r<n):∃m:Nat,r=m∧m<n:=⟨r.toNat,by omega,by omega⟩
inductive Ty.Ok:Ty→Prop
 | mk {t:Ty}:Sm t.args→(∀x∈t.args,Ty.Ok x)→Ty.Ok t
theorem Ty.Ok.sm {t:Ty} (h:t.Ok):Sm t.args:=by cases h;assumption
theorem Ty.Ok.g_ {t:Ty} (h:t.Ok):∀x∈t.args,x.Ok:=by cases h;assumption
inductive Ty.Wf:Ty→Prop
 | mk {t:Ty}:(t.kind=1→t.args=[])→(∀x∈t.args,Ty.Wf x)→Ty.Wf t
theorem Ty.Wf.var {t:Ty} (h:t.Wf):t.kind=1→t.args=[]:=by cases h;assumption
theorem Ty.Wf.g_ {t:Ty} (h:t.Wf):∀x∈t.args,x.Wf:=by cases h;assumption
def kA:List As→Int→Option Ty
 | [],_=>none
 | a::r,id=>if a.id=id then some a.ty else kA r id
mutual
def Ty.sub (s:List As):Ty→Ty
 | ⟨k,n,i,h,as⟩=>if k=1 then (kA s i).getD ⟨k,n,i,h,as⟩ else ⟨k,n,i,h,Ty.Ir s as⟩
def Ty.Ir (s:List As):List Ty→List Ty
 | []=>[]
 | a::r=>a.sub s::Ty.Ir s r
end
theorem Ty.yY (s:List As):∀l:List Ty,Ty.Ir s l=l.map (Ty.sub s)
 | []=>by simp [Ty.Ir]
 | a::r=>by simp [Ty.Ir,Ty.yY s r]
theorem Ty.sub_eq (s:List As) (t:Ty):t.sub s=if t.kind=1 then (kA s t.id).getD t else ⟨t.kind,t.name,t.id,t.home,t.args.map (Ty.sub s)⟩:=by
 cases t;simp only [Ty.sub,Ty.yY]
def Is (s:List As) (t:Ty):Option Ty→Option (bH×St)
 | some a=>some (.ret,⟨[(4,.aG 4 0)],[(4,[.pv (vI a.kind),.pv (.str a.name),.pv (vI a.id),.pv (vI a.home),.pv (.aI (a.args.map Ty.pv))])],[],[0]⟩)
 | none=>some (.exit 0,⟨[(1,.pv (.aI (s.map As.pv))),(2,.aG 2 0),(4,.aG 4 0),(5,.pv (vI s.length)),(14,.pv (.bool false))],
     [(2,[.pv (vI t.kind),.pv (.str t.name),.pv (vI t.id),.pv (vI t.home),.pv (.aI (t.args.map Ty.pv))]),(4,[.pv (vI 0),.pv (.str []),.pv (vI 0),.pv (vI 0),.own [] 0])],[],[0]⟩)
theorem O0 {s:List As} (hS:Sm s) (t:Ty):∀(n i:Nat),s.length-i=n→i≤s.length →
   cl AP g46L0 ⟨[(1,.pv (.aI (s.map As.pv))),(2,.aG 2 0),(4,.aG 4 0),(5,.pv (vI i))],
     [(2,[.pv (vI t.kind),.pv (.str t.name),.pv (vI t.id),.pv (vI t.home),.pv (.aI (t.args.map Ty.pv))]),(4,[.pv (vI 0),.pv (.str []),.pv (vI 0),.pv (vI 0),.own [] 0])],[],[0]⟩=Is s t (kA (s.drop i) t.id)
 | 0,i,hn,hi=>by
   have:i=s.length:=by omega
   subst this;rw [g46L0e];simp [g46B0,kA,Is]
 | n+1,i,hn,hi=>by
   have hi:i<s.length:=(by omega);obtain ⟨x,hx⟩:=bD hi;unfold Sm at hS;have ih:=O0 hS t n (i+1) (by omega) (by omega);simp at ih;rw [g46L0e,cp hx];by_cases e:x.id=t.id
   · simp (disch:=omega) [-getElem?_pos,g46B0,hx,hi,e,kA,Is]
   · simp (disch:=omega) [-getElem?_pos,g46B0,hx,hi,e,kA,az,ih]
theorem O1 {s:List As} {t:Ty} (hS:Sm t.args) (h:∀x∈t.args,(aP AP).p 46 [x.pv,.aI (s.map As.pv)]=some [(x.sub s).pv]):∀(n i:Nat),t.args.length-i=n→i≤t.args.length→∀acc:List Ty,acc=(t.args.take i).map (Ty.sub s) →
   cl AP g46L1 ⟨[(1,.pv (.aI (s.map As.pv))),(2,.aG 2 0),(4,.aG 4 0),(6,.aG 6 0),(7,.pv (vI i))],
     [(2,[.pv (vI t.kind),.pv (.str t.name),.pv (vI t.id),.pv (vI t.home),.pv (.aI (t.args.map Ty.pv))]),(4,[.pv (vI 0),.pv (.str []),.pv (vI 0),.pv (vI 0),.own [] 0]),
       (6,[.pv (vI t.kind),.pv (.str t.name),.pv (vI t.id),.pv (vI t.home),.own (acc.map Ty.pv) 1])],[],[0,acc.length]⟩ =
     some (.exit 2,⟨[(1,.pv (.aI (s.map As.pv))),(2,.aG 2 0),(4,.aG 4 0),(6,.aG 6 0),(7,.pv (vI t.args.length)),(37,.pv (.bool false))],
     [(2,[.pv (vI t.kind),.pv (.str t.name),.pv (vI t.id),.pv (vI t.home),.pv (.aI (t.args.map Ty.pv))]),(4,[.pv (vI 0),.pv (.str []),.pv (vI 0),.pv (vI 0),.own [] 0]),
       (6,[.pv (vI t.kind),.pv (.str t.name),.pv (vI t.id),.pv (vI t.home),.own ((t.args.map (Ty.sub s)).map Ty.pv) 1])],[],[0,t.args.length]⟩)
 | 0,i,hn,hi,acc,ha=>by
   have:i=t.args.length:=by omega
   subst this;subst ha;rw [g46L1e];simp [g46B1]
 | n+1,i,hn,hi,acc,ha=>by
   have hi:i<t.args.length:=(by omega);obtain ⟨x,hx⟩:=bD hi;unfold Sm at hS;have hb:(acc.length+1)*64≤140737488355328:=by subst ha;simp;omega
   have hc:=h x (bt hx);have ih:=O1 hS h n (i+1) (by omega) (by omega) (acc++[x.sub s]) (by rw [List.take_add_one,hx,ha];simp);rw [g46L1e] at ih ⊢;simp at ih hc;simp (disch:=omega) [-getElem?_pos,g46B1,hx,hi,hc,hb,az];rw [g46L1e];simp [ih]
theorem c46 {s:List As} (hS:Sm s) {t:Ty} (hO:t.Ok):(aP AP).p 46 [t.pv,.aI (s.map As.pv)]=some [(t.sub s).pv]:=by
 revert hO
 refine Ty.eU (p:=fun t=>t.Ok→(aP AP).p 46 [t.pv,.aI (s.map As.pv)]=some [(t.sub s).pv]) ?_ t;intro t ih hO;rw [aw (af:=g46) rfl rfl (by decide)];by_cases hk:t.kind=1
 · have h:=O0 hS t _ 0 rfl (by omega);rw [g46L0e] at h;simp at h;cases hf:kA s t.id with
   | none=>
     rw [hf] at h;simp [Is,hk] at h;simp [g46,hk,g46L0e,h,Ty.sub_eq,hf]
   | some a=>
     rw [hf] at h;simp [Is,hk] at h;simp [g46,hk,g46L0e,h,Ty.sub_eq,hf]
 · have h:=O1 (s:=s) hO.sm (fun x hx=>ih x hx (hO.g_ x hx)) _ 0 rfl (by omega) [] (by simp);rw [g46L1e] at h;simp at h;simp [g46,hk,g46L1e,h,Ty.sub_eq]
def bA (sh:Sh):Prop:=∀cs,some cs∈sh→∀v∈cs,∃p,v=AV.pv p
theorem lJ {aY ts:aN}:∀{cs:List AV},(∀v∈cs,∃p,v=AV.pv p)→bP aY ts cs=(cs,aY,ts)
 | [],_=>rfl
 | v::r,h=>by
   obtain ⟨p,rfl⟩:=h v (by simp);simp only [rS,yi,lJ (cs:=r) (fun v hv=>h v (by simp [hv]))]
theorem bA.norm:∀{sh:Sh},bA sh→∀aY ts,bV aY ts sh=(sh,aY,ts)
 | [],_,_,_=>rfl
 | none::sh,h,aY,ts=>by
   simp only [rT,bA.norm (sh:=sh) (fun cs hc=>h cs (by simp [hc]))]
 | some cs::sh,h,aY,ts=>by
   simp only [rU,lJ (h cs (by simp)),bA.norm (sh:=sh) (fun cs hc=>h cs (by simp [hc]))]
theorem oY {n:Nat}:∀{cs:List AV},(∀v∈cs,∃p,v=AV.pv p)→cs.map (dG n)=cs
 | [],_=>rfl
 | v::r,h=>by
   obtain ⟨p,rfl⟩:=h v (by simp);simp only [List.map_cons,ug,oY (cs:=r) (fun v hv=>h v (by simp [hv]))]
theorem bA.shift:∀{sh:Sh},bA sh→∀n,fp n sh=sh
 | [],_,_=>rfl
 | none::sh,h,n=>by
   simp only [pT,bA.shift (sh:=sh) (fun cs hc=>h cs (by simp [hc]))]
 | some cs::sh,h,n=>by
   simp only [pU,oY (h cs (by simp)),bA.shift (sh:=sh) (fun cs hc=>h cs (by simp [hc]))]
theorem bA.app {a b:Sh} (ha:bA a) (hb:bA b):bA (a++b):=by
 intro cs hc;simp only [List.mem_append] at hc;rcases hc with hc | hc
 · exact ha cs hc
 · exact hb cs hc
theorem bA.one {cs:List AV} (h:∀v∈cs,∃p,v=AV.pv p):bA [some cs]:=by
 intro cs' hc;simp at hc;subst hc;exact h
@[simp] theorem QR {α:Type} {l:List α} {x:α}:(l++[x])[l.length]?=some x:=by simp
def Ty.cl (t:Ty):List AV:=[.pv (vI t.kind),.pv (.str t.name),.pv (vI t.id),.pv (vI t.home),.pv (.aI (t.args.map Ty.pv))]
def Qv:List AV:=[.pv (vI 0),.pv (.str []),.pv (vI 0),.pv (vI 0),.pv (.aI [])]
def jH (d:List Ty) (m:Nat):List AV:=d.flatMap Ty.cl++(List.replicate m Qv).flatten
theorem Iu {d:List Ty}:(d.flatMap Ty.cl).length=d.length*5:=by
 induction d with
 | nil=>rfl
 | cons a r ih=>simp [ih,Ty.cl,Nat.add_mul]
theorem KP {m:Nat}:((List.replicate m Qv).flatten).length=m*5:=by
 simp [Qv]
theorem yZ {d:List Ty} {m:Nat}:(jH d m).length=(d.length+m)*5:=by
 simp only [jH,List.length_append,Iu,KP,Nat.add_mul]
theorem wh {d:List Ty} {m:Nat}:∀v∈jH d m,∃p,v=AV.pv p:=by
 intro v hv;simp only [jH,List.mem_append,List.mem_flatMap,List.mem_flatten,List.mem_replicate] at hv;rcases hv with ⟨t,_,hv⟩ | ⟨l,⟨_,rfl⟩,hv⟩
 · simp [Ty.cl] at hv;rcases hv with rfl | rfl | rfl | rfl | rfl<;>exact ⟨_,rfl⟩
 · simp [Qv] at hv;rcases hv with rfl | rfl | rfl | rfl | rfl<;>exact ⟨_,rfl⟩
theorem dw {l:List AV} (h:∀v∈l,∃p,v=.pv p):dr l=false:=by
 cases l with
 | nil=>rfl
 | cons c r=>obtain ⟨p,rfl⟩:=h c (by simp);rfl
@[simp] theorem N0 {d:List Ty} {m:Nat}:dr (jH d m)=false:=dw wh
theorem Iv {a b:List AV} {x y:List PV} (ha:ff a=some x) (hb:ff b=some y):ff (a++b)=some (x++y):=by
 induction a generalizing x with
 | nil=>simp at ha;subst ha;exact hb
 | cons v r ih=>
   simp only [oO] at ha;simp only [List.cons_append,oO];cases h1:kS v with
   | none=>rw [h1] at ha;cases ha
   | some p=>
     cases h2:ff r with
     | none=>rw [h1,h2] at ha;cases ha
     | some q=>
       rw [h1,h2] at ha;simp at ha;subst ha;rw [ih h2];rfl
theorem Iw:∀{d:List Ty},((ff (jH d 0)).bind (fh 5 true d.length)).map PV.aI=some (.aI (d.map Ty.pv)):=by
 have key:∀d:List Ty,∃ps,ff (d.flatMap Ty.cl)=some ps∧(chunk 5 d.length ps).map PV.agg=d.map Ty.pv:=by
   intro d;induction d with
   | nil=>exact ⟨[],rfl,rfl⟩
   | cons t r ih=>
     obtain ⟨ps,h1,h2⟩:=ih;refine ⟨[vI t.kind,.str t.name,vI t.id,vI t.home,.aI (t.args.map Ty.pv)]++ps,?_,?_⟩
     · rw [List.flatMap_cons];exact Iv (by simp [Ty.cl]) h1
     · simp only [List.length_cons,chunk];simp [h2]
 intro d;obtain ⟨ps,h1,h2⟩:=key d;have:jH d 0=d.flatMap Ty.cl:=by simp [jH]
 rw [this,h1];simp only [Option.bind_some,fh,if_true,Option.map_some,h2]
theorem c22 {s:List As} (hS:Sm s) {t:Ty} (hO:t.Ok):(aP AP).p 22 [.aI (s.map As.pv),t.pv]=some [(t.sub s).pv]:=by
 have h:=c46 hS hO;simp at h;rw [aw (af:=g22) rfl rfl (by decide)];simp [g22,h]
noncomputable instance:DecidableEq As:=fun _ _=>Classical.propDecidable _
theorem Rc {as bs:List Ty} (hS:Sm as) (hl:as.length=bs.length) (h:∀x∈as,∀y,(aP AP).p 20 [x.pv,y.pv]=some [.bool (decide (x=y))]):∀(n i:Nat),as.length-i=n→i≤as.length →
   cl AP g57L0 ⟨[(0,.pv (.aI (as.map Ty.pv))),(1,.pv (.aI (bs.map Ty.pv))),(5,.pv (.int .i64 i))],[],[],[]⟩ =
     if as.drop i=bs.drop i then some (.exit 0,⟨[(0,.pv (.aI (as.map Ty.pv))),(1,.pv (.aI (bs.map Ty.pv))),(5,.pv (.int .i64 as.length)),(14,.pv (.bool false))],[],[],[]⟩)
     else some (.ret,⟨[(4,.pv (.bool false))],[],[],[]⟩)
 | 0,i,hn,hi=>by
   have:i=as.length:=by omega
   subst this;rw [g57L0e];simp [g57B0,hl]
 | n+1,i,hn,hi=>by
   have hi:i<as.length:=(by omega);obtain ⟨x,hx⟩:=bD hi;obtain ⟨y,hy⟩:=bD (hl ▸ hi);have hc:=h x (bt hx) y;simp at hc;rw [g57L0e,cp hx,cp hy];unfold Sm at hS;have ih:=Rc hS hl h n (i+1) (by omega) (by omega);simp at ih;simp (disch:=omega) [-getElem?_pos,g57B0,hx,hy,hi,hc,az,ih];by_cases e:x=y<;>simp [e]
theorem c57 {as bs:List Ty} (hS:Sm as) (h:∀x∈as,∀y,(aP AP).p 20 [x.pv,y.pv]=some [.bool (decide (x=y))]) :
   (aP AP).p 57 [.aI (as.map Ty.pv),.aI (bs.map Ty.pv)]=some [.bool (decide (as=bs))]:=by
 rw [aw (af:=g57) rfl rfl (by decide)];by_cases hl:as.length=bs.length
 · have hL:=Rc hS hl h _ 0 rfl (by omega);simp at hL;simp [g57,hl,hL];by_cases e:as=bs<;>simp [e]
 · have:¬as=bs:=fun e=>hl (by rw [e])
   simp [g57,hl,this];omega
theorem c20 {a b:Ty} (hO:a.Ok):(aP AP).p 20 [a.pv,b.pv]=some [.bool (decide (a=b))]:=by
 revert b hO
 refine Ty.eU (p:=fun a=>∀{b:Ty},a.Ok→(aP AP).p 20 [a.pv,b.pv]=some [.bool (decide (a=b))]) ?_ a;intro a ih b hO;have h:=c57 (bs:=b.args) hO.sm (fun x hx y=>ih x hx (hO.g_ x hx));rw [aw (af:=g20) rfl rfl (by decide)];simp [g20,h];cases a;cases b;simp
 (repeat' split)<;>simp_all
theorem mh:∀{s:List As} {id:Int} {t:Ty},kA s id=some t→∃a∈s,a.ty=t
 | a::r,id,t,h=>by
   simp only [kA] at h;split at h
   · cases h;exact ⟨a,by simp,rfl⟩
   · obtain ⟨b,hb,e⟩:=mh h;exact ⟨b,by simp [hb],e⟩
theorem B7 {s:List As} (hs:∀a∈s,a.ty.Ok) {t:Ty} (h:t.Ok):(t.sub s).Ok:=by
 revert h
 refine Ty.eU (p:=fun t=>t.Ok→(t.sub s).Ok) ?_ t;intro t ih h;rw [Ty.sub_eq];split
 · cases hf:kA s t.id with
   | none=>simpa using h
   | some a=>obtain ⟨b,hb,rfl⟩:=mh hf;simpa using hs b hb
 · refine ⟨by have:=h.sm;unfold Sm at *;simpa using this,?_⟩;intro x hx;simp at hx;obtain ⟨y,hy,rfl⟩:=hx;exact ih y hy (h.g_ y hy)
theorem wi:∀{a b:List As} {id:Int},kA (a++b) id=(kA a id).or (kA b id)
 | [],b,id=>by simp [kA]
 | x::a,b,id=>by
   simp only [List.cons_append,kA];split
   · rfl
   · exact wi
def dz {α:Type} (p:α→Bool):List α→Option Nat
 | []=>none
 | a::r=>if p a=true then some 0 else (dz p r).map (·+1)
theorem mi {α:Type} {p:α→Bool}:∀{l:List α},dz p l=none↔∀x∈l,p x=false
 | []=>by simp [dz]
 | a::r=>by
   simp only [dz];by_cases h:p a=true
   · simp [h]
   · have h:p a=false:=(by simpa using h);simp [h,mi]
structure El {α:Type} (f:α→PV) (sz:Nat) (ag:Bool):Prop where
 len:∀x,(bw (f x)).length=sz
 of:∀x,df ag sz (bw (f x))=some (.pv (f x))
theorem El.head {α:Type} {f:α→PV} {sz:Nat} {ag:Bool} (h:El f sz ag) (l:List α):bC sz (l.map f)=true:=by
 cases l with
 | nil=>rfl
 | cons x r=>simp [bC,h.len x]
theorem kB:El vI 1 false:=⟨fun _=>rfl,fun _=>rfl⟩
theorem lK:El PV.str 1 false:=⟨fun _=>rfl,fun _=>rfl⟩
theorem CU:El Ty.pv 5 true:=⟨fun x=>by simp,fun x=>by simp⟩
def FZ (sz:Nat) (ag:Bool):au:=
 (.seq
  (.bl [⟨some 9,none,[.t 8,.t 7],.v (.bin .lss)⟩] [0,1,7,8,9])
  (.seq
   (.cond (.t 9)
    .skip
    (.exit 0))
   (.seq
    (.block 1
     (.seq
      (.bl [⟨some 10,none,[.t 8],.v (.mv)⟩,
        ⟨some 5,none,[.t 10],.v (.mv)⟩] [0,1,5,7,8])
      (.seq
       (.bl [⟨some 11,none,[.t 1],.v (.mv)⟩,
         ⟨some 12,none,[.t 0],.v (.mv)⟩,
         ⟨some 13,none,[.t 5],.v (.mv)⟩,
         ⟨some 14,none,[.t 12,.t 13],.v (.aA sz)⟩,
         ⟨some 15,none,[.t 14],.bg sz ag⟩,
         ⟨some 16,none,[.t 11,.t 15],.eV⟩] [0,1,5,7,8,16])
       (.cond (.t 16)
        (.seq
         (.bl [⟨some 17,none,[.t 5],.v (.mv)⟩,
           ⟨some 4,none,[.t 17],.v (.mv)⟩] [4])
         .ret)
        .skip))))
    (.bl [⟨some 18,none,[.t 8,.c (.pv (.int .i64 1))],.v (.bin .add)⟩,
      ⟨some 8,none,[.t 18],.v (.mv)⟩] [0,1,7,8]))))
def KQ (sz:Nat) (ag:Bool):au:=.loop [0,1,7,8] (FZ sz ag)
theorem wj {sz:Nat} {ag:Bool} {st:St}:cl AP (KQ sz ag) st=after (cl AP (KQ sz ag)) (cl AP (FZ sz ag) (norm (restrict [0,1,7,8] st))):=aF
def B8 (sz:Nat) (ag:Bool):aD:=⟨2,19,[.t 4],
 (.seq
  (.bl [⟨some 4,none,[.c (.pv (.int .i64 0))],.v (.mv)⟩] [0,1])
  (.seq
   (.seq
    (.bl [⟨some 6,none,[.t 0],.v (.mv)⟩,
      ⟨some 7,none,[.t 6],.v (.len)⟩,
      ⟨some 8,none,[.c (.pv (.int .i64 0))],.v (.mv)⟩] [0,1,7,8])
    (.block 0
     (KQ sz ag)))
   (.seq
    (.bl [⟨some 4,none,[.c (.pv (.int .i64 (-1)))],.v (.mv)⟩] [4])
    .ret))),none,false⟩
def Rs {α:Type} (f:α→PV) (F:AV) (s:List α) (sh:Sh) (i:Nat):Option Nat→Option (bH×St)
 | some k=>some (.ret,⟨[(4,.pv (vI (i+k:Nat)))],[],sh,[]⟩)
 | none=>some (.exit 0,⟨[(0,.pv (.aI (s.map f))),(1,F),(7,.pv (vI s.length)),(8,.pv (vI s.length)),(9,.pv (.bool false))],[],sh,[]⟩)
def mB (o:Option Nat):Int:=match o with | some k=>k | none=>-1
theorem y1 {α:Type} {p:α→Bool} {s:List α}:decide (0≤mB (dz p s))=s.any p:=by
 cases hi:dz p s with
 | none=>
   have:s.any p=false:=by rw [List.any_eq_false];intro x hx;rw [mi.1 hi x hx];simp
   rw [this];rfl
 | some k=>
   have:s.any p=true:=by
     cases e:s.any p with
     | true=>rfl
     | false=>rw [List.any_eq_false] at e;have:=mi.2 (fun x hx=>by simpa using e x hx);rw [hi] at this;cases this
   rw [this];simp [mB]
inductive Ty.Nm:Ty→Prop
 | mk {t:Ty}:Rr t.name→(∀x∈t.args,Ty.Nm x)→Ty.Nm t
abbrev Sc:=As
structure En where
 name:List UInt8
 sc:Sc
 deriving Inhabited
def En.pv (a:En):PV:=.agg [.str a.name,.int .i64 a.sc.id,.int .i64 a.sc.ty.kind,.str a.sc.ty.name,.int .i64 a.sc.ty.id,.int .i64 a.sc.ty.home,.aI (a.sc.ty.args.map Ty.pv)]
@[simp] theorem En.lI (a:En):a.pv=.agg [.str a.name,.int .i64 a.sc.id,.int .i64 a.sc.ty.kind,.str a.sc.ty.name,.int .i64 a.sc.ty.id,.int .i64 a.sc.ty.home,.aI (a.sc.ty.args.map Ty.pv)]:=rfl
@[simp] theorem En.eta (t:En):En.mk t.name t.sc=t:=rfl
theorem O2:El En.pv 7 true:=⟨fun x=>by simp,fun x=>by simp⟩
noncomputable instance:DecidableEq En:=fun _ _=>Classical.propDecidable _
@[simp] theorem N1 {l:List En}:bC 7 (l.map En.pv)=true:=O2.head l
def lL:Sc:=⟨0,⟨0,[],0,0,[]⟩⟩
def CV:List En→List UInt8→Option Sc
 | [],_=>none
 | a::r,s=>match CV r s with
   | some c=>some c
   | none=>if a.name=s then some a.sc else none
theorem Ix (l:List En) (a:En) (s:List UInt8):CV (l++[a]) s=if a.name=s then some a.sc else CV l s:=by
 induction l with
 | nil=>simp [CV]
 | cons b r ih=>
   simp only [List.cons_append,CV,ih];by_cases h:a.name=s
   · simp [h]
   · simp [h]
def KR (o:Option Sc):List PV:=[(o.getD lL).pv,.bool o.isSome]
theorem O3 {l:List En} (hS:Sm l) {s:List UInt8}:∀(k:Nat),k≤l.length →
   cl AP g181L0 ⟨[(0,.pv (.aI (l.map En.pv))),(1,.pv (.str s)),(4,.aG 4 0),(6,.pv (vI ((k:Int)-1)))],[(4,[.pv (vI 0),.pv (vI 0),.pv (.str []),.pv (vI 0),.pv (vI 0),.own [] 0])],[],[0]⟩ =
     match CV (l.take k) s with
     | some c=>some (.ret,⟨[(4,.aG 4 0),(5,.pv (.bool true))],[(4,[.pv (vI c.id),.pv (vI c.ty.kind),.pv (.str c.ty.name),.pv (vI c.ty.id),.pv (vI c.ty.home),.pv (.aI (c.ty.args.map Ty.pv))])],[],[0]⟩)
     | none=>some (.exit 0,⟨[(0,.pv (.aI (l.map En.pv))),(1,.pv (.str s)),(4,.aG 4 0),(6,.pv (vI (-1))),(11,.pv (.bool false))],[(4,[.pv (vI 0),.pv (vI 0),.pv (.str []),.pv (vI 0),.pv (vI 0),.own [] 0])],[],[0]⟩)
 | 0,_=>by
   rw [g181L0e];simp [g181B0,CV]
 | k+1,hk=>by
   obtain ⟨x,hx⟩:=bD (l:=l) (i:=k) (by omega);have ih:=O3 hS (s:=s) k (by omega);unfold Sm at hS;have e1:((k+1:Nat):Int)-1=k:=by omega
   rw [g181L0e,e1,List.take_add_one,hx];simp only [Option.toList_some,Ix];by_cases e:x.name=s
   · simp (disch:=omega) [-getElem?_pos,g181B0,hx,e]
   · simp (disch:=omega) [-getElem?_pos,g181B0,hx,e,az];simpa using ih
theorem c181 {l:List En} (hS:Sm l) {s:List UInt8}:(aP AP).p 181 [.aI (l.map En.pv),.str s]=some (KR (CV l s)):=by
 have h:=O3 hS (s:=s) l.length (Nat.le_refl _);unfold Sm at hS;rw [aw (af:=g181) rfl rfl (by decide)];rw [List.take_length] at h;rw [g181L0e] at h;cases e:CV l s with
 | none=>
   rw [e] at h;simp at h;simp (disch:=omega) [g181,az,g181L0e,h,KR,lL]
 | some c=>
   rw [e] at h;simp at h;simp (disch:=omega) [g181,az,g181L0e,h,KR]
section
variable {P:Program} {n:Nat} {t e:TypeId} {p:PV}
theorem wm (hu:P.underlying t=some (.int .i64)) (h:sb P n t p):∃i,p=vI i:=by
 cases n with
 | zero=>simp [sb] at h
 | succ n=>simp only [sb,hu] at h;obtain ⟨i,rfl,_⟩:=h;exact ⟨i,rfl⟩
theorem Iy (hu:P.underlying t=some (.int .i64)) (h:sb P n t p):∃i,i≤9223372036854775807∧p=vI i:=by
 cases n with
 | zero=>simp [sb] at h
 | succ n=>
   simp only [sb,hu] at h;obtain ⟨i,rfl,hw⟩:=h;refine ⟨i,?_,rfl⟩;simp [Lit.wf,IntKind.min,IntKind.max,IntKind.signed,IntKind.bits] at hw;omega
theorem Iz {α:Type} {f:α→PV} (hu:P.underlying t=some (.slice e)) (he:∀(m:Nat) (q:PV),sb P m e q→∃x,q=f x) (h:sb P n t p):∃l:List α,p=.aI (l.map f):=by
 cases n with
 | zero=>simp [sb] at h
 | succ n=>
   simp only [sb,hu] at h;obtain ⟨els,rfl,_,h⟩:=h
   have key:∀els:List PV,(∀q∈els,sb P n e q)→∃l:List α,els=l.map f:=by
     intro els;induction els with
     | nil=>intro _;exact ⟨[],rfl⟩
     | cons q r ih=>
       intro h;obtain ⟨x,rfl⟩:=he n q (h q (by simp));obtain ⟨l,rfl⟩:=ih (fun q hq=>h q (by simp [hq]));exact ⟨x::l,rfl⟩
   obtain ⟨l,rfl⟩:=key els h;exact ⟨l,rfl⟩
theorem IA (hu:P.underlying t=some (.slice e)) (he:P.underlying e=some (.int .i64)) (h:sb P n t p):∃L:List Int,p=.aI (L.map vI):=
 Iz hu (fun _ _ h=>wm he h) h
end
end Go.Ab.Lw
namespace Go.Ab.Lw
open Ev
def n_ (s:List UInt8):Ty:=⟨5,s,0,0,[]⟩
theorem c106 {s:List UInt8}:(aP AP).p 106 [.str s]=some [(n_ s).pv]:=by
 rw [aw (af:=g106) rfl rfl (by decide)];simp [g106,n_]
def lM:List Ty:=[n_ [97],n_ [98],n_ [99]]
theorem c67:(aP AP).p 67 []=some [.aI (lM.map Ty.pv)]:=by
 have h1:=c106 (s:=[97]);have h2:=c106 (s:=[98]);have h3:=c106 (s:=[99]);simp at h1 h2 h3;rw [aw (af:=g67) rfl rfl (by decide)];simp [g67,h1,h2,h3,lM]
def O4:au:=
 (.seq
  (.bl [⟨some 9,none,[.t 8,.t 7],.v (.bin .lss)⟩] [0,1,7,8,9])
  (.seq
   (.cond (.t 9)
    .skip
    (.exit 0))
   (.seq
    (.block 1
     (.seq
      (.bl [⟨some 10,none,[.t 8],.v (.mv)⟩,
        ⟨some 5,none,[.t 10],.v (.mv)⟩] [0,1,5,7,8])
      (.seq
       (.bl [⟨some 11,none,[.t 1],.v (.mv)⟩,
         ⟨some 12,none,[.t 0],.v (.mv)⟩,
         ⟨some 13,none,[.t 5],.v (.mv)⟩,
         ⟨some 14,none,[.t 12,.t 13],.v (.aA 1)⟩,
         ⟨some 15,none,[.t 14],.v (.bG 1 false)⟩,
         ⟨some 16,none,[.t 11,.t 15],.v (.bin .eql)⟩] [0,1,5,7,8,16])
       (.cond (.t 16)
        (.seq
         (.bl [⟨some 17,none,[.t 5],.v (.mv)⟩,
           ⟨some 4,none,[.t 17],.v (.mv)⟩] [4])
         .ret)
        .skip))))
    (.bl [⟨some 18,none,[.t 8,.c (.pv (.int .i64 1))],.v (.bin .add)⟩,
      ⟨some 8,none,[.t 18],.v (.mv)⟩] [0,1,7,8]))))
def Qw:au:=.loop [0,1,7,8] O4
theorem IB {st:St}:cl AP Qw st=after (cl AP Qw) (cl AP O4 (norm (restrict [0,1,7,8] st))):=aF
def O5:aD:=⟨2,19,[.t 4],
 (.seq
  (.bl [⟨some 4,none,[.c (.pv (.int .i64 0))],.v (.mv)⟩] [0,1])
  (.seq
   (.seq
    (.bl [⟨some 6,none,[.t 0],.v (.mv)⟩,
      ⟨some 7,none,[.t 6],.v (.len)⟩,
      ⟨some 8,none,[.c (.pv (.int .i64 0))],.v (.mv)⟩] [0,1,7,8])
    (.block 0
     Qw))
   (.seq
    (.bl [⟨some 4,none,[.c (.pv (.int .i64 (-1)))],.v (.mv)⟩] [4])
    .ret))),none,false⟩
def QS (g:Nat):aD:=⟨2,9,[.t 4],
 (.seq
  (.bl [⟨some 4,none,[.c (.pv (.bool false))],.v (.mv)⟩] [0,1])
  (.seq
   (.bl [⟨some 5,none,[.t 0],.v (.mv)⟩,
     ⟨some 6,none,[.t 1],.v (.mv)⟩,
     ⟨some 7,none,[.t 5,.t 6],.aq g⟩,
     ⟨some 8,none,[.t 7,.c (.pv (.int .i64 0))],.v (.bin .geq)⟩,
     ⟨some 4,none,[.t 8],.v (.mv)⟩] [4])
   .ret)),none,false⟩
structure Qx {α:Type} [DecidableEq α] (f:α→PV):Prop where
 el:El f 1 false
 eq:∀x y,cf (.bin .eql) [.pv (f x),.pv (f y)]=some (.pv (.bool (decide (x=y))))
theorem KU:Qx PV.str:=⟨lK,fun x y=>by simp;rw [Bool.eq_iff_iff];simp⟩
def N2 {α:Type} (f:α→PV) (s:List α) (y:α) (i:Nat):Option Nat→Option (bH×St)
 | some k=>some (.ret,⟨[(4,.pv (vI (i+k:Nat)))],[],[],[]⟩)
 | none=>some (.exit 0,⟨[(0,.pv (.aI (s.map f))),(1,.pv (f y)),(7,.pv (vI s.length)),(8,.pv (vI s.length)),(9,.pv (.bool false))],[],[],[]⟩)
theorem Rd {α:Type} [DecidableEq α] {f:α→PV} (he:Qx f) {s:List α} (hS:Sm s) (y:α):∀(n i:Nat),s.length-i=n→i≤s.length →
   cl AP Qw ⟨[(0,.pv (.aI (s.map f))),(1,.pv (f y)),(7,.pv (vI s.length)),(8,.pv (vI i))],[],[],[]⟩=N2 f s y i (dz (fun x=>decide (y=x)) (s.drop i))
 | 0,i,hn,hi=>by
   have:i=s.length:=by omega
   subst this;rw [IB];simp [O4,dz,N2]
 | n+1,i,hn,hi=>by
   have hi:i<s.length:=(by omega);obtain ⟨x,hx⟩:=bD hi;unfold Sm at hS;have ih:=Rd he hS y n (i+1) (by omega) (by omega);simp at ih;have h1:=he.el.len x;have h2:=he.el.of x;have h3:=he.eq y x;rw [IB,cp hx];by_cases e:y=x
   · rw [decide_eq_true e] at h3;simp (disch:=omega) [-getElem?_pos,O4,hx,hi,e,dz,N2,h1,h2];rw [←e] at h3 ⊢;simp [h3]
   · rw [decide_eq_false e] at h3;simp (disch:=omega) [-getElem?_pos,O4,hx,hi,e,dz,az,ih,h1,h2,h3];cases dz (fun x=>decide (y=x)) (s.drop (i+1)) with
     | none=>rfl
     | some k=>simp [N2];omega
theorem Rt {α:Type} [DecidableEq α] {f:α→PV} (he:Qx f) {k:Nat} (hk:AP k=some O5) {s:List α} (hS:Sm s) {y:α}:(aP AP).p k [.aI (s.map f),f y]=some [vI (mB (dz (fun x=>decide (y=x)) s))]:=by
 have h:=Rd he hS y _ 0 rfl (by omega);simp at h;rw [aw hk rfl (by simp [O5])];cases hi:dz (fun x=>decide (y=x)) s with
 | none=>rw [hi] at h;simp [N2] at h;simp [O5,h,mB]
 | some k=>rw [hi] at h;simp [N2] at h;simp [O5,h,mB]
theorem KX {α:Type} [DecidableEq α] {s:List α} {y:α}:(s.any fun x=>decide (y=x))=decide (y∈s):=by
 rw [Bool.eq_iff_iff];simp
theorem Ru {α:Type} [DecidableEq α] {f:α→PV} (he:Qx f) {m k:Nat} (hm:AP m=some (QS k)) (hk:AP k=some O5) {s:List α} (hS:Sm s) {y:α}:(aP AP).p m [.aI (s.map f),f y]=some [.bool (decide (y∈s))]:=by
 have h:=Rt he hk hS (y:=y);rw [aw hm rfl (by simp [QS]),←KX,←y1];simp [QS,h]
theorem Re {s:List Int} (hS:Sm s) (y:Int):∀(n i:Nat),s.length-i=n→i≤s.length →
   cl AP g95L0 ⟨[(0,.pv (.aI (s.map vI))),(1,.pv (vI y)),(5,.pv (vI i))],[],[],[]⟩ =
     if y∈s.drop i then some (.ret,⟨[(4,.pv (.bool true))],[],[],[]⟩) else some (.exit 0,⟨[(0,.pv (.aI (s.map vI))),(1,.pv (vI y)),(5,.pv (vI s.length)),(9,.pv (.bool false))],[],[],[]⟩)
 | 0,i,hn,hi=>by
   have:i=s.length:=by omega
   subst this;rw [g95L0e];simp [g95B0]
 | n+1,i,hn,hi=>by
   have hi:i<s.length:=(by omega);obtain ⟨x,hx⟩:=bD hi;unfold Sm at hS;have ih:=Re hS y n (i+1) (by omega) (by omega);simp at ih;rw [g95L0e,cp hx];by_cases e:x=y
   · simp (disch:=omega) [-getElem?_pos,g95B0,hx,hi,e]
   · have e':¬y=x:=fun h=>e h.symm
     simp (disch:=omega) [-getElem?_pos,g95B0,hx,hi,e,e',az,ih]
theorem c95 {s:List Int} (hS:Sm s) {y:Int}:(aP AP).p 95 [.aI (s.map vI),vI y]=some [.bool (decide (y∈s))]:=by
 have h:=Re hS y _ 0 rfl (by omega);simp at h;rw [aw (af:=g95) rfl rfl (by decide)];by_cases e:y∈s<;>simp [g95,h,e]
mutual
def Ty.nodes:Ty→List Ty
 | ⟨k,n,i,h,as⟩=>⟨k,n,i,h,as⟩::Ty.sv as
def Ty.sv:List Ty→List Ty
 | []=>[]
 | a::r=>a.nodes++Ty.sv r
end
theorem Ty.uz:∀l:List Ty,Ty.sv l=l.flatMap Ty.nodes
 | []=>by simp [Ty.sv]
 | a::r=>by simp [Ty.sv,Ty.uz r]
theorem Ty.bh (t:Ty):t.nodes=t::t.args.flatMap Ty.nodes:=by cases t;simp only [Ty.nodes,Ty.uz]
theorem gH {α:Type} [DecidableEq α]:∀{l S:List α},l.Nodup→(∀x∈l,x∈S)→l.length≤S.length
 | [],_,_,_=>by simp
 | x::r,S,hn,h=>by
   have hx:=h x (by simp)
   have hr:=gH (l:=r) (S:=S.erase x) (List.nodup_cons.1 hn).2 (fun y hy=>by
     rw [List.mem_erase_of_ne]
     · exact h y (by simp [hy])
     · rintro rfl;exact (List.nodup_cons.1 hn).1 hy)
   have:=List.length_erase_of_mem hx;have:0<S.length:=List.length_pos_of_mem hx;simp;omega
def eH (out:List Int) (x:Ty):List Int:=if x.kind=1∧x.id∉out then out++[x.id] else out
structure kX (S out:List Int):Prop where
 nodup:out.Nodup
 sub:∀x∈out,x∈S
 F1:S.length<1099511627776
theorem kX.len {S out:List Int} (h:kX S out):Sm out:=by
 have:=gH h.nodup h.sub;have:=h.F1;unfold Sm;omega
theorem kX.add {S out:List Int} (h:kX S out) {x:Ty} (hx:x.kind=1→x.id∈S):kX S (eH out x):=by
 unfold eH;split
 · rename_i e;refine ⟨?_,?_,h.F1⟩
   · rw [List.nodup_append];refine ⟨h.nodup,by simp,?_⟩;intro a ha b hb;simp at hb;subst hb
     rintro rfl;exact e.2 ha
   · intro y hy;simp at hy;rcases hy with hy | rfl
     · exact h.sub y hy
     · exact hx e.1
 · exact h
theorem kX.fold {S:List Int}:∀{l:List Ty} {out:List Int},kX S out→(∀x∈l,x.kind=1→x.id∈S)→kX S (l.foldl eH out)
 | [],_,h,_=>h
 | x::r,out,h,hx=>by
   simp only [List.foldl_cons];exact kX.fold (h.add (hx x (by simp))) (fun y hy=>hx y (by simp [hy]))
def vars (l:List Ty):List Int:=(l.flatMap Ty.nodes).foldl eH []
theorem sA {S:List Int} (h:S.length<1099511627776):kX S []:=⟨by simp,by simp,h⟩
mutual
def Ty.fe (k:Int):Ty→List Ty
 | ⟨kd,n,i,h,as⟩=>if kd=k∧as.length=0 then [⟨kd,n,i,h,as⟩] else Ty.IC k as
def Ty.IC (k:Int):List Ty→List Ty
 | []=>[]
 | a::r=>a.fe k++Ty.IC k r
end
theorem Ty.CW (k:Int):∀l:List Ty,Ty.IC k l=l.flatMap (Ty.fe k)
 | []=>by simp [Ty.IC]
 | a::r=>by simp [Ty.IC,Ty.CW k r]
theorem Ty.lN (k:Int) (t:Ty):t.fe k=if t.kind=k∧t.args.length=0 then [t] else t.args.flatMap (Ty.fe k):=by cases t;simp only [Ty.fe,Ty.CW]
noncomputable def gU (out:List Ty) (x:Ty):List Ty:=if x∈out then out else out++[x]
structure gm (S out:List Ty):Prop where
 nodup:out.Nodup
 sub:∀x∈out,x∈S
 F1:S.length<1099511627776
 ok:∀x∈S,x.Ok
theorem gm.len {S out:List Ty} (h:gm S out):Sm out:=by
 have:=gH h.nodup h.sub;have:=h.F1;unfold Sm;omega
theorem gm.add {S out:List Ty} (h:gm S out) {x:Ty} (hx:x∈S):gm S (gU out x):=by
 unfold gU;split
 · exact h
 · rename_i e;refine ⟨?_,?_,h.F1,h.ok⟩
   · rw [List.nodup_append];refine ⟨h.nodup,by simp,?_⟩;intro a ha b hb;simp at hb;subst hb
     rintro rfl;exact e ha
   · intro y hy;simp at hy;rcases hy with hy | rfl
     · exact h.sub y hy
     · exact hx
theorem gm.fold {S:List Ty}:∀{l:List Ty} {out:List Ty},gm S out→(∀x∈l,x∈S)→gm S (l.foldl gU out)
 | [],_,h,_=>h
 | x::r,out,h,hx=>by
   simp only [List.foldl_cons];exact gm.fold (h.add (hx x (by simp))) (fun y hy=>hx y (by simp [hy]))
theorem O6 {S out:List Ty} (h:gm S out) (t:Ty):∀(n i:Nat),out.length-i=n→i≤out.length →
   cl AP g99L0 ⟨[(0,.own (out.map Ty.pv) 0),(4,.aG 4 0),(7,.pv (vI i))],[(4,[.pv (vI t.kind),.pv (.str t.name),.pv (vI t.id),.pv (vI t.home),.pv (.aI (t.args.map Ty.pv))])],[],[out.length]⟩ =
     if t∈out.drop i then some (.ret,⟨[(6,.own (out.map Ty.pv) 0)],[],[],[out.length]⟩)
     else some (.exit 0,⟨[(0,.own (out.map Ty.pv) 0),(4,.aG 4 0),(7,.pv (vI out.length)),(22,.pv (.bool false))],[(4,[.pv (vI t.kind),.pv (.str t.name),.pv (vI t.id),.pv (vI t.home),.pv (.aI (t.args.map Ty.pv))])],[],[out.length]⟩)
 | 0,i,hn,hi=>by
   have:i=out.length:=by omega
   subst this;rw [g99L0e];simp [g99B0]
 | n+1,i,hn,hi=>by
   have hi:i<out.length:=(by omega);obtain ⟨x,hx⟩:=bD hi;have hS:=h.len;unfold Sm at hS;have k:=c20 (b:=t) (h.ok x (h.sub x (bt hx)));have ih:=O6 h t n (i+1) (by omega) (by omega);rw [g99L0e] at ih ⊢;rw [cp hx];simp at ih k;by_cases e:x=t
   · subst e;rw [decide_eq_true rfl] at k;simp (disch:=omega) [-getElem?_pos,g99B0,hx,hi,k]
   · have e':¬t=x:=fun h=>e h.symm
     rw [decide_eq_false e] at k;simp (disch:=omega) [-getElem?_pos,g99B0,hx,hi,k,e',az];rw [g99L0e];simp [ih]
theorem O7 {S:List Ty} {kd:Int} {t:Ty} (hS:Sm t.args) (h:∀x∈t.args,∀out,gm S out→(aP AP).i 99 [.own (out.map Ty.pv) 0,.pv x.pv,.pv (vI kd)] [] [out.length]=some ([.own (((x.fe kd).foldl gU out).map Ty.pv) 0],[],[((x.fe kd).foldl gU out).length]))
   (hk:∀x∈t.args.flatMap (Ty.fe kd),x∈S):∀(n i:Nat),t.args.length-i=n→i≤t.args.length→∀out,gm S out →
   cl AP g99L1 ⟨[(0,.own (out.map Ty.pv) 0),(2,.pv (vI kd)),(4,.aG 4 0),(8,.pv (vI i))],[(4,[.pv (vI t.kind),.pv (.str t.name),.pv (vI t.id),.pv (vI t.home),.pv (.aI (t.args.map Ty.pv))])],[],[out.length]⟩ =
     some (.exit 2,⟨[(0,.own ((((t.args.drop i).flatMap (Ty.fe kd)).foldl gU out).map Ty.pv) 0),(2,.pv (vI kd)),(4,.aG 4 0),(8,.pv (vI t.args.length)),(40,.pv (.bool false))],[(4,[.pv (vI t.kind),.pv (.str t.name),.pv (vI t.id),.pv (vI t.home),.pv (.aI (t.args.map Ty.pv))])],[],[(((t.args.drop i).flatMap (Ty.fe kd)).foldl gU out).length]⟩)
 | 0,i,hn,hi,out,hc=>by
   have:i=t.args.length:=by omega
   subst this;rw [g99L1e];simp [g99B1]
 | n+1,i,hn,hi,out,hc=>by
   have hi:i<t.args.length:=(by omega);obtain ⟨x,hx⟩:=bD hi;unfold Sm at hS;have hkx:∀y∈x.fe kd,y∈S:=fun y hy=>hk y (by simp only [List.mem_flatMap];exact ⟨x,bt hx,hy⟩)
   have k:=h x (bt hx) out hc;have ih:=O7 hS h hk n (i+1) (by omega) (by omega) _ (hc.fold hkx);rw [g99L1e] at ih ⊢;rw [cp hx];simp at k ih;simp (disch:=omega) [-getElem?_pos,g99B1,hx,hi,k,az];rw [g99L1e];simp [ih]
theorem c99 {S:List Ty} {kd:Int} {t:Ty} (hO:t.Ok) (hk:∀x∈t.fe kd,x∈S):∀out,gm S out →
   (aP AP).i 99 [.own (out.map Ty.pv) 0,.pv t.pv,.pv (vI kd)] [] [out.length]=some ([.own (((t.fe kd).foldl gU out).map Ty.pv) 0],[],[((t.fe kd).foldl gU out).length]):=by
 revert hO hk
 refine Ty.eU (p:=fun t=>t.Ok→(∀x∈t.fe kd,x∈S)→∀out,gm S out →
   (aP AP).i 99 [.own (out.map Ty.pv) 0,.pv t.pv,.pv (vI kd)] [] [out.length]=some ([.own (((t.fe kd).foldl gU out).map Ty.pv) 0],[],[((t.fe kd).foldl gU out).length])) ?_ t
 intro t ih hO hk out hc;rw [Ty.lN] at hk ⊢;have hl:=hc.len;unfold Sm at hl;have hb:(out.length+1)*64≤140737488355328:=by omega
 rw [aR (af:=g99) rfl (by simp [g99])];by_cases e:t.kind=kd∧t.args.length=0
 · rw [if_pos e] at hk ⊢;obtain ⟨e1,e2⟩:=e;subst e1;have e3:t.args=[]:=by simpa using e2
   have h:=O6 hc t _ 0 rfl (by omega);rw [g99L0e] at h;simp [e3] at h;by_cases em:t∈out
   · simp [em] at h;have ea:gU out t=out:=by simp [gU,em]
     simp [g99,e3,g99L0e,h,ea]
   · simp [em] at h;have ea:gU out t=out++[t]:=by simp [gU,em]
     simp [g99,e3,g99L0e,h,ea,hb]
 · rw [if_neg e] at hk ⊢;have h:=O7 (S:=S) (kd:=kd) hO.sm (fun x hx out hc=>ih x hx (hO.g_ x hx) (fun y hy=>hk y (by simp only [List.mem_flatMap];exact ⟨x,hx,hy⟩)) out hc) hk _ 0 rfl (by omega) out hc;rw [g99L1e] at h;simp at h;by_cases e1:t.kind=kd
   · have e2:¬t.args.length=0:=fun h=>e ⟨e1,h⟩
     have e3:¬t.args=[]:=(by simpa using e2);subst e1;simp [g99,e2,e3,g99L1e,h]
   · simp [g99,e1,g99L1e,h]
def oZ (out:List Int) (x:Ty):List Int:=if x.id∈out then out else out++[x.id]
noncomputable def mj (l:List Ty):List Int:=((l.flatMap (Ty.fe 1)).foldl gU []).foldl oZ []
theorem O8 {S:List Ty} {l:List Ty} (hS:Sm l) (hO:∀t∈l,t.Ok) (hk:∀x∈l.flatMap (Ty.fe 1),x∈S):∀(n i:Nat),l.length-i=n→i≤l.length→∀out,gm S out →
   cl AP g56L0 ⟨[(0,.pv (.aI (l.map Ty.pv))),(3,.own (out.map Ty.pv) 0),(4,.pv (vI i))],[],[],[out.length]⟩ =
     some (.exit 0,⟨[(0,.pv (.aI (l.map Ty.pv))),(3,.own ((((l.drop i).flatMap (Ty.fe 1)).foldl gU out).map Ty.pv) 0),(4,.pv (vI l.length)),(10,.pv (.bool false))],[],[],[(((l.drop i).flatMap (Ty.fe 1)).foldl gU out).length]⟩)
 | 0,i,hn,hi,out,hc=>by
   have:i=l.length:=by omega
   subst this;rw [g56L0e];simp [g56B0]
 | n+1,i,hn,hi,out,hc=>by
   have hi:i<l.length:=(by omega);obtain ⟨x,hx⟩:=bD hi;unfold Sm at hS;have hkx:∀y∈x.fe 1,y∈S:=fun y hy=>hk y (by simp only [List.mem_flatMap];exact ⟨x,bt hx,hy⟩)
   have k:=c99 (kd:=1) (hO x (bt hx)) hkx out hc;have ih:=O8 hS hO hk n (i+1) (by omega) (by omega) _ (hc.fold hkx);rw [g56L0e] at ih ⊢;rw [cp hx];simp at k ih;simp (disch:=omega) [-getElem?_pos,g56B0,hx,hi,k,az];rw [g56L0e];simp [ih]
theorem ID {l:List Ty} {out:List Int}:(l.foldl oZ out).length≤out.length+l.length:=by
 induction l generalizing out with
 | nil=>simp
 | cons x r ih=>
   simp only [List.foldl_cons,List.length_cons];have:=ih (out:=oZ out x);have h2:(oZ out x).length≤out.length+1:=by unfold oZ;split<;>simp
   omega
theorem M8 {S l:List Ty} (hc:gm S l):∀(n i:Nat),l.length-i=n→i≤l.length→∀out:List Int,out.length≤i →
   cl AP g56L1 ⟨[(3,.own (l.map Ty.pv) 0),(5,.own (out.map vI) 1),(6,.pv (vI i))],[],[],[l.length,out.length]⟩ =
     some (.exit 2,⟨[(3,.own (l.map Ty.pv) 0),(5,.own (((l.drop i).foldl oZ out).map vI) 1),(6,.pv (vI l.length)),(22,.pv (.bool false))],[],[],[l.length,((l.drop i).foldl oZ out).length]⟩)
 | 0,i,hn,hi,out,ho=>by
   have:i=l.length:=by omega
   subst this;rw [g56L1e];simp [g56B1]
 | n+1,i,hn,hi,out,ho=>by
   have hi:i<l.length:=(by omega);obtain ⟨x,hx⟩:=bD hi;have hS:=hc.len;unfold Sm at hS;have k:=c95 (s:=out) (by unfold Sm;omega) (y:=x.id);have hb:(out.length+1)*8≤140737488355328:=(by omega);have hh:bC 1 (out.map vI)=true:=kB.head out;rw [cp hx];by_cases e:x.id∈out
   · have ih:=M8 hc n (i+1) (by omega) (by omega) out (by omega);have ea:oZ out x=out:=(by simp [oZ,e]);rw [g56L1e] at ih ⊢;rw [decide_eq_true e] at k;simp at ih;simp (disch:=omega) [-getElem?_pos,g56B1,hx,hi,k,az];rw [g56L1e];simp [ih,ea]
   · have ih:=M8 hc n (i+1) (by omega) (by omega) (out++[x.id]) (by simp;omega);have ea:oZ out x=out++[x.id]:=(by simp [oZ,e]);rw [g56L1e] at ih ⊢;rw [decide_eq_false e] at k;simp at ih;simp (disch:=omega) [-getElem?_pos,g56B1,hx,hi,k,az,hb,hh];rw [g56L1e];simp [ih,ea]
theorem c56 {S:List Ty} (hf:S.length<1099511627776) (hSo:∀x∈S,x.Ok) {l:List Ty} (hS:Sm l) (hO:∀t∈l,t.Ok) (hk:∀x∈l.flatMap (Ty.fe 1),x∈S):(aP AP).p 56 [.aI (l.map Ty.pv)]=some [.aI ((mj l).map vI)]:=by
 have c0:gm S []:=⟨by simp,by simp,hf,hSo⟩;have h1:=O8 hS hO hk _ 0 rfl (by omega) [] c0;have h2:=M8 (c0.fold (l:=l.flatMap (Ty.fe 1)) hk) _ 0 rfl (by omega) [] (by simp);rw [aw (af:=g56) rfl rfl (by decide)];rw [g56L0e] at h1;rw [g56L1e] at h2;simp at h1 h2;simp [g56,g56L0e,h1,g56L1e,h2,mj]
theorem F3 {t:Ty} (hW:t.Wf):∀out,t.nodes.foldl eH out=(t.fe 1).foldl eH out:=by
 revert hW
 refine Ty.eU (p:=fun t=>t.Wf→∀out,t.nodes.foldl eH out=(t.fe 1).foldl eH out) ?_ t;intro t ih hW out
 have flat:∀(as:List Ty),(∀x∈as,x∈t.args)→∀out,(as.flatMap Ty.nodes).foldl eH out=(as.flatMap (Ty.fe 1)).foldl eH out:=by
   intro as;induction as with
   | nil=>intro _ _;rfl
   | cons a r ihr=>
     intro h out;simp only [List.flatMap_cons,List.foldl_append];rw [ih a (h a (by simp)) (hW.g_ a (h a (by simp))),ihr (fun x hx=>h x (by simp [hx]))]
 rw [Ty.bh,Ty.lN];by_cases e:t.kind=1
 · have ea:=hW.var e;simp [e,ea]
 · have:eH out t=out:=by simp [eH,e]
   simp only [List.foldl_cons,this];rw [if_neg (fun h=>e h.1)];exact flat t.args (fun _ h=>h) out
theorem IE {k:Int} {t x:Ty} (h:x∈t.fe k):x.kind=k∧x.args=[]:=by
 revert h
 refine Ty.eU (p:=fun t=>x∈t.fe k→x.kind=k∧x.args=[]) ?_ t;intro t ih h;rw [Ty.lN] at h;split at h
 · rename_i e;simp at h;subst h;exact ⟨e.1,by simpa using e.2⟩
 · simp only [List.mem_flatMap] at h;obtain ⟨y,hy,hx⟩:=h;exact ih y hy hx
theorem IF {l:List Ty} {out:List Int} {x:Ty} (hk:x.kind=1) (h:x∈l):x.id∈l.foldl eH out:=by
 have mono:∀(l:List Ty) (out:List Int) (i:Int),i∈out→i∈l.foldl eH out:=by
   intro l;induction l with
   | nil=>intro out i h;exact h
   | cons y r ih=>
     intro out i h;simp only [List.foldl_cons];refine ih _ _ ?_;unfold eH;split<;>simp [h]
 induction l generalizing out with
 | nil=>simp at h
 | cons y r ih=>
   simp only [List.foldl_cons];simp at h;rcases h with rfl | h
   · refine mono _ _ _ ?_;unfold eH;split
     · simp
     · rename_i e;simp [hk] at e;exact e
   · exact ih h
theorem F4 (l:List Ty) (hk:∀x∈l,x.kind=1):∀acc:List Ty,(l.foldl gU acc).foldl eH []=l.foldl eH (acc.foldl eH []):=by
 induction l with
 | nil=>intro acc;rfl
 | cons x r ih=>
   intro acc;simp only [List.foldl_cons];rw [ih (fun y hy=>hk y (by simp [hy]))];congr 1;unfold gU;split
   · rename_i e;have:=IF (out:=[]) (hk x (by simp)) e;simp [eH,this]
   · simp
theorem F5 (l:List Ty) (hk:∀x∈l,x.kind=1):∀out,l.foldl oZ out=l.foldl eH out:=by
 induction l with
 | nil=>intro out;rfl
 | cons x r ih=>
   intro out;simp only [List.foldl_cons];rw [ih (fun y hy=>hk y (by simp [hy]))];congr 1;unfold oZ eH;have:=hk x (by simp);by_cases e:x.id∈out<;>simp [e,this]
theorem IG {l acc:List Ty} {x:Ty} (h:x∈l.foldl gU acc):x∈acc∨x∈l:=by
 induction l generalizing acc with
 | nil=>exact .inl h
 | cons y r ih=>
   simp only [List.foldl_cons] at h;rcases ih h with h | h
   · unfold gU at h;split at h
     · exact .inl h
     · simp at h;rcases h with h | rfl
       · exact .inl h
       · right;simp
   · right;simp [h]
theorem sB {l:List Ty} (hW:∀t∈l,t.Wf):mj l=vars l:=by
 have hk:∀x∈l.flatMap (Ty.fe 1),x.kind=1:=fun x hx=>by
   simp only [List.mem_flatMap] at hx;obtain ⟨t,_,h⟩:=hx;exact (IE h).1
 unfold mj vars;rw [F5 _ (fun x hx=>by rcases IG hx with h | h;simp at h;exact hk x h),F4 _ hk]
 have:∀(l:List Ty),(∀t∈l,t.Wf)→∀out,(l.flatMap (Ty.fe 1)).foldl eH out=(l.flatMap Ty.nodes).foldl eH out:=by
   intro l;induction l with
   | nil=>intro _ _;rfl
   | cons a r ih=>
     intro h out;simp only [List.flatMap_cons,List.foldl_append];rw [F3 (h a (by simp)),ih (fun t ht=>h t (by simp [ht]))]
 exact this l hW []
theorem c176 {t:Ty}:(aP AP).p 176 [t.pv]=some [(As.mk 0 t).pv]:=by
 rw [aw (af:=g176) rfl rfl (by decide)];simp [g176]
theorem c179 {l:List En} (hS:Sm l) {n:List UInt8} {c:Sc}:(aP AP).p 179 [.aI (l.map En.pv),.str n,c.pv]=some [.aI ((l++[En.mk n c]).map En.pv)]:=by
 unfold Sm at hS;have hb:(l.length+1)*88≤140737488355328:=by omega
 have hb':l.length*88≤140737488355328:=by omega
 rw [aw (af:=g179) rfl rfl (by decide)];cases l with
 | nil=>simp [g179]
 | cons a r=>
   simp at hb hb';simp [g179,hb,hb']
def dM:List En→List En
 | []=>[]
 | a::r=>if (r.any fun x=>decide (x.name=a.name))=true then dM r else a::dM r
theorem QT {sz:Nat} {l:List PV} {k:IntKind} {h:Int} (h0:0≤h) (h1:h≤l.length) (hs:bC sz l=true):cO false sz true false false [.pv (.aI l),.pv (.int k h)]=some (.pv (.aI (l.drop h.toNat))):=by
 simp [cO,cR,dZ,h0,h1,hs]
theorem any_none {r:List En} {a:En}:(r.any fun x=>decide (x.name=a.name))=true↔∃c,CV r a.name=some c:=by
 induction r with
 | nil=>simp [CV]
 | cons b r ih=>
   simp only [List.any_cons,Bool.or_eq_true,ih,CV,decide_eq_true_eq];cases h:CV r a.name with
   | some c=>simp
   | none=>by_cases e:b.name=a.name<;>simp [e]
theorem lO (l:List En):∀x∈dM l,x∈l:=by
 induction l with
 | nil=>simp [dM]
 | cons a r ih=>
   intro x hx;simp only [dM] at hx;split at hx
   · simp [ih x hx]
   · simp at hx;rcases hx with rfl | hx
     · simp
     · simp [ih x hx]
theorem sD (l:List En):(dM l).length≤l.length:=by
 induction l with
 | nil=>simp [dM]
 | cons a r ih=>
   simp only [dM];split<;>simp<;>omega
def varNames:List (List UInt8):=[[120],[121],[122],[102],[103],[118,49],[118,50],[105,100]]
def dc (ids:List Int):List Int→List As→List As
 | [],acc=>acc
 | v::r,acc=>dc ids r (if v∈ids then acc++[⟨v,cU acc.length⟩] else acc)
def oe (ids:List Int) (t:Ty) (vs:List Int):Sc:=⟨(dc ids vs []).length,t.sub (dc ids vs [])⟩
theorem M9 {t:Ty} {ids vs:List Int} (hS:Sm vs) (hi:Sm ids):∀(n i:Nat),vs.length-i=n→i≤vs.length→∀acc:List As,acc.length≤i →
   cl AP g208L0 ⟨[(1,.pv (.aI (ids.map vI))),(2,.aG 2 0),(4,.aG 4 0),(5,.pv (.aI (vs.map vI))),(6,.own (acc.map As.pv) 0),(7,.pv (vI i))],[(2,[.pv (vI t.kind),.pv (.str t.name),.pv (vI t.id),.pv (vI t.home),.pv (.aI (t.args.map Ty.pv))]),(4,[.pv (vI 0),.pv (vI 0),.pv (.str []),.pv (vI 0),.pv (vI 0),.own [] 1])],[],[acc.length,0]⟩ =
     some (.exit 0,⟨[(1,.pv (.aI (ids.map vI))),(2,.aG 2 0),(4,.aG 4 0),(5,.pv (.aI (vs.map vI))),(6,.own ((dc ids (vs.drop i) acc).map As.pv) 0),(7,.pv (vI vs.length)),(14,.pv (.bool false))],[(2,[.pv (vI t.kind),.pv (.str t.name),.pv (vI t.id),.pv (vI t.home),.pv (.aI (t.args.map Ty.pv))]),(4,[.pv (vI 0),.pv (vI 0),.pv (.str []),.pv (vI 0),.pv (vI 0),.own [] 1])],[],[(dc ids (vs.drop i) acc).length,0]⟩)
 | 0,i,hn,hi',acc,ha=>by
   have:i=vs.length:=by omega
   subst this;rw [g208L0e];simp [g208B0,dc]
 | n+1,i,hn,hi',acc,ha=>by
   have hi':i<vs.length:=(by omega);obtain ⟨x,hx⟩:=bD hi';unfold Sm at hS;have k:=c95 hi (y:=x);have k2:=c72 (n:=acc.length);have hb:(acc.length+1)*72≤140737488355328:=(by omega);rw [cp hx];by_cases e:x∈ids
   · have ih:=M9 (t:=t) hS hi n (i+1) (by omega) (by omega) (acc++[⟨x,cU acc.length⟩]) (by simp;omega);have ea:dc ids (x::vs.drop (i+1)) acc=dc ids (vs.drop (i+1)) (acc++[⟨x,cU acc.length⟩]):=(by simp [dc,e]);rw [ea];rw [g208L0e] at ih ⊢;rw [decide_eq_true e] at k;simp [cU] at ih k2;simp (disch:=omega) [-getElem?_pos,g208B0,hx,hi',k,k2,az,hb,cU];rw [g208L0e];simp [ih,cU]
   · have ih:=M9 (t:=t) hS hi n (i+1) (by omega) (by omega) acc (by omega);have ea:dc ids (x::vs.drop (i+1)) acc=dc ids (vs.drop (i+1)) acc:=(by simp [dc,e]);rw [ea];rw [g208L0e] at ih ⊢;rw [decide_eq_false e] at k;simp at ih;simp (disch:=omega) [-getElem?_pos,g208B0,hx,hi',k,az];rw [g208L0e];simp [ih]
theorem sE {ids:List Int}:∀(vs:List Int) (acc:List As),(dc ids vs acc).length≤acc.length+vs.length
 | [],acc=>by simp [dc]
 | v::r,acc=>by
   simp only [dc];have:=sE (ids:=ids) r (if v∈ids then acc++[⟨v,cU acc.length⟩] else acc);split at this<;>simp at this ⊢<;>(split<;>simp_all<;>omega)
structure O9 (t:Ty):Prop where
 ok:t.Ok
 wf:t.Wf
 F1:∃S:List Ty,S.length<1099511627776∧(∀x∈S,x.Ok)∧∀x∈t.fe 1,x∈S
theorem sF {t:Ty} (h:O9 t):Sm (mj [t]):=by
 obtain ⟨S,hf,hSo,hk⟩:=h.F1;have c0:gm S []:=⟨by simp,by simp,hf,hSo⟩;have:=(c0.fold (l:=[t].flatMap (Ty.fe 1)) (by simpa using hk)).len;unfold Sm at *;have h2:=ID (l:=([t].flatMap (Ty.fe 1)).foldl gU []) (out:=[]);unfold mj;simp at this h2 ⊢;omega
theorem c208 {t:Ty} (h:O9 t) {ids:List Int} (hi:Sm ids):(aP AP).p 208 [t.pv,.aI (ids.map vI)]=some [(oe ids t (vars [t])).pv]:=by
 obtain ⟨S,hf,hSo,hk⟩:=h.F1;have k1:=c56 hf hSo (l:=[t]) (by simp [Sm]) (by simpa using h.ok) (by simpa using hk);have hv:=sF h;rw [sB (by simpa using h.wf)] at k1 hv;have k2:=M9 (t:=t) hv hi _ 0 rfl (by omega) [] (by simp);have hl:=sE (ids:=ids) (vars [t]) [];have k3:=c46 (s:=dc ids (vars [t]) []) (by unfold Sm at hv ⊢;simp at hl;omega) h.ok;rw [aw (af:=g208) rfl rfl (by decide)];rw [g208L0e] at k2;simp at k1 k2 k3;simp [g208,k1,g208L0e,k2,k3,oe]
theorem da {t:Ty} (h:t.args=[]):t.Ok:=⟨by rw [h];simp [Sm],by rw [h];simp⟩
theorem uA {ids:List Int}:∀(vs:List Int) (acc:List As),(∀a∈acc,a.ty.Ok)→∀a∈dc ids vs acc,a.ty.Ok
 | [],acc,h=>by simpa [dc] using h
 | v::r,acc,h=>by
   simp only [dc];refine uA r _ ?_;split
   · intro a ha;simp at ha;rcases ha with ha | rfl
     · exact h a ha
     · exact da rfl
   · exact h
theorem B9 {ids vs:List Int} {t:Ty} (h:t.Ok):(oe ids t vs).ty.Ok:=B7 (uA vs [] (by simp)) h
inductive gR (D:Dt→Prop) (lv:List Ty):Nat→Ty→Prop
 | leaf {n:Nat} {t:Ty}:t∈lv→gR D lv n t
 | int {n:Nat}:gR D lv n bB
 | iV {n:Nat} {d:Dt} {args:List Ty}:D d→args.length=d.params.length→(∀x∈args,gR D lv n x)→gR D lv (n+1) ⟨4,d.name,0,0,args⟩
 | arrow {n:Nat} {a b:Ty}:gR D lv n a→gR D lv n b→gR D lv (n+1) ⟨4,[45,62],0,0,[a,b]⟩
theorem gR.ok {D:Dt→Prop} (hD:∀d,D d→d.params.length≤8) {lv:List Ty} (h:∀t∈lv,t.args=[]) {n:Nat} {t:Ty} (m:gR D lv n t):t.Ok:=by
 induction m with
 | leaf hl=>exact da (h _ hl)
 | int=>exact da rfl
 | iV hd hl _ ih=>exact ⟨by have:=hD _ hd;unfold Sm;simp;omega,ih⟩
 | arrow _ _ ha hb=>exact ⟨by simp [Sm],by intro x hx;simp at hx;rcases hx with rfl | rfl<;>assumption⟩
theorem II {f:Ty→List Ty} {b:Nat}:∀{l:List Ty},(∀x∈l,(f x).length≤b)→(l.flatMap f).length≤l.length*b
 | [],_=>by simp
 | a::r,h=>by
   have h1:=h a (by simp);have h2:=II (f:=f) (b:=b) (l:=r) (fun x hx=>h x (by simp [hx]));simp only [List.flatMap_cons,List.length_append,List.length_cons,Nat.add_mul];omega
theorem gR.small {D:Dt→Prop} (hD:∀d,D d→d.params.length≤8) {lv:List Ty} (h:∀t∈lv,t.args=[]) {n:Nat} {t:Ty} (m:gR D lv n t):t.nodes.length≤9 ^ n:=by
 have one:∀n:Nat,1≤9 ^ n:=fun n=>Nat.one_le_pow n 9 (by decide)
 induction m with
 | leaf hl=>rw [Ty.bh,h _ hl];simpa using one _
 | int=>rw [Ty.bh];simpa [bB] using one _
 | @iV n d args hd hl _ ih=>
   rw [Ty.bh];have h1:=II (f:=Ty.nodes) (l:=args) ih;have h2:=hD _ hd;have h3:=one n;have h4:args.length*9 ^ n≤8*9 ^ n:=Nat.mul_le_mul_right _ (by omega);simp only [List.length_cons,Nat.pow_succ];omega
 | @arrow n a b _ _ ha hb=>
   rw [Ty.bh];have h3:=one n;simp only [List.length_cons,List.flatMap_cons,List.flatMap_nil,List.append_nil,List.length_append,Nat.pow_succ];omega
abbrev cS:=List UInt8
theorem c214 {s:List cS} (hS:Sm s) {y:cS}:(aP AP).p 214 [.aI (s.map .str),.str y]=some [.bool (decide (y∈s))]:=by
 rw [Ru KU (m:=214) (k:=223) rfl rfl hS];simp only [Option.some.injEq,List.cons.injEq,PV.bool.injEq,and_true];rw [Bool.eq_iff_iff];simp
theorem O_ {s:List cS} (hS:Sm s) (y:cS):∀(n i:Nat),s.length-i=n→i≤s.length →
   cl AP g216L0 ⟨[(0,.pv (.aI (s.map .str))),(1,.pv (.str y)),(5,.pv (vI i))],[],[],[]⟩ =
     match dz (fun x=>decide (x=y)) (s.drop i) with
     | some k=>some (.ret,⟨[(4,.pv (vI (i+k:Nat)))],[],[],[]⟩)
     | none=>some (.exit 0,⟨[(0,.pv (.aI (s.map .str))),(1,.pv (.str y)),(5,.pv (vI s.length)),(9,.pv (.bool false))],[],[],[]⟩)
 | 0,i,hn,hi=>by
   have:i=s.length:=by omega
   subst this;rw [g216L0e];simp [g216B0,dz]
 | n+1,i,hn,hi=>by
   have hi:i<s.length:=(by omega);obtain ⟨x,hx⟩:=bD hi;unfold Sm at hS;have ih:=O_ hS y n (i+1) (by omega) (by omega);simp at ih;rw [g216L0e,cp hx];by_cases e:x=y
   · simp (disch:=omega) [-getElem?_pos,g216B0,hx,hi,e,dz]
   · simp (disch:=omega) [-getElem?_pos,g216B0,hx,hi,e,dz,az,ih];cases dz (fun x=>decide (x=y)) (s.drop (i+1)) with
     | none=>rfl
     | some k=>simp;omega
def og (s:List cS) (y:cS):Int:=mB (dz (fun x=>decide (x=y)) s)
theorem c216 {s:List cS} (hS:Sm s) {y:cS}:(aP AP).p 216 [.aI (s.map .str),.str y]=some [vI (og s y)]:=by
 unfold og;have h:=O_ hS y _ 0 rfl (by omega);simp at h;rw [aw (af:=g216) rfl rfl (by decide)];cases hi:dz (fun x=>decide (x=y)) s with
 | none=>rw [hi] at h;simp at h;simp [g216,h,mB]
 | some k=>rw [hi] at h;simp at h;simp [g216,h,mB]
theorem IJ {s:List cS} {y:cS}:og s y<0↔y∉s:=by
 unfold og;have h:=y1 (p:=fun x=>decide (x=y)) (s:=s);have e:s.any (fun x=>decide (x=y))=decide (y∈s):=by rw [Bool.eq_iff_iff];simp
 rw [e] at h;by_cases hy:y∈s
 · rw [decide_eq_true hy] at h;have h:=of_decide_eq_true h;exact ⟨fun h'=>absurd h (Int.not_le.2 h'),fun h'=>absurd hy h'⟩
 · rw [decide_eq_false hy] at h;have h:=of_decide_eq_false h;exact ⟨fun _=>hy,fun _=>Int.not_le.1 h⟩
def M_ (t:Ty):List AV:=[.pv (vI t.kind),.pv (.str t.name),.pv (vI t.id),.pv (vI t.home),.pv (.aI (t.args.map Ty.pv))]
@[simp] theorem QU (t:Ty):M_ t=[.pv (vI t.kind),.pv (.str t.name),.pv (vI t.id),.pv (vI t.home),.pv (.aI (t.args.map Ty.pv))]:=rfl
inductive Ty.Cw:Ty→Prop
 | mk {t:Ty}:(t.kind≠4→t.args=[])→(∀x∈t.args,Ty.Cw x)→Ty.Cw t
theorem Ty.Cw.bare {t:Ty} (h:t.Cw):t.kind≠4→t.args=[]:=by cases h;assumption
theorem Ty.Cw.g_ {t:Ty} (h:t.Cw):∀x∈t.args,x.Cw:=by cases h;assumption
structure eA (E:Type) where
 pos:Int
 iV:List UInt8
 vars:List (List UInt8)
 body:E
structure Ex where
 kind:Int
 pos:Int
 name:List UInt8
 num:Int
 kids:List Ex
 bu:List (eA Ex)
 ty:Ty
abbrev Ar:=eA Ex
def bW:Ty:=⟨0,[],0,0,[]⟩
instance:Inhabited Ex:=⟨⟨0,0,[],0,[],[],bW⟩⟩
instance:Inhabited Ar:=⟨⟨0,[],[],default⟩⟩
def Ty.cells (t:Ty):List PV:=[.int .i64 t.kind,.str t.name,.int .i64 t.id,.int .i64 t.home,.aI (t.args.map Ty.pv)]
mutual
def Ex.cells:Ex→List PV
 | ⟨k,p,n,m,ks,as,t⟩=>.int .i64 k::.int .i64 p::.str n::.int .i64 m::.aI (Ex.dC ks)::.aI (Ex.O' as)::t.cells
def Ex.dC:List Ex→List PV
 | []=>[]
 | e::r=>.agg (Ex.cells e)::Ex.dC r
def Ex.O':List (eA Ex)→List PV
 | []=>[]
 | ⟨p,c,v,b⟩::r=>.agg (.int .i64 p::.str c::.aI (v.map .str)::Ex.cells b)::Ex.O' r
end
def Ex.pv (e:Ex):PV:=.agg e.cells
def Ar.pv (a:Ar):PV:=.agg (.int .i64 a.pos::.str a.iV::.aI (a.vars.map .str)::a.body.cells)
theorem Ex.nZ:∀l:List Ex,Ex.dC l=l.map Ex.pv
 | []=>by simp [Ex.dC]
 | e::r=>by simp [Ex.dC,Ex.nZ r,Ex.pv]
theorem Ex.CX:∀l:List Ar,Ex.O' l=l.map Ar.pv
 | []=>by simp [Ex.O']
 | ⟨p,c,v,b⟩::r=>by simp [Ex.O',Ex.CX r,Ar.pv]
theorem Ex.bS (e:Ex):e.cells=[.int .i64 e.kind,.int .i64 e.pos,.str e.name,.int .i64 e.num,.aI (e.kids.map Ex.pv),.aI (e.bu.map Ar.pv),.int .i64 e.ty.kind,.str e.ty.name,.int .i64 e.ty.id,.int .i64 e.ty.home,.aI (e.ty.args.map Ty.pv)]:=by
 cases e;simp only [Ex.cells,Ex.nZ,Ex.CX,Ty.cells]
@[simp] theorem Ex.lI (e:Ex):e.pv=.agg [.int .i64 e.kind,.int .i64 e.pos,.str e.name,.int .i64 e.num,.aI (e.kids.map Ex.pv),.aI (e.bu.map Ar.pv),.int .i64 e.ty.kind,.str e.ty.name,.int .i64 e.ty.id,.int .i64 e.ty.home,.aI (e.ty.args.map Ty.pv)]:=by
 rw [Ex.pv,Ex.bS]
@[simp] theorem Ar.lI (a:Ar):a.pv=.agg [.int .i64 a.pos,.str a.iV,.aI (a.vars.map .str),.int .i64 a.body.kind,.int .i64 a.body.pos,.str a.body.name,.int .i64 a.body.num,.aI (a.body.kids.map Ex.pv),.aI (a.body.bu.map Ar.pv),.int .i64 a.body.ty.kind,.str a.body.ty.name,.int .i64 a.body.ty.id,.int .i64 a.body.ty.home,.aI (a.body.ty.args.map Ty.pv)]:=by
 rw [Ar.pv,Ex.bS]
theorem IK:El Ex.pv 11 true:=⟨fun x=>by simp,fun x=>by simp⟩
theorem Na:El Ar.pv 14 true:=⟨fun x=>by simp,fun x=>by simp⟩
@[simp] theorem N3 {l:List Ex}:bC 11 (l.map Ex.pv)=true:=IK.head l
@[simp] theorem N4 {l:List Ar}:bC 14 (l.map Ar.pv)=true:=Na.head l
@[simp] theorem Nb {l:List (List UInt8)}:bC 1 (l.map PV.str)=true:=lK.head l
@[simp] theorem N5 {l:List Int}:bC 1 (l.map vI)=true:=kB.head l
def Ex.ch (e:Ex):List Ex:=e.kids++e.bu.map eA.body
theorem eA.uB (a:Ar):SizeOf.sizeOf a.body<SizeOf.sizeOf a:=by cases a;simp;omega
theorem Ex.eU {p:Ex→Prop} (h:∀e:Ex,(∀x∈e.kids,p x)→(∀a∈e.bu,p a.body)→p e):∀e,p e
 | ⟨k,ps,n,m,ks,as,t⟩=>h _ (fun x _hx=>Ex.eU h x) (fun a _ha=>Ex.eU h a.body)
termination_by e=>SizeOf.sizeOf e
decreasing_by
 · have:=_root_.List.sizeOf_lt_of_mem _hx;simp at *;omega
 · have:=_root_.List.sizeOf_lt_of_mem _ha;have:=eA.uB a;simp at *;omega
theorem Ex.recC {p:Ex→Prop} (h:∀e:Ex,(∀x∈e.ch,p x)→p e):∀e,p e:=Ex.eU fun e h1 h2=>h e fun x hx=>by
 rw [Ex.ch,List.mem_append,List.mem_map] at hx;rcases hx with hx | ⟨a,ha,rfl⟩
 · exact h1 x hx
 · exact h2 a ha
def tx (l:List (List UInt8)):List AV:=l.map fun s=>AV.pv (.str s)
def SA (X:Sh) (l:List (List UInt8)) (t:List UInt8):Sh:=X++[some (tx l),some [.pv (.str t)]]
theorem lP {l:List (List UInt8)}:∀v∈tx l,∃p,v=AV.pv p:=by
 intro v hv;simp only [tx,List.mem_map] at hv;obtain ⟨s,_,rfl⟩:=hv;exact ⟨_,rfl⟩
theorem fD {X:Sh} (hX:bA X) {l:List (List UInt8)} {t:List UInt8}:bA (SA X l t):=by
 refine hX.app fun cs hc=>?_
 simp at hc;rcases hc with rfl | rfl
 · exact lP
 · intro v hv;simp at hv;exact ⟨_,hv⟩
theorem B_ {X:Sh} {l:List (List UInt8)} {t:List UInt8}:(SA X l t)[X.length]?=some (some (tx l)):=by simp [SA]
theorem IL {X:Sh} {l:List (List UInt8)} {t:List UInt8}:(SA X l t)[X.length+1]?=some (some [.pv (.str t)]):=by simp [SA]
theorem IM {X:Sh} {l l':List (List UInt8)} {t:List UInt8}:(SA X l t).set X.length (some (tx l'))=SA X l' t:=by simp [SA]
theorem wo {X:Sh} {l:List (List UInt8)} {t:List UInt8}:(SA X l t).length=X.length+2:=by simp [SA]
theorem IN {l:List (List UInt8)} {i:Nat} {s:List UInt8} (h:l[i]?=some s):(tx l)[i]?=some (.pv (.str s)):=by simp [tx,h]
theorem nd {l:List (List UInt8)}:(tx l).length=l.length:=by simp [tx]
theorem Nc {l:List (List UInt8)} {i:Nat} (h:i<l.length) {s:List UInt8}:bn (tx l) i [.pv (.str s)]=tx (l.set i s):=by
 rw [List.set_eq_take_append_cons_drop,if_pos h];simp [aK,tx,List.map_take,List.map_drop]
theorem c413 {SH:Sh} (hn:∀aY ts,bV aY ts SH=(SH,aY,ts)) {c:Nat} {t x:List UInt8} (hb:SH[c]?=some (some [.pv (.str t)])) (hc:c<SH.length) :
   (aP AP).i 413 [.pv (.str x),.br c 0] SH []=some ([.pv (.bool (decide (x=t)))],SH,[]):=by
 rw [aR (af:=g413) rfl (by simp [g413])];simp [-getElem?_pos,g413,hb,hn];by_cases e:x=t<;>simp [e]
theorem IP {SH:Sh} (hn:∀aY ts,bV aY ts SH=(SH,aY,ts)) (hs:∀n,fp n SH=SH) {c:Nat} {t x:List UInt8} (hb:SH[c]?=some (some [.pv (.str t)])) (hc:c<SH.length) :
   exec (aP AP) .eV [.fn 413 [.br c 0],.pv (.str x)] none SH []=some ⟨.pv (.bool (decide (x=t))),none,SH,[]⟩:=by
 have k:=c413 hn hb hc (x:=x);simp [hn,k,hs]
theorem Pa {SH:Sh} (hn:∀aY ts,bV aY ts SH=(SH,aY,ts)) (hs:∀n,fp n SH=SH) {b c:Nat} {t:List UInt8} {l:List (List UInt8)} (hS:Sm l) (ha:SH[b]?=some (some (tx l))) (hb:SH[c]?=some (some [.pv (.str t)])) (hc:c<SH.length) :
   ∀(n i:Nat),l.length-i=n→i≤l.length →
   cl AP (KQ 1 false) ⟨[(0,.bE b 1 l.length false),(1,.fn 413 [.br c 0]),(7,.pv (vI l.length)),(8,.pv (vI i))],[],SH,[]⟩ =
     match dz (fun x=>decide (x=t)) (l.drop i) with
     | some k=>some (.ret,⟨[(4,.pv (vI (i+k:Nat)))],[],SH,[]⟩)
     | none=>some (.exit 0,⟨[(0,.bE b 1 l.length false),(1,.fn 413 [.br c 0]),(7,.pv (vI l.length)),(8,.pv (vI l.length)),(9,.pv (.bool false))],[],SH,[]⟩)
 | 0,i,hk,hi=>by
   have:i=l.length:=by omega
   subst this;rw [wj];simp [FZ,dz,hn]
 | n+1,i,hk,hi=>by
   have hi:i<l.length:=(by omega);obtain ⟨x,hx⟩:=bD hi;unfold Sm at hS;have ih:=Pa hn hs hS ha hb hc n (i+1) (by omega) (by omega);have hg:=IN hx;have hB:dr (tx l)=false:=dw lP;have hle:i+1≤(tx l).length:=(by rw [nd];omega);have q:=IP hn hs hb hc (x:=x);simp at ih;rw [wj,cp hx];by_cases e:x=t
   · rw [decide_eq_true e] at q;subst e;simp (disch:=omega) [-getElem?_pos,-jj,FZ,hx,hi,ha,hg,hB,hle,dz,hn,q]
   · rw [decide_eq_false e] at q;simp (disch:=omega) [-getElem?_pos,-jj,FZ,hx,hi,ha,hg,hB,hle,e,dz,az,hn,q,ih];cases dz (fun x=>decide (x=t)) (l.drop (i+1)) with
     | none=>rfl
     | some k=>simp;omega
structure Row {α:Type} (f:α→List PV) (sz:Nat):Prop where
 pos:0<sz
 len:∀x,(f x).length=sz
section
variable {α:Type} {f:α→List PV} {sz:Nat}
def b_ (f:α→List PV) (l:List α):List AV:=l.flatMap fun x=>(f x).map .pv
theorem CY:b_ f []=[]:=rfl
theorem jX {x:α} {l:List α}:b_ f (x::l)=(f x).map .pv++b_ f l:=rfl
theorem qy {l m:List α}:b_ f (l++m)=b_ f l++b_ f m:=by simp [b_]
theorem d7 (h:Row f sz):∀{l:List α},(b_ f l).length=l.length*sz
 | []=>by simp [b_]
 | x::r=>by rw [jX,List.length_append,List.length_map,h.len,d7 h,List.length_cons,Nat.add_mul];omega
theorem cJ {l:List α}:∀v∈b_ f l,∃p,v=AV.pv p:=by
 intro v hv;simp only [b_,List.mem_flatMap,List.mem_map] at hv;obtain ⟨x,_,p,_,rfl⟩:=hv;exact ⟨p,rfl⟩
theorem sG (h:Row f sz):∀{l:List α} {i:Nat} {x:α},l[i]?=some x→(b_ f l).drop (i*sz)=(f x).map .pv++b_ f (l.drop (i+1))
 | x::r,0,y,e=>by simp at e;subst e;simp [b_]
 | x::r,i+1,y,e=>by
   have ih:=sG h (l:=r) (i:=i) (x:=y) (by simpa using e);rw [jX,List.drop_append,List.drop_eq_nil_of_le (by rw [List.length_map,h.len,Nat.add_mul];omega),List.length_map,h.len,show (i+1)*sz-sz=i*sz from by rw [Nat.add_mul];omega,ih];simp
 | [],_,_,e=>by simp at e
theorem y3 (h:Row f sz):∀{l:List α} {i:Nat},i≤l.length→(b_ f l).take (i*sz)=b_ f (l.take i)
 | l,0,_=>by simp [b_]
 | x::r,i+1,e=>by
   have ih:=y3 h (l:=r) (i:=i) (by simpa using e);rw [jX,List.take_append,List.take_of_length_le (by rw [List.length_map,h.len,Nat.add_mul];omega),List.length_map,h.len,show (i+1)*sz-sz=i*sz from by rw [Nat.add_mul];omega,ih];simp [jX]
 | [],i+1,e=>by simp at e
theorem qz (h:Row f sz) {l:List α} {i:Nat} {x:α} (e:l[i]?=some x) {o k:Nat} (hk:o+k≤sz):((b_ f l).drop (i*sz+o)).take k=(((f x).drop o).take k).map .pv:=by
 rw [←List.drop_drop,sG h e,List.drop_append,List.take_append,List.length_drop,List.length_map,h.len];have e1:k-(sz-o)=0:=by omega
 rw [e1,List.take_zero,List.append_nil,←List.map_drop,←List.map_take]
theorem Nd (h:Row f sz) {l:List α} {i:Nat} (hi:i<l.length) {o k:Nat} (hk:o+k≤sz):i*sz+o+k≤(b_ f l).length:=by
 rw [d7 h];have:(i+1)*sz≤l.length*sz:=Nat.mul_le_mul_right _ hi;rw [Nat.add_mul] at this;omega
theorem qA (h:Row f sz) {l:List α} {i:Nat} {x y:α} (e:l[i]?=some x) {o:Nat} {vs:List PV} (hk:o+vs.length≤sz) (hy:f y=(f x).take o++vs++(f x).drop (o+vs.length)):bn (b_ f l) (i*sz+o) (vs.map .pv)=b_ f (l.set i y):=by
 have hi:=(List.getElem?_eq_some_iff.1 e).1;have e3:l.set i y=l.take i++y::l.drop (i+1):=by rw [List.set_eq_take_append_cons_drop,if_pos hi]
 have e1:=sG h e;have e2:=y3 h (l:=l) (i:=i) (by omega);rw [e3,aK,qy,jX,←e2,hy]
 have e4:(b_ f l).drop (i*sz+o+(vs.map AV.pv).length)=((f x).drop (o+vs.length)).map .pv++b_ f (l.drop (i+1)):=by
   rw [List.length_map,Nat.add_assoc,←List.drop_drop,e1,List.drop_append,List.length_map,h.len,show o+vs.length-sz=0 from by omega];simp
 have e5:(b_ f l).take (i*sz+o)=(b_ f l).take (i*sz)++((f x).take o).map .pv:=by
   rw [List.take_add,e1,List.take_append,List.length_map,h.len,show o-sz=0 from by omega];simp
 rw [e4,e5];simp
theorem CZ (h:Row f sz):∀{l:List α},∃ps,ff (b_ f l)=some ps∧(chunk sz l.length ps).map PV.agg=l.map fun x=>.agg (f x)
 | []=>⟨[],rfl,rfl⟩
 | x::r=>by
   obtain ⟨ps,h1,h2⟩:=CZ h (l:=r)
   have key:∀(a:List PV) (b:List AV),ff b=some ps→ff (a.map AV.pv++b)=some (a++ps):=by
     intro a b hb;induction a with
     | nil=>simpa using hb
     | cons c a ih=>simp only [List.map_cons,List.cons_append,ff,kS,ih]
   refine ⟨f x++ps,key _ _ h1,?_⟩;simp only [List.length_cons,chunk,List.map_cons];rw [List.take_left' (h.len x),List.drop_left' (h.len x),h2]
theorem qB (h:Row f sz) {l:List α}:((ff (b_ f l)).bind (fh sz true l.length)).map PV.aI=some (.aI (l.map fun x=>.agg (f x))):=by
 obtain ⟨ps,h1,h2⟩:=CZ h (l:=l);rw [h1];simp only [Option.bind_some,fh,if_true,Option.map_some,h2]
theorem qC (h:Row f sz) {l:List α}:((l.map fun x=>PV.agg (f x)).flatMap bw).map AV.pv=b_ f l:=by
 induction l with
 | nil=>rfl
 | cons x r ih=>simp only [List.map_cons,List.flatMap_cons,List.map_append,ih,jX,bw]
end
abbrev nn (k:Nat):Sh:=List.replicate k none
theorem eM (k:Nat):bA (nn k):=by
 intro cs hc;simp [nn,List.mem_replicate] at hc
end Go.Ab.Lw
namespace Go.Ab.Lw
open Ev
inductive Ex.Ok:Ex→Prop
 | mk {e:Ex}:e.kids.length≤1000→e.bu.length≤1000→(∀a∈e.bu,a.vars.length≤1000)→e.ty.Ok→(∀x∈e.ch,x.Ok)→e.Ok
theorem Ex.Ok.k {e:Ex} (h:e.Ok):e.kids.length≤1000:=by cases h;assumption
theorem Ex.Ok.a {e:Ex} (h:e.Ok):e.bu.length≤1000:=by cases h;assumption
theorem Ex.Ok.v {e:Ex} (h:e.Ok):∀a∈e.bu,a.vars.length≤1000:=by cases h;assumption
theorem Ex.Ok.t {e:Ex} (h:e.Ok):e.ty.Ok:=by cases h;assumption
theorem Ex.Ok.c {e:Ex} (h:e.Ok):∀x∈e.ch,x.Ok:=by cases h;assumption
theorem Ex.iI {e:Ex}:e.ch.length=e.kids.length+e.bu.length:=by simp [Ex.ch]
@[simp] def Ex.cl (e:Ex):List AV:=[.pv (vI e.kind),.pv (vI e.pos),.pv (.str e.name),.pv (vI e.num),.pv (.aI (e.kids.map Ex.pv)),.pv (.aI (e.bu.map Ar.pv)),.pv (vI e.ty.kind),.pv (.str e.ty.name),.pv (vI e.ty.id),.pv (vI e.ty.home),.pv (.aI (e.ty.args.map Ty.pv))]
theorem ej:Row Ex.cells 11:=⟨by omega,fun x=>by rw [Ex.bS];rfl⟩
def Ar.cells (a:Ar):List PV:=.int .i64 a.pos::.str a.iV::.aI (a.vars.map .str)::a.body.cells
theorem kC:Row Ar.cells 14:=⟨by omega,fun x=>by simp [Ar.cells,Ex.bS]⟩
theorem Ex.sH (e:Ex):e.cells.map AV.pv=e.cl:=by rw [Ex.bS];rfl
@[simp] def Ex.Jz (e:Ex) (A:AV):List AV:=[.pv (vI e.kind),.pv (vI e.pos),.pv (.str e.name),.pv (vI e.num),.pv (.aI (e.kids.map Ex.pv)),A,.pv (vI e.ty.kind),.pv (.str e.ty.name),.pv (vI e.ty.id),.pv (vI e.ty.home),.pv (.aI (e.ty.args.map Ty.pv))]
def Pb (A:AV) (as:List Ar) (X:Sh):Prop:=A=.pv (.aI (as.map Ar.pv))∨∃b,b<X.length∧A=.bE b 14 as.length true∧X[b]?=some (some (b_ Ar.cells as))
theorem Pb.app {A:AV} {as:List Ar} {X Y:Sh} (h:Pb A as X):Pb A as (X++Y):=by
 rcases h with h | ⟨b,h1,h2,h3⟩
 · exact .inl h
 · exact .inr ⟨b,by rw [List.length_append];omega,h2,by rw [List.getElem?_append_left h1];exact h3⟩
def hV (X:Sh) (l:List Ex):AV:=if l=[] then .own [] 0 else .bE X.length 11 l.length true
def hS (X:Sh) (l:List Ex):Sh:=if l=[] then X else X++[some (b_ Ex.cells l)]
def hT (l:List Ex):aN:=if l=[] then [0] else []
theorem y4 {X:Sh} (h:bA X) (l:List Ex):bA (hS X l):=by
 unfold hS;by_cases h0:l=[]
 · rw [if_pos h0];exact h
 · rw [if_neg h0];exact h.app (bA.one cJ)
theorem KY {e:Ex} {A:AV} (ha:e.bu.length≤1000):∀(n i:Nat),e.bu.length-i=n→i≤e.bu.length→∀(X:Sh) (acc:List Ex),bA X→Pb A e.bu X→acc.length+n≤1000000→∃k,
   cl AP g145L0 ⟨[(1,.aG 1 0),(3,hV X acc),(4,.pv (vI i))],[(1,e.Jz A)],hS X acc,hT acc⟩ =
     some (.exit 0,⟨[(1,.aG 1 0),(3,hV (X++nn k) (acc++(e.bu.drop i).map eA.body)),(4,.pv (vI e.bu.length)),(12,.pv (.bool false))],[(1,e.Jz A)],hS (X++nn k) (acc++(e.bu.drop i).map eA.body),hT (acc++(e.bu.drop i).map eA.body)⟩)
 | 0,i,hn,hi,X,acc,hX,hA,hl=>by
   have:i=e.bu.length:=by omega
   subst this;refine ⟨0,?_⟩;rw [List.drop_length,List.map_nil,List.append_nil,show nn 0=[] from rfl,List.append_nil];have hn:=(y4 hX acc).norm
   have vc:(hV X acc=.own [] 0∧hT acc=[0])∨(∃b z k g,hV X acc=.bE b z k g∧hT acc=[]):=by
     unfold hV hT;by_cases h0:acc=[]
     · left;simp [h0]
     · right;exact ⟨X.length,11,acc.length,true,by simp [h0],by simp [h0]⟩
   rw [g145L0e]
   rcases vc with ⟨v1,t1⟩ | ⟨b1,z1,k1,f1,v1,t1⟩<;>rw [v1,t1]<;>generalize hS X acc=S0 at hn ⊢ <;>
     rcases hA with rfl | ⟨b,hb,rfl,hx⟩<;>simp [g145B0,hn]
 | n+1,i,hn,hi,X,acc,hX,hA,hl=>by
   have hi:i<e.bu.length:=(by omega);obtain ⟨x,hx⟩:=bD hi;have hnX:=hX.norm;have hB11:∀m:Nat,m≤1000000→m*152≤140737488355328:=(by omega);have hcl:=Ex.bS x.body;rw [cp hx,List.map_cons]
   have step:∃k,cl AP g145L0 ⟨[(1,.aG 1 0),(3,hV (if acc=[] then X else X++[none]) (acc++[x.body])),(4,.pv (vI (i+1:Nat)))],[(1,e.Jz A)],hS (if acc=[] then X else X++[none]) (acc++[x.body]),hT (acc++[x.body])⟩ =
     some (.exit 0,⟨[(1,.aG 1 0),(3,hV (X++nn k) (acc++(x.body::(e.bu.drop (i+1)).map eA.body))),(4,.pv (vI e.bu.length)),(12,.pv (.bool false))],[(1,e.Jz A)],hS (X++nn k) (acc++(x.body::(e.bu.drop (i+1)).map eA.body)),hT (acc++(x.body::(e.bu.drop (i+1)).map eA.body))⟩):=by
     by_cases h0:acc=[]
     · rw [if_pos h0];obtain ⟨k,ih⟩:=KY ha n (i+1) (by omega) (by omega) X (acc++[x.body]) hX hA (by simp;omega);refine ⟨k,?_⟩;rw [ih];simp only [List.append_assoc,List.singleton_append]
     · rw [if_neg h0];obtain ⟨k,ih⟩:=KY ha n (i+1) (by omega) (by omega) (X++[none]) (acc++[x.body]) (hX.app (eM 1)) hA.app (by simp;omega);refine ⟨k+1,?_⟩;have e1:X++[none]++nn k=X++nn (k+1):=by simp [nn,List.replicate_succ]
       rw [ih,e1];simp only [List.append_assoc,List.singleton_append]
   obtain ⟨k,ih⟩:=step;refine ⟨k,?_⟩;generalize hV (X++nn k) (acc++(x.body::(e.bu.drop (i+1)).map eA.body))=V2 at ih ⊢;generalize hS (X++nn k) (acc++(x.body::(e.bu.drop (i+1)).map eA.body))=S2 at ih ⊢;generalize hT (acc++(x.body::(e.bu.drop (i+1)).map eA.body))=T2 at ih ⊢;have hne:acc++[x.body]≠[]:=by simp
   have hn1:∀Y,bA Y→∀aY ts,bV aY ts (Y++[some (b_ Ex.cells (acc++[x.body]))])=(Y++[some (b_ Ex.cells (acc++[x.body]))],aY,ts):=fun Y hY=>(hY.app (bA.one cJ)).norm
   have hfl:b_ Ex.cells (acc++[x.body])=b_ Ex.cells acc++x.body.cl:=(by rw [qy,←Ex.sH];simp [b_]);by_cases h0:acc=[]
   · subst h0;rw [if_pos rfl] at ih;have hn2:=hn1 X hX;simp only [List.nil_append] at hne hn2 hfl ih;simp only [hV,hS,hT,if_neg hne,if_true] at ih ⊢;rw [hfl] at hn2 ih;simp only [CY,List.nil_append] at hn2 ih;simp only [Ex.cl] at hn2;rw [g145L0e] at ih ⊢;rcases hA with rfl | ⟨b,hb,rfl,hxb⟩
     · simp [hn2] at ih;simp (disch:=omega) [-getElem?_pos,g145B0,hx,hi,az,hnX];rw [g145L0e];simp [hn2,ih]
     · have q1:=qz kC hx (o:=3) (k:=11) (by omega);have q2:i*14+3+11≤e.bu.length*14:=(by omega);have q3:(b_ Ar.cells e.bu).length=e.bu.length*14:=d7 kC;have q4:dr (b_ Ar.cells e.bu)=false:=dw cJ;have q5:(((Ar.cells x).drop 3).take 11).map AV.pv=x.body.cl:=(by simp [Ar.cells,hcl]);rw [q5] at q1;generalize b_ Ar.cells e.bu=T at *;simp [hn2] at ih q1;simp (disch:=omega) [-getElem?_pos,g145B0,hx,hi,az,hnX,hxb,q1,q2,q3,q4];rw [g145L0e];simp [hn2,ih]
   · rw [if_neg h0] at ih;have hn2:=hn1 (X++[none]) (hX.app (eM 1));have hn3:∀aY ts,bV aY ts (X++[some (b_ Ex.cells acc)])=(X++[some (b_ Ex.cells acc)],aY,ts):=(hX.app (bA.one cJ)).norm;simp only [hV,hS,hT,if_neg hne,if_neg h0] at ih ⊢;have r1:(b_ Ex.cells acc).length=acc.length*11:=d7 ej;have r2:dr (b_ Ex.cells acc)=false:=dw cJ;have r3:(b_ Ex.cells acc).take (acc.length*11)=b_ Ex.cells acc:=List.take_of_length_le (by omega);have hb2:(acc.length+1)*152≤140737488355328:=by omega
     rw [hfl] at hn2 ih;rw [List.length_append,List.length_singleton,List.length_append,List.length_singleton] at ih;have s1:∀u w:Option (List AV),(X++[u]).set X.length w=X++[w]:=fun u w=>by simp
     have s2:∀u:Option (List AV),(X++[u])[X.length]?=some u:=fun u=>by simp
     simp only [Ex.cl] at hn2;rw [g145L0e] at ih ⊢;rcases hA with rfl | ⟨b,hb,rfl,hxb⟩
     · generalize b_ Ex.cells acc=F at *;simp [hn2] at ih;simp (disch:=omega) [-getElem?_pos,g145B0,hx,hi,az,hn3,r1,r2,r3,s1,s2,hb2];rw [g145L0e];simp [hn2,ih]
     · have q1:=qz kC hx (o:=3) (k:=11) (by omega);have q2:i*14+3+11≤e.bu.length*14:=(by omega);have q3:(b_ Ar.cells e.bu).length=e.bu.length*14:=d7 kC;have q4:dr (b_ Ar.cells e.bu)=false:=dw cJ;have q5:(((Ar.cells x).drop 3).take 11).map AV.pv=x.body.cl:=(by simp [Ar.cells,hcl]);have q6:∀u:Option (List AV),(X++[u])[b]?=X[b]?:=fun u=>List.getElem?_append_left hb
       rw [q5] at q1;generalize b_ Ar.cells e.bu=T at *;generalize b_ Ex.cells acc=F at *;simp [hn2] at ih q1;simp (disch:=omega) [-getElem?_pos,g145B0,hx,hi,az,hn3,r1,r2,r3,s1,s2,hb2,hxb,q1,q2,q3,q4,q6];rw [g145L0e];simp [hn2,ih]
theorem B' {l:List Ex}:((ff (b_ Ex.cells l)).bind (fh 11 true l.length)).map PV.aI=some (.aI (l.map Ex.pv)):=qB ej
theorem Ca {l:List Ex}:((l.map Ex.pv).flatMap bw).map AV.pv=b_ Ex.cells l:=qC ej
theorem c145i {e:Ex} {A:AV} (h:e.kids.length≤1000) (ha:e.bu.length≤1000) {X:Sh} (hX:bA X) (hA:Pb A e.bu X):∃k,(aP AP).i 145 [.agg (e.Jz A)] X []=some (if e.ch=[] then ([.own [] 0],X,[0]) else ([.bE (X.length+k) 11 e.ch.length true],X++nn k++[some (b_ Ex.cells e.ch)],[])):=by
 obtain ⟨k,h2⟩:=KY (A:=A) ha _ 0 rfl (by omega) X e.kids hX hA (by omega);rw [List.drop_zero] at h2
 change cl AP g145L0 _=some (.exit 0,⟨[(1,.aG 1 0),(3,hV (X++nn k) e.ch),(4,.pv (vI e.bu.length)),(12,.pv (.bool false))],[(1,e.Jz A)],hS (X++nn k) e.ch,hT e.ch⟩) at h2
 refine ⟨k,?_⟩;rw [aR (af:=g145) rfl (by simp [g145])];have hb:e.kids.length*152≤140737488355328:=by omega
 have hm:=Ca (l:=e.kids);have hq:=hX.norm;have hq0:∀aY ts,bV aY ts (X++[some (b_ Ex.cells e.kids)])=(X++[some (b_ Ex.cells e.kids)],aY,ts):=(hX.app (bA.one cJ)).norm;have hq1:∀aY ts,bV aY ts (X++nn k)=(X++nn k,aY,ts):=(hX.app (eM k)).norm;have hq2:∀aY ts,bV aY ts (X++(nn k++[some (b_ Ex.cells e.ch)]))=(X++(nn k++[some (b_ Ex.cells e.ch)]),aY,ts):=(hX.app ((eM k).app (bA.one cJ))).norm;have hlt:¬X.length+k<X.length:=by omega
 have hln:(X++nn k).length=X.length+k:=by simp
 have hlf:bp A=true∧cz A=true:=by rcases hA with rfl | ⟨b,_,rfl,_⟩<;>exact ⟨rfl,rfl⟩
 have hkt:(X++nn k).take X.length=X:=by simp
 have e1:∀(V:AV) (T:aN) (S:Sh),(V=hV X e.kids∧T=hT e.kids∨e.kids=[]∧V=.bM []∧T=[])→S=hS X e.kids→after (cl AP g145L0) (cl AP g145B0 (norm (restrict [1,3,4] ⟨[(1,.aG 1 0),(3,V),(4,.pv (vI 0))],[(1,e.Jz A)],S,T⟩))) =
     some (.exit 0,⟨[(1,.aG 1 0),(3,hV (X++nn k) e.ch),(4,.pv (vI e.bu.length)),(12,.pv (.bool false))],[(1,e.Jz A)],hS (X++nn k) e.ch,hT e.ch⟩):=by
   rintro V T S hV' rfl
   rw [←h2,g145L0e];rcases hV' with ⟨rfl,rfl⟩ | ⟨h0,rfl,rfl⟩
   · rfl
   · simp only [hV,hS,hT,h0,if_true];rcases hA with rfl | ⟨b,_,rfl,_⟩<;>simp [hq]
 clear h2;by_cases hc:e.ch=[]
 · have h0:e.kids=[]:=by have:=hc;simp only [Ex.ch,List.append_eq_nil_iff] at this;exact this.1
   have f:=e1 (.bM []) [] X (.inr ⟨h0,rfl,rfl⟩) (by simp [hS,h0]);simp only [hc,hV,hS,hT,if_true] at f ⊢;rcases hA with rfl | ⟨b,_,rfl,_⟩<;>simp [hq,h0] at f<;>simp [g145,h0,hq,hq1,g145L0e,f,hln,hkt]
 · by_cases h0:e.kids=[]
   · have f:=e1 (.bM []) [] X (.inr ⟨h0,rfl,rfl⟩) (by simp [hS,h0]);simp only [hV,hS,hT,if_neg hc,List.append_assoc,hln] at f ⊢;generalize X++(nn k++[some (b_ Ex.cells e.ch)])=S2 at *;rcases hA with rfl | ⟨b,_,rfl,_⟩<;>simp [hq,h0] at f<;>simp [g145,h0,hq,hq2,g145L0e,f,hlt]
   · have f:=e1 (.bE X.length 11 e.kids.length true) [] (X++[some (b_ Ex.cells e.kids)]) (.inl ⟨by simp [hV,h0],by simp [hT,h0]⟩) (by simp [hS,h0]);simp only [hV,hS,hT,if_neg hc,List.append_assoc,hln] at f ⊢;generalize X++(nn k++[some (b_ Ex.cells e.ch)])=S2 at *;have hb2:e.kids.length*152≤140737488355328:=(by omega);generalize b_ Ex.cells e.kids=F at *;rcases hA with rfl | ⟨b,_,rfl,_⟩<;>simp [hq,hq0,h0] at f<;>simp [g145,h0,hb2,hm,hq,hq0,hq2,g145L0e,f,hlt]
theorem c145 {e:Ex} (h:e.Ok):(aP AP).p 145 [e.pv]=some [.aI (e.ch.map Ex.pv)]:=by
 have hk:=h.k;have ha:=h.a;obtain ⟨k,h2⟩:=KY (A:=.pv (.aI (e.bu.map Ar.pv))) ha _ 0 rfl (by omega) [] e.kids (by intro cs h;simp at h) (.inl rfl) (by omega);rw [List.drop_zero] at h2
 change cl AP g145L0 _=some (.exit 0,⟨[(1,.aG 1 0),(3,hV ([]++nn k) e.ch),(4,.pv (vI e.bu.length)),(12,.pv (.bool false))],[(1,e.Jz (.pv (.aI (e.bu.map Ar.pv))))],hS ([]++nn k) e.ch,hT e.ch⟩) at h2
 have hb2:e.kids.length*152≤140737488355328:=by omega
 have hm:=Ca (l:=e.kids);have hl:=B' (l:=e.ch);have hlen:(b_ Ex.cells e.ch).length=e.ch.length*11:=d7 ej;have hq0:∀aY ts,bV aY ts ([some (b_ Ex.cells e.kids)])=([some (b_ Ex.cells e.kids)],aY,ts):=(bA.one cJ).norm;rw [aw (af:=g145) rfl rfl (by decide)];by_cases hc:e.ch=[]
 · have h0:e.kids=[]∧e.bu=[]:=by have:=hc;simpa [Ex.ch] using this
   simp only [hc,hV,hS,hT,if_true,h0.1] at h2 ⊢;rw [g145L0e] at h2;simp [h0.1,h0.2] at h2;simp [g145,h0.1,h0.2,g145L0e,h2]
 · have hg:∀Z:Option (List AV),([]++nn k++[Z])[k]?=some Z:=fun Z=>by simp
   by_cases h0:e.kids=[]
   · simp only [hV,hS,hT,if_neg hc,h0,if_true] at h2 ⊢;have hg1:=hg (some (b_ Ex.cells e.ch));generalize []++nn k++[some (b_ Ex.cells e.ch)]=S2 at *;generalize b_ Ex.cells e.ch=F at *;rw [g145L0e] at h2;simp [h0] at h2;simp at hl;simp [-getElem?_pos,g145,h0,g145L0e,h2,hg1,hlen,hl]
   · simp only [hV,hS,hT,if_neg hc,if_neg h0] at h2 ⊢;have hg1:=hg (some (b_ Ex.cells e.ch));generalize []++nn k++[some (b_ Ex.cells e.ch)]=S2 at *;generalize b_ Ex.cells e.ch=F at *;generalize b_ Ex.cells e.kids=F0 at *;rw [g145L0e] at h2;simp [hq0] at h2 hl;simp [-getElem?_pos,g145,h0,hb2,hm,hq0,g145L0e,h2,hg1,hlen,hl]
theorem Nf {e:Ex} (ha:e.bu.length≤1000):∀(n i:Nat),e.bu.length-i=n→i≤e.bu.length→∀(X:Sh) (acc:List Ex),bA X→acc.length+n≤1000000→∃k,
   cl AP g414L0 ⟨[(3,hV X acc),(10,.pv (.aI (e.bu.map Ar.pv))),(11,.pv (vI e.bu.length)),(12,.pv (vI i))],[],hS X acc,hT acc⟩ =
     some (.exit 0,⟨[(3,hV (X++nn k) (acc++(e.bu.drop i).map eA.body)),(10,.pv (.aI (e.bu.map Ar.pv))),(11,.pv (vI e.bu.length)),(12,.pv (vI e.bu.length)),(13,.pv (.bool false))],[],hS (X++nn k) (acc++(e.bu.drop i).map eA.body),hT (acc++(e.bu.drop i).map eA.body)⟩)
 | 0,i,hn,hi,X,acc,hX,hl=>by
   have:i=e.bu.length:=by omega
   subst this;refine ⟨0,?_⟩;rw [List.drop_length,List.map_nil,List.append_nil,show nn 0=[] from rfl,List.append_nil];have hn:=(y4 hX acc).norm
   have vc:(hV X acc=.own [] 0∧hT acc=[0])∨(∃b z k g,hV X acc=.bE b z k g∧hT acc=[]):=by
     unfold hV hT;by_cases h0:acc=[]
     · left;simp [h0]
     · right;exact ⟨X.length,11,acc.length,true,by simp [h0],by simp [h0]⟩
   rw [g414L0e];rcases vc with ⟨v1,t1⟩ | ⟨b1,z1,k1,f1,v1,t1⟩<;>rw [v1,t1]<;>generalize hS X acc=S0 at hn ⊢<;>simp [g414B0,hn]
 | n+1,i,hn,hi,X,acc,hX,hl=>by
   have hi:i<e.bu.length:=(by omega);obtain ⟨x,hx⟩:=bD hi;have hnX:=hX.norm;have hcl:=Ex.bS x.body;rw [cp hx,List.map_cons]
   have step:∃k,cl AP g414L0 ⟨[(3,hV (if acc=[] then X else X++[none]) (acc++[x.body])),(10,.pv (.aI (e.bu.map Ar.pv))),(11,.pv (vI e.bu.length)),(12,.pv (vI (i+1:Nat)))],[],hS (if acc=[] then X else X++[none]) (acc++[x.body]),hT (acc++[x.body])⟩ =
     some (.exit 0,⟨[(3,hV (X++nn k) (acc++(x.body::(e.bu.drop (i+1)).map eA.body))),(10,.pv (.aI (e.bu.map Ar.pv))),(11,.pv (vI e.bu.length)),(12,.pv (vI e.bu.length)),(13,.pv (.bool false))],[],hS (X++nn k) (acc++(x.body::(e.bu.drop (i+1)).map eA.body)),hT (acc++(x.body::(e.bu.drop (i+1)).map eA.body))⟩):=by
     by_cases h0:acc=[]
     · rw [if_pos h0];obtain ⟨k,ih⟩:=Nf ha n (i+1) (by omega) (by omega) X (acc++[x.body]) hX (by simp;omega);refine ⟨k,?_⟩;rw [ih];simp only [List.append_assoc,List.singleton_append]
     · rw [if_neg h0];obtain ⟨k,ih⟩:=Nf ha n (i+1) (by omega) (by omega) (X++[none]) (acc++[x.body]) (hX.app (eM 1)) (by simp;omega);refine ⟨k+1,?_⟩;have e1:X++[none]++nn k=X++nn (k+1):=by simp [nn,List.replicate_succ]
       rw [ih,e1];simp only [List.append_assoc,List.singleton_append]
   obtain ⟨k,ih⟩:=step;refine ⟨k,?_⟩;generalize hV (X++nn k) (acc++(x.body::(e.bu.drop (i+1)).map eA.body))=V2 at ih ⊢;generalize hS (X++nn k) (acc++(x.body::(e.bu.drop (i+1)).map eA.body))=S2 at ih ⊢;generalize hT (acc++(x.body::(e.bu.drop (i+1)).map eA.body))=T2 at ih ⊢;have hne:acc++[x.body]≠[]:=by simp
   have hn1:∀Y,bA Y→∀aY ts,bV aY ts (Y++[some (b_ Ex.cells (acc++[x.body]))])=(Y++[some (b_ Ex.cells (acc++[x.body]))],aY,ts):=fun Y hY=>(hY.app (bA.one cJ)).norm
   have hfl:b_ Ex.cells (acc++[x.body])=b_ Ex.cells acc++x.body.cl:=(by rw [qy,←Ex.sH];simp [b_]);by_cases h0:acc=[]
   · subst h0;rw [if_pos rfl] at ih;have hn2:=hn1 X hX;simp only [List.nil_append] at hne hn2 hfl ih;simp only [hV,hS,hT,if_neg hne,if_true] at ih ⊢;rw [hfl] at hn2 ih;simp only [CY,List.nil_append] at hn2 ih;simp only [Ex.cl] at hn2;rw [g414L0e] at ih ⊢;simp [hn2] at ih;simp (disch:=omega) [-getElem?_pos,g414B0,hx,hi,az,hnX];rw [g414L0e];simp [hn2,ih]
   · rw [if_neg h0] at ih;have hn2:=hn1 (X++[none]) (hX.app (eM 1));have hn3:∀aY ts,bV aY ts (X++[some (b_ Ex.cells acc)])=(X++[some (b_ Ex.cells acc)],aY,ts):=(hX.app (bA.one cJ)).norm;simp only [hV,hS,hT,if_neg hne,if_neg h0] at ih ⊢;have r1:(b_ Ex.cells acc).length=acc.length*11:=d7 ej;have r2:dr (b_ Ex.cells acc)=false:=dw cJ;have r3:(b_ Ex.cells acc).take (acc.length*11)=b_ Ex.cells acc:=List.take_of_length_le (by omega);have hb2:(acc.length+1)*152≤140737488355328:=by omega
     rw [hfl] at hn2 ih;rw [List.length_append,List.length_singleton,List.length_append,List.length_singleton] at ih;have s1:∀u w:Option (List AV),(X++[u]).set X.length w=X++[w]:=fun u w=>by simp
     have s2:∀u:Option (List AV),(X++[u])[X.length]?=some u:=fun u=>by simp
     simp only [Ex.cl] at hn2;rw [g414L0e] at ih ⊢;generalize b_ Ex.cells acc=F at *;simp [hn2] at ih;simp (disch:=omega) [-getElem?_pos,g414B0,hx,hi,az,hn3,r1,r2,r3,s1,s2,hb2];rw [g414L0e];simp [hn2,ih]
theorem c414 {e:Ex} (h:e.Ok):(aP AP).p 414 [e.pv]=some [.aI (e.ch.map Ex.pv)]:=by
 have hk:=h.k;have ha:=h.a;obtain ⟨k,h2⟩:=Nf ha _ 0 rfl (by omega) [] e.kids (by intro cs h;simp at h) (by omega);rw [List.drop_zero] at h2
 change cl AP g414L0 _=some (.exit 0,⟨[(3,hV ([]++nn k) e.ch),(10,.pv (.aI (e.bu.map Ar.pv))),(11,.pv (vI e.bu.length)),(12,.pv (vI e.bu.length)),(13,.pv (.bool false))],[],hS ([]++nn k) e.ch,hT e.ch⟩) at h2
 have hb2:e.kids.length*152≤140737488355328:=by omega
 have hm:=Ca (l:=e.kids);have hl:=B' (l:=e.ch);have hlen:(b_ Ex.cells e.ch).length=e.ch.length*11:=d7 ej;have hq0:∀aY ts,bV aY ts ([some (b_ Ex.cells e.kids)])=([some (b_ Ex.cells e.kids)],aY,ts):=(bA.one cJ).norm;rw [aw (af:=g414) rfl rfl (by decide)];by_cases hc:e.ch=[]
 · have h0:e.kids=[]∧e.bu=[]:=by have:=hc;simpa [Ex.ch] using this
   simp only [hc,hV,hS,hT,if_true,h0.1] at h2 ⊢;rw [g414L0e] at h2;simp [h0.1,h0.2] at h2;simp [g414,h0.1,h0.2,g414L0e,h2]
 · have hg:∀Z:Option (List AV),([]++nn k++[Z])[k]?=some Z:=fun Z=>by simp
   by_cases h0:e.kids=[]
   · simp only [hV,hS,hT,if_neg hc,h0,if_true] at h2 ⊢;have hg1:=hg (some (b_ Ex.cells e.ch));generalize []++nn k++[some (b_ Ex.cells e.ch)]=S2 at *;generalize b_ Ex.cells e.ch=F at *;rw [g414L0e] at h2;simp [h0] at h2;simp at hl;simp [-getElem?_pos,g414,h0,g414L0e,h2,hg1,hlen,hl]
   · simp only [hV,hS,hT,if_neg hc,if_neg h0] at h2 ⊢;have hg1:=hg (some (b_ Ex.cells e.ch));generalize []++nn k++[some (b_ Ex.cells e.ch)]=S2 at *;generalize b_ Ex.cells e.ch=F at *;generalize b_ Ex.cells e.kids=F0 at *;rw [g414L0e] at h2;simp [hq0] at h2 hl;simp [-getElem?_pos,g414,h0,hb2,hm,hq0,g414L0e,h2,hg1,hlen,hl]
def Ng:Ex:=⟨0,0,[],0,[],[],bW⟩
def Ex.at:Ex→List Int→Option Ex
 | e,[]=>some e
 | e,i::r=>if 0≤i∧i<e.ch.length then match e.ch[i.toNat]? with | some x=>x.at r | none=>none else none
def zO:List AV:=[.pv (vI 0),.pv (vI 0),.pv (.str []),.pv (vI 0),.own [] 0,.own [] 1,.pv (vI 0),.pv (.str []),.pv (vI 0),.pv (vI 0),.own [] 2]
def zK:List AV:=[.pv (vI 0),.pv (vI 0),.pv (.str []),.pv (vI 0),.bM [],.bM [],.pv (vI 0),.pv (.str []),.pv (vI 0),.pv (vI 0),.bM []]
def atR:Option Ex→List PV
 | some x=>[x.pv,.bool true]
 | none=>[Ng.pv,.bool false]
def F6 (p:List Int):Option Ex→Option (bH×St)
 | some x=>some (.exit 0,⟨[(1,.pv (.aI (p.map vI))),(2,.aG 2 0),(4,.aG 4 0),(6,.pv (vI p.length)),(11,.pv (.bool false))],[(2,x.cl),(4,zO)],[],[0,0,0]⟩)
 | none=>some (.ret,⟨[(4,.aG 4 0),(5,.pv (.bool false))],[(4,zK)],[],[0,0,0]⟩)
theorem Pc {p:List Int} (hp:Sm p):∀(n i:Nat),p.length-i=n→i≤p.length→∀e:Ex,e.Ok →
   cl AP g439L0 ⟨[(1,.pv (.aI (p.map vI))),(2,.aG 2 0),(4,.aG 4 0),(6,.pv (vI i))],[(2,e.cl),(4,zO)],[],[0,0,0]⟩=F6 p (e.at (p.drop i))
 | 0,i,hn,hi,e,he=>by
   have:i=p.length:=by omega
   subst this;rw [g439L0e];simp [g439B0,Ex.at,F6,zO]
 | n+1,i,hn,hi,e,he=>by
   have hi:i<p.length:=(by omega);obtain ⟨k,hk⟩:=bD hi;unfold Sm at hp;have c:=c145 he;simp at c;rw [cp hk,g439L0e];simp only [Ex.at];by_cases h1:0≤k∧k<e.ch.length
   · rw [if_pos h1];obtain ⟨m,rfl,hm⟩:=kW h1.1 h1.2;obtain ⟨x,hx⟩:=bD hm;have ih:=Pc hp n (i+1) (by omega) (by omega) x (he.c x (bt hx));have hm':¬e.ch.length≤m:=by omega
     simp [hx,zO] at ih ⊢;generalize e.ch=C at *;simp (disch:=omega) [-getElem?_pos,g439B0,hk,hi,az,c,hx,hm,hm',ih]
   · rw [if_neg h1];by_cases h2:0≤k
     · have h3:¬k<e.ch.length:=fun h=>h1 ⟨h2,h⟩
       have h3':¬k<0:=(by omega);have h4:(e.ch.length:Int)≤k:=(by omega);generalize e.ch=C at *;simp (disch:=omega) [-getElem?_pos,g439B0,hk,hi,az,c,F6,zO,zK,h3,h3',h4]
     · have h3':k<0:=(by omega);generalize e.ch=C at *;simp (disch:=omega) [-getElem?_pos,g439B0,hk,hi,az,c,F6,zO,zK,h3']
theorem c439 {e:Ex} (h:e.Ok) {p:List Int} (hp:Sm p):(aP AP).p 439 [e.pv,.aI (p.map vI)]=some (atR (e.at p)):=by
 have h2:=Pc hp _ 0 rfl (by omega) e h;simp at h2;rw [aw (af:=g439) rfl rfl (by decide)];rw [g439L0e] at h2;cases hx:e.at p with
 | none=>rw [hx] at h2;simp [F6,zO,zK] at h2;simp [g439,g439L0e,h2,atR,Ng,bW]
 | some x=>rw [hx] at h2;simp [F6,zO,zK] at h2;simp [g439,g439L0e,h2,atR,Ng,bW]
def F7 (p:List Int):Option Ex→Option (bH×St)
 | some x=>some (.exit 0,⟨[(2,.aG 2 0),(4,.aG 4 0),(9,.pv (.aI (p.map vI))),(10,.pv (vI p.length)),(11,.pv (vI p.length)),(12,.pv (.bool false))],[(2,x.cl),(4,zO)],[],[0,0,0]⟩)
 | none=>some (.ret,⟨[(4,.aG 4 0),(5,.pv (.bool false))],[(4,zK)],[],[0,0,0]⟩)
theorem Pd {p:List Int} (hp:Sm p):∀(n i:Nat),p.length-i=n→i≤p.length→∀e:Ex,e.Ok →
   cl AP g410L0 ⟨[(2,.aG 2 0),(4,.aG 4 0),(9,.pv (.aI (p.map vI))),(10,.pv (vI p.length)),(11,.pv (vI i))],[(2,e.cl),(4,zO)],[],[0,0,0]⟩=F7 p (e.at (p.drop i))
 | 0,i,hn,hi,e,he=>by
   have:i=p.length:=by omega
   subst this;rw [g410L0e];simp [g410B0,Ex.at,F7,zO]
 | n+1,i,hn,hi,e,he=>by
   have hi:i<p.length:=(by omega);obtain ⟨k,hk⟩:=bD hi;unfold Sm at hp;have c:=c414 he;simp at c;rw [cp hk,g410L0e];simp only [Ex.at];by_cases h1:0≤k∧k<e.ch.length
   · rw [if_pos h1];obtain ⟨m,rfl,hm⟩:=kW h1.1 h1.2;obtain ⟨x,hx⟩:=bD hm;have ih:=Pd hp n (i+1) (by omega) (by omega) x (he.c x (bt hx));have hm':¬e.ch.length≤m:=by omega
     simp [hx,zO] at ih ⊢;generalize e.ch=C at *;simp (disch:=omega) [-getElem?_pos,g410B0,hk,hi,az,c,hx,hm,hm',ih]
   · rw [if_neg h1];by_cases h2:0≤k
     · have h3:¬k<e.ch.length:=fun h=>h1 ⟨h2,h⟩
       have h3':¬k<0:=(by omega);have h4:(e.ch.length:Int)≤k:=(by omega);generalize e.ch=C at *;simp (disch:=omega) [-getElem?_pos,g410B0,hk,hi,az,c,F7,zO,zK,h3,h3',h4]
     · have h3':k<0:=(by omega);generalize e.ch=C at *;simp (disch:=omega) [-getElem?_pos,g410B0,hk,hi,az,c,F7,zO,zK,h3']
theorem c410 {e:Ex} (h:e.Ok) {p:List Int} (hp:Sm p):(aP AP).p 410 [e.pv,.aI (p.map vI)]=some (atR (e.at p)):=by
 have h2:=Pd hp _ 0 rfl (by omega) e h;simp at h2;rw [aw (af:=g410) rfl rfl (by decide)];rw [g410L0e] at h2;cases hx:e.at p with
 | none=>rw [hx] at h2;simp [F7,zO,zK] at h2;simp [g410,g410L0e,h2,atR,Ng,bW]
 | some x=>rw [hx] at h2;simp [F7,zO,zK] at h2;simp [g410,g410L0e,h2,atR,Ng,bW]
def mC (e:Ex) (i:Nat):List (List UInt8):=
 if e.kind=4∨e.kind=7∨(e.kind=6∧i=1) then [e.name]
 else if e.kind=8∧0<i then match e.bu[i-1]? with | some a=>a.vars | none=>[]
 else []
theorem c380 {e:Ex} {i:Nat} (hi:i<e.ch.length) (h8:e.kind=8→e.kids.length=1) (hO:e.Ok):(aP AP).p 380 [e.pv,vI i]=some [.aI ((mC e i).map .str)]:=by
 have ha:=hO.a;rw [Ex.iI] at hi;rw [aw (af:=g380) rfl rfl (by decide)];unfold mC;by_cases h1:e.kind=4
 · simp [g380,h1]
 · by_cases h2:e.kind=7
   · simp [g380,h1,h2]
   · by_cases h3:e.kind=6
     · by_cases h4:i=1
       · simp [g380,h1,h2,h3,h4]
       · have h4':¬(i:Int)=1:=(by omega);simp [g380,h1,h2,h3,h4,h4']
     · by_cases h5:e.kind=8
       · by_cases h6:0<i
         · have h6':(0:Int)<i:=(by omega);have hk:=h8 h5;obtain ⟨a,hx⟩:=bD (l:=e.bu) (i:=i-1) (by omega);obtain ⟨m,rfl⟩:∃m:Nat,i=m+1:=⟨i-1,by omega⟩;have hm:((m+1:Nat):Int)-1=m:=(by omega);have hm':((m:Int)+1)-1=m:=(by omega);simp at hx hi;have hlt:m<e.bu.length:=(by omega);simp (disch:=omega) [-getElem?_pos,g380,h1,h2,h3,h5,h6,h6',az,hm,hm',hx,hlt]
         · have:i=0:=by omega
           subst this;simp [g380,h1,h2,h3,h5]
       · simp [g380,h1,h2,h3,h5]
theorem c411 {e:Ex} {i:Nat} (hi:i<e.ch.length) (h8:e.kind=8→e.kids.length=1) (hO:e.Ok):(aP AP).p 411 [e.pv,vI i]=some [.aI ((mC e i).map .str)]:=by
 have ha:=hO.a;rw [Ex.iI] at hi;rw [aw (af:=g411) rfl rfl (by decide)];unfold mC;by_cases h1:e.kind=4
 · simp [g411,h1]
 · by_cases h2:e.kind=7
   · simp [g411,h1,h2]
   · by_cases h3:e.kind=6
     · by_cases h4:i=1
       · simp [g411,h1,h2,h3,h4]
       · have h4':¬(i:Int)=1:=(by omega);simp [g411,h1,h2,h3,h4,h4']
     · by_cases h5:e.kind=8
       · have hk:=h8 h5;by_cases h6:0<i
         · have h6':(1:Int)≤i:=(by omega);obtain ⟨a,hx⟩:=bD (l:=e.bu) (i:=i-1) (by omega);obtain ⟨m,rfl⟩:∃m:Nat,i=m+1:=⟨i-1,by omega⟩;have hm:((m+1:Nat):Int)-1=m:=(by omega);have hm':((m:Int)+1)-1=m:=(by omega);simp at hx hi;have hlt:m<e.bu.length:=(by omega);have h6'':(1:Int)≤(m:Int)+1:=(by omega);simp (disch:=omega) [-getElem?_pos,g411,h1,h2,h3,h5,hk,h6,h6',h6'',az,hm,hm',hx,hlt]
         · have:i=0:=by omega
           subst this;simp [g411,h1,h2,h3,h5,hk]
       · simp [g411,h1,h2,h3,h5]
def IQ (l:List Ty) (t:Ty):Option Ty:=if t.kind=2∧0≤t.id∧t.id<l.length then l[t.id.toNat]? else none
theorem lQ {l:List Ty} {t u:Ty} (h:IQ l t=some u):t.kind=2∧0≤t.id∧t.id<l.length∧l[t.id.toNat]?=some u:=by
 unfold IQ at h;split at h
 · rename_i c;exact ⟨c.1,c.2.1,c.2.2,h⟩
 · cases h
theorem y5 {l:List Ty} {t:Ty} (h:IQ l t=none):¬(t.kind=2∧0≤t.id∧t.id<l.length):=by
 intro c;unfold IQ at h;rw [if_pos c] at h;rw [List.getElem?_eq_none_iff] at h;omega
mutual
def Ty.ml (l:List Ty):Ty→Ty
 | ⟨k,n,i,h,as⟩=>(IQ l ⟨k,n,i,h,as⟩).getD ⟨k,n,i,h,Ty.IS l as⟩
def Ty.IS (l:List Ty):List Ty→List Ty
 | []=>[]
 | a::r=>a.ml l::Ty.IS l r
end
theorem Ty.y6 (l:List Ty):∀as:List Ty,Ty.IS l as=as.map (Ty.ml l)
 | []=>by simp [Ty.IS]
 | a::r=>by simp [Ty.IS,Ty.y6 l r]
theorem Ty.lR (l:List Ty) (t:Ty):t.ml l=(IQ l t).getD ⟨t.kind,t.name,t.id,t.home,t.args.map (Ty.ml l)⟩:=by
 cases t;simp only [Ty.ml,Ty.y6]
theorem Rf {s:List Ty} {t:Ty} (hS:Sm t.args) (h:∀x∈t.args,(aP AP).p 48 [x.pv,.aI (s.map Ty.pv)]=some [(x.ml s).pv]):∀(n i:Nat),t.args.length-i=n→i≤t.args.length→∀acc:List Ty,acc=(t.args.take i).map (Ty.ml s) →
   cl AP g48L0 ⟨[(1,.pv (.aI (s.map Ty.pv))),(2,.aG 2 0),(4,.aG 4 0),(5,.aG 5 0),(6,.pv (vI i))],
     [(2,[.pv (vI t.kind),.pv (.str t.name),.pv (vI t.id),.pv (vI t.home),.pv (.aI (t.args.map Ty.pv))]),(4,[.pv (vI 0),.pv (.str []),.pv (vI 0),.pv (vI 0),.own [] 0]),
       (5,[.pv (vI t.kind),.pv (.str t.name),.pv (vI t.id),.pv (vI t.home),.own (acc.map Ty.pv) 1])],[],[0,acc.length]⟩ =
     some (.exit 0,⟨[(1,.pv (.aI (s.map Ty.pv))),(2,.aG 2 0),(4,.aG 4 0),(5,.aG 5 0),(6,.pv (vI t.args.length)),(33,.pv (.bool false))],
     [(2,[.pv (vI t.kind),.pv (.str t.name),.pv (vI t.id),.pv (vI t.home),.pv (.aI (t.args.map Ty.pv))]),(4,[.pv (vI 0),.pv (.str []),.pv (vI 0),.pv (vI 0),.own [] 0]),
       (5,[.pv (vI t.kind),.pv (.str t.name),.pv (vI t.id),.pv (vI t.home),.own ((t.args.map (Ty.ml s)).map Ty.pv) 1])],[],[0,t.args.length]⟩)
 | 0,i,hn,hi,acc,ha=>by
   have:i=t.args.length:=by omega
   subst this;subst ha;rw [g48L0e];simp [g48B0]
 | n+1,i,hn,hi,acc,ha=>by
   have hi:i<t.args.length:=(by omega);obtain ⟨x,hx⟩:=bD hi;unfold Sm at hS;have hb:(acc.length+1)*64≤140737488355328:=by subst ha;simp;omega
   have hc:=h x (bt hx);have ih:=Rf hS h n (i+1) (by omega) (by omega) (acc++[x.ml s]) (by rw [List.take_add_one,hx,ha];simp);rw [g48L0e] at ih ⊢;simp at ih hc;simp (disch:=omega) [-getElem?_pos,g48B0,hx,hi,hc,hb,az];rw [g48L0e];simp [ih]
theorem c48 {s:List Ty} (hs:Sm s) {t:Ty} (hO:t.Ok):(aP AP).p 48 [t.pv,.aI (s.map Ty.pv)]=some [(t.ml s).pv]:=by
 revert hO
 refine Ty.eU (p:=fun t=>t.Ok→(aP AP).p 48 [t.pv,.aI (s.map Ty.pv)]=some [(t.ml s).pv]) ?_ t;intro t ih hO;rw [aw (af:=g48) rfl rfl (by decide)];unfold Sm at hs;have h:=Rf (s:=s) hO.sm (fun x hx=>ih x hx (hO.g_ x hx)) _ 0 rfl (by omega) [] (by simp);rw [g48L0e] at h;simp at h;cases hp:IQ s t with
 | some u=>
   obtain ⟨a,b,c,d⟩:=lQ hp;have b1:¬t.id<0:=by omega
   simp (disch:=omega) [-getElem?_pos,g48,a,b,b1,c,d,Ty.lR s t,hp]
 | none=>
   have q:=y5 hp;by_cases a:t.kind=2
   · by_cases b:0≤t.id
     · have c:¬t.id<s.length:=fun c=>q ⟨a,b,c⟩
       simp [a] at h;simp (disch:=omega) [-getElem?_pos,g48,a,b,c,g48L0e,h,Ty.lR s t,hp]
     · simp [a] at h;simp (disch:=omega) [-getElem?_pos,g48,a,b,g48L0e,h,Ty.lR s t,hp]
   · simp (disch:=omega) [-getElem?_pos,g48,a,g48L0e,h,Ty.lR s t,hp]
inductive Ty.Wb:Ty→Prop
 | mk {t:Ty}:(t.kind=2→t.args=[])→(∀x∈t.args,Ty.Wb x)→Ty.Wb t
theorem IT {s:List Ty} (hs:∀a∈s,a.Ok) {t:Ty} (h:t.Ok):(t.ml s).Ok:=by
 revert h
 refine Ty.eU (p:=fun t=>t.Ok→(t.ml s).Ok) ?_ t;intro t ih h;rw [Ty.lR];cases hp:IQ s t with
 | some u=>exact hs u (bt (lQ hp).2.2.2)
 | none=>
   refine ⟨?_,?_⟩
   · have:=h.sm;unfold Sm at this ⊢;simpa using this
   · intro x hx;simp at hx;obtain ⟨y,hy,rfl⟩:=hx;exact ih y hy (h.g_ y hy)
structure Good (S:List Ty) (t:Ty):Prop where
 ok:t.Ok
 wf:t.Wf
 sub:∀x∈t.fe 1,x∈S
theorem uD {t:Ty} (hW:t.Wf):∀x∈t.nodes,x.kind=1→x∈t.fe 1:=by
 revert hW
 refine Ty.eU (p:=fun t=>t.Wf→∀x∈t.nodes,x.kind=1→x∈t.fe 1) ?_ t;intro t ih hW x hx hk;rw [Ty.bh] at hx;rw [Ty.lN];simp only [List.mem_cons,List.mem_flatMap] at hx;rcases hx with rfl | ⟨y,hy,hx⟩
 · have ea:=hW.var hk;simp [hk,ea]
 · have:¬(t.kind=1∧t.args.length=0):=by
     rintro ⟨_,h⟩
     have:t.args=[]:=by simpa using h
     rw [this] at hy;simp at hy
   rw [if_neg this];simp only [List.mem_flatMap];exact ⟨y,hy,ih y hy (hW.g_ y hy) x hx hk⟩
theorem Cb {S:List Ty} (hf:S.length<1099511627776) (hO:∀x∈S,x.Ok) {l:List Ty} (hS:Sm l) (hG:∀t∈l,Good S t):(aP AP).p 56 [.aI (l.map Ty.pv)]=some [.aI ((vars l).map vI)]:=by
 rw [←sB (fun t ht=>(hG t ht).wf)];refine c56 hf hO hS (fun t ht=>(hG t ht).ok) ?_;intro x hx;simp only [List.mem_flatMap] at hx;obtain ⟨t,ht,hx⟩:=hx;exact (hG t ht).sub x hx
theorem Nh {l:List En} (hS:Sm l):∀(n i:Nat),l.length-i=n→i≤l.length→∀acc:List En,acc.length≤i →
   cl AP g201L0 ⟨[(0,.pv (.aI (l.map En.pv))),(3,.own (acc.map En.pv) 0),(4,.pv (vI i))],[],[],[acc.length]⟩ =
     some (.exit 0,⟨[(0,.pv (.aI (l.map En.pv))),(3,.own ((acc++dM (l.drop i)).map En.pv) 0),(4,.pv (vI l.length)),(10,.pv (.bool false))],[],[],[(acc++dM (l.drop i)).length]⟩)
 | 0,i,hn,hi,acc,ha=>by
   have:i=l.length:=by omega
   subst this;rw [g201L0e];simp [g201B0,dM]
 | n+1,i,hn,hi,acc,ha=>by
   have hi:i<l.length:=(by omega);obtain ⟨x,hx⟩:=bD hi;have k:=c181 (l:=l.drop (i+1)) (s:=x.name) (by unfold Sm at hS ⊢;simp;omega);unfold Sm at hS;have hb:(acc.length+1)*88≤140737488355328:=(by omega);have hsl:=QT (sz:=7) (l:=l.map En.pv) (k:=.i64) (h:=(i:Int)+1) (by omega) (by simp;omega) (by simp);have hd:((i:Int)+1).toNat=i+1:=(by omega);rw [hd] at hsl;rw [cp hx];simp only [KR] at k;cases e:CV (l.drop (i+1)) x.name with
   | some c=>
     have ea:(l.drop (i+1)).any (fun y=>decide (y.name=x.name))=true:=any_none.2 ⟨c,e⟩;have es:dM (x::l.drop (i+1))=dM (l.drop (i+1)):=(by simp only [dM,ea,if_true]);have ih:=Nh hS n (i+1) (by omega) (by omega) acc (by omega);rw [g201L0e] at ih ⊢;rw [e] at k;simp at ih k;simp (disch:=omega) [-getElem?_pos,g201B0,hx,hi,az,hsl,k,es];rw [g201L0e];simp [ih]
   | none=>
     have ea:(l.drop (i+1)).any (fun y=>decide (y.name=x.name))=false:=by
       cases h:(l.drop (i+1)).any (fun y=>decide (y.name=x.name)) with
       | false=>rfl
       | true=>obtain ⟨c,hc⟩:=any_none.1 h;rw [e] at hc;cases hc
     have es:dM (x::l.drop (i+1))=x::dM (l.drop (i+1)):=(by simp only [dM,ea];simp);have ih:=Nh hS n (i+1) (by omega) (by omega) (acc++[x]) (by simp;omega);rw [g201L0e] at ih ⊢;rw [e] at k;simp at ih k;simp (disch:=omega) [-getElem?_pos,g201B0,hx,hi,az,hsl,k,es,hb];rw [g201L0e];simp [ih]
theorem c201 {l:List En} (hS:Sm l):(aP AP).p 201 [.aI (l.map En.pv)]=some [.aI ((dM l).map En.pv)]:=by
 have h:=Nh hS _ 0 rfl (by omega) [] (by simp);rw [aw (af:=g201) rfl rfl (by decide)];rw [g201L0e] at h;simp at h;simp [g201,g201L0e,h]
inductive Ty.Kn (K:Int→Prop):Ty→Prop
 | mk {t:Ty}:(t.kind≠4→K t.kind∧t.args=[])→t.name.length≤100→(∀x∈t.args,x.Kn K)→t.Kn K
theorem Ty.Kn.hd {K:Int→Prop} {t:Ty} (h:t.Kn K):t.kind≠4→K t.kind∧t.args=[]:=by cases h;assumption
theorem Ty.Kn.nm {K:Int→Prop} {t:Ty} (h:t.Kn K):t.name.length≤100:=by cases h;assumption
theorem Ty.Kn.kd {K:Int→Prop} {t:Ty} (h:t.Kn K):∀x∈t.args,x.Kn K:=by cases h;assumption
theorem Ty.Kn.imp {K K':Int→Prop} (hK:∀k,K k→K' k) {t:Ty} (h:t.Kn K):t.Kn K':=by
 induction h with
 | mk h1 hn _ ih=>exact .mk (fun q=>⟨hK _ (h1 q).1,(h1 q).2⟩) hn ih
theorem Ty.Kn.wf {K:Int→Prop} {t:Ty} (h:t.Kn K):t.Wf:=by
 induction h with
 | mk h1 _ _ ih=>exact ⟨fun q=>(h1 (by rw [q];decide)).2,ih⟩
theorem Ty.Kn.cw {K:Int→Prop} {t:Ty} (h:t.Kn K):t.Cw:=by
 induction h with
 | mk h1 _ _ ih=>exact ⟨fun q=>(h1 q).2,ih⟩
theorem Ty.Kn.bare {K:Int→Prop} {t:Ty} (h:t.args=[]) (hk:t.kind≠4→K t.kind) (hn:t.name.length≤100):t.Kn K:=.mk (fun q=>⟨hk q,h⟩) hn (by rw [h];simp)
theorem Ty.Kn.nodes {K:Int→Prop} {t:Ty} (h:t.Kn K):∀y∈t.nodes,y.kind≠4→K y.kind∧y.args=[]:=by
 induction h with
 | @mk t h1 _ _ ih=>
   intro y hy;rw [Ty.bh] at hy;simp only [List.mem_cons,List.mem_flatMap] at hy;rcases hy with rfl | ⟨a,ha,hy⟩
   · exact h1
   · exact ih a ha y hy
@[simp] def KS (k:Int):Prop:=k=0∨k=1∨k=3
abbrev Ty.Kw (t:Ty):Prop:=t.Kn KS
theorem Ty.Kw.var {t:Ty} (h:t.Kw):t.kind=1→t.args=[]:=fun q=>(Ty.Kn.hd h (by rw [q];decide)).2
theorem Ty.Kw.g_ {t:Ty} (h:t.Kw):∀x∈t.args,x.Kw:=Ty.Kn.kd h
@[simp] def KG (k:Int):Prop:=k=0∨k=3
@[simp] def KC (k:Int):Prop:=k=0∨k=2∨k=3
@[simp] def KV (k:Int):Prop:=k=0∨k=1∨k=2∨k=3
theorem LM:∀k,KG k→KS k:=by intro k h;simp at h ⊢;omega
theorem Pe:∀k,KG k→KC k:=by intro k h;simp at h ⊢;omega
theorem Pf:∀k,KC k→KV k:=by intro k h;simp at h ⊢;omega
theorem Cc {K K':Int→Prop} {s:List As} {t:Ty} (h:t.Kn K) (hK:∀k,K k→k≠1→K' k) (hs:∀i x,kA s i=some x→x.Kn K') (h1:K' 1∨∀y∈t.nodes,y.kind=1→∃x,kA s y.id=some x):(t.sub s).Kn K':=by
 induction h with
 | @mk t hh hn _ ih=>
   have hself:t∈t.nodes:=(by rw [Ty.bh];simp);rw [Ty.sub_eq];by_cases q:t.kind=1
   · rw [if_pos q];cases e:kA s t.id with
     | some x=>simpa using hs _ _ e
     | none=>
       rcases h1 with h1 | h1
       · have:=hh (by rw [q];decide);exact .mk (fun _=>⟨by simp only [Option.getD_none];rw [q];exact h1,by simpa using this.2⟩) (by simpa using hn) (by rw [Option.getD_none,this.2];simp)
       · obtain ⟨x,hx⟩:=h1 t hself q;rw [hx] at e;cases e
   · rw [if_neg q];refine .mk (fun r=>?_) hn ?_
     · have:=hh r;exact ⟨hK _ this.1 q,by simp [this.2]⟩
     · intro x hx;simp only [List.mem_map] at hx;obtain ⟨a,ha,rfl⟩:=hx;refine ih a ha ?_;rcases h1 with h1 | h1
       · exact .inl h1
       · right;intro y hy;refine h1 y ?_;rw [Ty.bh];simp only [List.mem_cons,List.mem_flatMap];exact .inr ⟨a,ha,hy⟩
theorem IU {K K':Int→Prop} {l:List Ty} {t:Ty} (h:t.Kn K) (hK:∀k,K k→k≠2→K' k) (hs:∀x∈l,x.Kn K') (h1:∀y∈t.nodes,y.kind=2→0≤y.id∧y.id<l.length):(t.ml l).Kn K':=by
 induction h with
 | @mk t hh hn _ ih=>
   have hself:t∈t.nodes:=(by rw [Ty.bh];simp);rw [Ty.lR];cases e:IQ l t with
   | some x=>
     obtain ⟨_,_,_,hx⟩:=lQ e;simpa using hs _ (bt hx)
   | none=>
     have q:t.kind≠2:=fun q=>y5 e ⟨q,(h1 t hself q).1,(h1 t hself q).2⟩
     simp only [Option.getD_none];refine .mk (fun r=>?_) hn ?_
     · have:=hh r;exact ⟨hK _ this.1 q,by simp [this.2]⟩
     · intro x hx;simp only [List.mem_map] at hx;obtain ⟨a,ha,rfl⟩:=hx;refine ih a ha ?_;intro y hy;refine h1 y ?_;rw [Ty.bh];simp only [List.mem_cons,List.mem_flatMap];exact .inr ⟨a,ha,hy⟩
theorem Ex.C0 {e x:Ex} (h:x∈e.ch):SizeOf.sizeOf x<SizeOf.sizeOf e:=by
 rw [Ex.ch,List.mem_append,List.mem_map] at h;cases e;rcases h with h | ⟨a,ha,rfl⟩
 · have:=_root_.List.sizeOf_lt_of_mem h;simp at *;omega
 · have:=_root_.List.sizeOf_lt_of_mem ha;have:=eA.uB a;simp at *;omega
def Ex.sz (e:Ex):Nat:=1+(e.ch.attach.map fun x=>x.1.sz).sum
termination_by SizeOf.sizeOf e
decreasing_by exact Ex.C0 x.2
theorem Ex.p8 (e:Ex):e.sz=1+(e.ch.map Ex.sz).sum:=by
 rw [Ex.sz,List.map_attach_eq_pmap,List.pmap_eq_map]
theorem Ex.Ni (e:Ex):1≤e.sz:=by rw [Ex.p8];omega
theorem sI {α:Type} {l:List α} {f:α→Nat} {M:Nat} (h:∀x∈l,f x≤M):(l.map f).sum≤l.length*M:=by
 induction l with
 | nil=>simp
 | cons a r ih=>
   have h1:=h a (by simp);have h2:=ih fun x hx=>h x (by simp [hx])
   simp only [List.map_cons,List.sum_cons,List.length_cons,Nat.add_mul];omega
theorem sJ {α:Type} {l:List α} {f:α→Nat} {x:α} (h:x∈l):f x≤(l.map f).sum:=by
 induction l with
 | nil=>cases h
 | cons a r ih=>
   simp only [List.map_cons,List.sum_cons];rcases List.mem_cons.1 h with rfl | h
   · omega
   · have:=ih h;omega
theorem Ex.wq {e x:Ex} (h:x∈e.ch):x.sz<e.sz:=by
 have:=sJ (f:=Ex.sz) h;rw [e.p8];omega
@[simp] def KT (k:Int):Prop:=k=0∨k=5
inductive mm:Ex→Prop
 | leaf {e:Ex}:(e.kind=1∨e.kind=2)∧e.name.length≤100∨e.kind=3∧0≤e.num∧e.num<4∨e.kind=10→e.kids=[]→e.bu=[]→mm e
 | lam {e a:Ex}:e.kind=4→e.name.length≤100→e.kids=[a]→e.bu=[]→mm a→mm e
 | app {e a b:Ex}:e.kind=5→e.kids=[a,b]→e.bu=[]→mm a→mm b→mm e
 | y7 {e a b:Ex}:e.kind=6∨e.kind=7→e.name.length≤100→e.kids=[a,b]→e.bu=[]→mm a→mm b→mm e
 | sK {e a:Ex}:e.kind=8→e.kids=[a]→mm a→e.bu.length≤10 →
     (∀x∈e.bu,x.iV.length≤100∧x.vars.length≤10∧∀v∈x.vars,v.length≤100)→(∀x∈e.bu,mm x.body)→mm e
 | LN {e a:Ex}:e.kind=9→e.kids=[a]→e.bu=[]→e.ty.Kn KT→e.ty.nodes.length≤10000→mm a→mm e
 | held {e a:Ex}:e.kind=11→e.kids=[a]→e.bu=[]→mm a→mm e
theorem mm.c {e:Ex} (h:mm e):∀x∈e.ch,mm x:=by
 intro x hx;rw [Ex.ch,List.mem_append,List.mem_map] at hx;cases h with
 | leaf _ h2 h3=>rw [h2,h3] at hx;simp at hx
 | lam _ _ h2 h3 h=>rw [h2,h3] at hx;simp at hx;subst hx;exact h
 | app _ h2 h3 h h'=>rw [h2,h3] at hx;simp at hx;rcases hx with rfl | rfl<;>assumption
 | y7 _ _ h2 h3 h h'=>rw [h2,h3] at hx;simp at hx;rcases hx with rfl | rfl<;>assumption
 | LN _ h2 h3 _ _ h=>rw [h2,h3] at hx;simp at hx;subst hx;exact h
 | held _ h2 h3 h=>rw [h2,h3] at hx;simp at hx;subst hx;exact h
 | sK _ h2 h _ _ h6=>
   rw [h2] at hx;simp at hx;rcases hx with rfl | ⟨a,ha,rfl⟩
   · exact h
   · exact h6 a ha
def wN (n:Nat):Nat:=50 ^ (n / 12)*(2*(n % 12)+1)
theorem Pg {n m:Nat} (h:n≤m):wN n≤wN m:=by
 have step:∀n,wN n≤wN (n+1):=by
   intro n;unfold wN;by_cases q:n % 12=11
   · have h1:(n+1) / 12=n / 12+1:=(by omega);have h2:(n+1) % 12=0:=(by omega);rw [h1,h2,q,Nat.pow_succ];generalize 50 ^ (n / 12)=P;omega
   · have h1:(n+1) / 12=n / 12:=(by omega);have h2:(n+1) % 12=n % 12+1:=(by omega);rw [h1,h2];exact Nat.mul_le_mul_left _ (by omega)
 induction h with
 | refl=>exact Nat.le_refl _
 | step _ ih=>exact Nat.le_trans ih (step _)
theorem sL (m:Nat):wN (12*m)=50 ^ m:=by
 unfold wN;have h1:12*m / 12=m:=by omega
 have h2:12*m % 12=0:=by omega
 rw [h1,h2];omega
theorem tK {α:Type} {l:List α} {i:Nat} {x:α} (h:i<l.length):(l.set i x).take (i+1)=l.take i++[x]:=by
 rw [List.set_eq_take_append_cons_drop,if_pos h,List.take_append,List.take_of_length_le (by simp;omega)];have:i+1-(l.take i).length=1:=by simp;omega
 rw [this];rfl
theorem y8 {α:Type} {l:List α} {i j:Nat} {x:α} (h:i<j):(l.set i x).drop j=l.drop j:=by
 rw [List.drop_set_of_lt h]
theorem Nj {X:Sh} (hX:bA X) {t:List UInt8} {N:Nat} (hN:N<1099511627776):∀(n j:Nat),N-j=n→j≤N→∀(a:List (List UInt8)) (i:Nat),a.length=N→i<j→∃(a':List (List UInt8)) (i':Nat),
   cl AP g412L0 ⟨[(0,.bE X.length 1 N false),(1,.fn 413 [.br (X.length+1) 0]),(5,.pv (vI i)),(6,.pv (vI j))],[],SA X a t,[]⟩ =
     some (.exit 0,⟨[(0,.bE X.length 1 N false),(1,.fn 413 [.br (X.length+1) 0]),(5,.pv (vI i')),(6,.pv (vI N)),(19,.pv (.bool false))],[],SA X a' t,[]⟩) ∧
     a'.length=N∧i'≤N∧a'.take i'=a.take i++(a.drop j).filter (fun x=>!decide (x=t))
 | 0,j,hk,hj,a,i,ha,hi=>by
   have:j=N:=by omega
   subst this;have hn:=(fD hX (l:=a) (t:=t)).norm;refine ⟨a,i,?_,ha,by omega,by rw [List.drop_of_length_le (by omega)];simp⟩;generalize SA X a t=SH at hn ⊢;rw [g412L0e];simp [g412B0,hn]
 | n+1,j,hk,hj,a,i,ha,hi=>by
   have hj:j<N:=(by omega);obtain ⟨x,hx⟩:=bD (l:=a) (i:=j) (by omega);have hn:=(fD hX (l:=a) (t:=t)).norm;have hs:=(fD hX (l:=a) (t:=t)).shift;have hg:=IN hx;have hB:dr (tx a)=false:=dw lP;have hle:j+1≤(tx a).length:=(by rw [nd];omega);have hle2:i+1≤(tx a).length:=(by rw [nd];omega);have hA:=B_ (X:=X) (l:=a) (t:=t);have q:=IP hn hs IL (by rw [wo];omega) (x:=x) (t:=t) (c:=X.length+1);by_cases e:x=t
   · obtain ⟨a',i',e1,e2,e3,e4⟩:=Nj hX (t:=t) hN n (j+1) (by omega) (by omega) a i ha (by omega);refine ⟨a',i',?_,e2,e3,by rw [e4,cp hx];simp [e]⟩;rw [decide_eq_true e] at q;generalize SA X a' t=SR at e1 ⊢;generalize SA X a t=SH at hn hs hA q e1 ⊢;rw [g412L0e] at e1 ⊢;simp [hn] at e1;simp (disch:=omega) [-getElem?_pos,-jj,g412B0,hj,hn,hA,hg,hB,hle,q,az];rw [g412L0e];simp [hn,e1]
   · obtain ⟨a',i',e1,e2,e3,e4⟩:=Nj hX (t:=t) hN n (j+1) (by omega) (by omega) (a.set i x) (i+1) (by simpa using ha) (by omega);refine ⟨a',i',?_,e2,e3,by rw [e4,cp hx,tK (by omega),y8 (by omega)];simp [e]⟩;rw [decide_eq_false e] at q;have hiN:i<N:=by omega
     have htx:=Nc (l:=a) (i:=i) (by omega) (s:=x);have hset:=IM (X:=X) (l:=a) (l':=a.set i x) (t:=t);have hn1:=(fD hX (l:=a.set i x) (t:=t)).norm;generalize SA X a' t=SR at e1 ⊢;generalize SA X (a.set i x) t=S1 at hset hn1 e1;generalize SA X a t=SH at hn hs hA q hset ⊢;generalize tx (a.set i x)=T1 at htx hset;rw [g412L0e] at e1 ⊢;simp [hn1] at e1 htx;simp (disch:=omega) [-getElem?_pos,-jj,g412B0,hj,hn,hA,hg,hB,hle,hle2,hiN,q,az,htx,hset];rw [g412L0e];simp [hn1,e1]
theorem c421 {SH:Sh} (hn:∀aY ts,bV aY ts SH=(SH,aY,ts)) (hs:∀n,fp n SH=SH) {b c:Nat} {t:List UInt8} {l:List (List UInt8)} (hS:Sm l) (ha:SH[b]?=some (some (tx l))) (hb:SH[c]?=some (some [.pv (.str t)])) (hc:c<SH.length) :
   (aP AP).i 421 [.bE b 1 l.length false,.fn 413 [.br c 0]] SH []=some ([.pv (vI (mB (dz (fun x=>decide (x=t)) l)))],SH,[]):=by
 have h:=Pa hn hs hS ha hb hc _ 0 rfl (by omega);simp at h;rw [aR (af:=B8 1 false) rfl (by simp [B8])];cases hi:dz (fun x=>decide (x=t)) l with
 | none=>rw [hi] at h;simp at h;simp [B8,h,hn,mB]
 | some k=>rw [hi] at h;simp at h;simp [B8,h,hn,mB]
theorem C1 {α:Type} {p:α→Bool}:∀{l:List α},dz p l=none→l.filter (fun x=>!p x)=l
 | [],_=>rfl
 | x::r,h=>by
   simp only [dz] at h;split at h
   · simp at h
   · rename_i e;cases h':dz p r with
     | none=>simp [e,C1 h']
     | some k=>rw [h'] at h;simp at h
theorem C2 {α:Type} {p:α→Bool}:∀{l:List α} {k:Nat},dz p l=some k→k<l.length∧l.filter (fun x=>!p x)=l.take k++(l.drop (k+1)).filter (fun x=>!p x)
 | [],_,h=>by simp [dz] at h
 | x::r,k,h=>by
   simp only [dz] at h;split at h
   · rename_i e;simp at h;subst h;simp [e]
   · rename_i e;cases h':dz p r with
     | none=>rw [h'] at h;simp at h
     | some k'=>
       rw [h'] at h;simp at h;subst h;obtain ⟨h1,h2⟩:=C2 h';exact ⟨by simpa using h1,by simp [e,h2]⟩
theorem IV {a:List (List UInt8)} {i N:Nat} (hN:a.length=N) (h:i≤N):bn (tx a) i ((List.replicate (N-i) [AV.pv (.str [])]).flatten)=tx (a.take i++List.replicate (N-i) []):=by
 have e:∀k,(List.replicate k [AV.pv (.str [])]).flatten=List.replicate k (AV.pv (.str [])):=by
   intro k;induction k with
   | zero=>rfl
   | succ k ih=>simp only [List.replicate_succ,List.flatten_cons,ih];rfl
 rw [e,aK,List.drop_eq_nil_of_le (by rw [nd];simp;omega)];simp [tx,List.map_take]
theorem c412 {X:Sh} (hX:bA X) {t:List UInt8} {l:List (List UInt8)} (hS:Sm l):∃a:List (List UInt8),a.length=l.length∧a.take (l.filter fun x=>!decide (x=t)).length=l.filter (fun x=>!decide (x=t)) ∧
   (aP AP).i 412 [.bE X.length 1 l.length false,.fn 413 [.br (X.length+1) 0]] (SA X l t) []=some ([.bE X.length 1 (l.filter fun x=>!decide (x=t)).length false],SA X a t,[]):=by
 have hS':=hS;unfold Sm at hS';have hn:=(fD hX (l:=l) (t:=t)).norm;have hs:=(fD hX (l:=l) (t:=t)).shift;have k:=c421 hn hs (b:=X.length) (c:=X.length+1) hS B_ IL (by rw [wo];omega);have hlen:=wo (X:=X) (l:=l) (t:=t);cases hi:dz (fun x=>decide (x=t)) l with
 | none=>
   rw [hi] at k;have hf:=C1 hi;refine ⟨l,rfl,by rw [hf];simp,?_⟩;rw [hf,aR (af:=g412) rfl (by simp [g412])];generalize SA X l t=SH at hn hs k hlen ⊢;simp [mB] at k;have ht:SH.take SH.length=SH:=List.take_length;simp [-getElem?_pos,g412,hn,hs,k,mB,hlen];rw [←hlen,ht];simp [hn]
 | some i0=>
   rw [hi] at k;obtain ⟨h0,hf⟩:=C2 hi;obtain ⟨a',i',e1,e2,e3,e4⟩:=Nj hX (t:=t) (N:=l.length) (by omega) _ (i0+1) rfl (by omega) l i0 rfl (by omega);rw [←hf] at e4;have hi':(l.filter fun x=>!decide (x=t)).length=i':=by rw [←e4];simp;omega
   refine ⟨a'.take i'++List.replicate (l.length-i') [],by simp;omega,?_,?_⟩
   · rw [hi',←e4,List.take_append_of_le_length (by simp;omega),List.take_take];simp
   · rw [hi',aR (af:=g412) rfl (by simp [g412])];have hn1:=(fD hX (l:=a') (t:=t)).norm;have hn2:=(fD hX (l:=a'.take i'++List.replicate (l.length-i') []) (t:=t)).norm;have hB:dr (tx a')=false:=dw lP;have hA:=B_ (X:=X) (l:=a') (t:=t);have htl:(tx a').length=l.length:=by rw [nd,e2]
     have hcl:=IV e2 e3;have hset:=IM (X:=X) (l:=a') (l':=a'.take i'++List.replicate (l.length-i') []) (t:=t);have hl2:=wo (X:=X) (l:=a'.take i'++List.replicate (l.length-i') []) (t:=t);generalize SA X (a'.take i'++List.replicate (l.length-i') []) t=S2 at hn2 hset hl2 ⊢;generalize SA X a' t=S1 at hn1 hA hset e1;generalize SA X l t=SH at hn hs k hlen e1 ⊢;generalize tx (a'.take i'++List.replicate (l.length-i') [])=T2 at hcl hset;have ht:S2.take S2.length=S2:=List.take_length;rw [g412L0e] at e1;simp [hn] at e1;have hi0:¬((i0:Int)=-1):=(by omega);have hle:i'+(l.length-i')≤l.length:=(by omega);rcases Nat.eq_zero_or_pos i' with hz | hz
     · subst hz;simp at hcl;simp (disch:=omega) [-getElem?_pos,g412,hn,hs,k,mB,hi0,az,g412L0e,e1,jR,dZ,hA,hB,htl,hcl,hset,hlen];rw [←hl2,ht];simp [hn2]
     · have hz':¬((i':Int)=0):=(by omega);have hz2:¬i'=0:=(by omega);simp [e3] at hcl;simp (disch:=omega) [-getElem?_pos,g412,hn,hs,k,mB,hi0,az,g412L0e,e1,jR,dZ,hz',hz2,e3,hA,hB,htl,hle,hcl,hset,hlen];rw [←hl2,ht];simp [hn2]
def mo (l:List (List UInt8)) (t:List UInt8):List (List UInt8):=(l.filter fun x=>!decide (x=t))++[t]
theorem c412e {SH:Sh} (hn:∀aY ts,bV aY ts SH=(SH,aY,ts)) (hs:∀n,fp n SH=SH) {c:Nat} :
   (aP AP).i 412 [.own [] 0,.fn 413 [.br c 0]] SH [0]=some ([.own [] 0],SH,[0]):=by
 have k:(aP AP).i 421 [.pv (.aI []),.fn 413 [.br c 0]] SH []=some ([.pv (vI (-1))],SH,[]):=by
   rw [aR (af:=B8 1 false) rfl (by simp [B8])];simp [B8,hn,wj,FZ]
 rw [aR (af:=g412) rfl (by simp [g412])];have ht:SH.take SH.length=SH:=List.take_length;simp [-getElem?_pos,g412,hn,hs,k,ht]
def zF (X:Sh) (l:List (List UInt8)):AV:=if l=[] then .own [] 0 else .bE X.length 1 l.length false
def wK (X:Sh) (l:List (List UInt8)):Sh:=if l=[] then X else X++[some (tx l)]
def zG (l:List (List UInt8)):aN:=if l=[] then [0] else []
theorem IW {e:List AV} (he:∀v∈e,∃p,v=AV.pv p) {i9 i22:Int} {p20:PV} {n21:Int} {V:List (List UInt8)} (hV:V.length<1000000):∀(n j:Nat),V.length-j=n→j≤V.length→∀(X:Sh) (l:List (List UInt8)),bA X→l.length+n<1000000000→∃X',bA X' ∧
   cl AP g404L1 ⟨[(2,.aG 2 0),(7,zF X l),(9,.pv (vI i9)),(20,.pv p20),(21,.pv (vI n21)),(22,.pv (vI i22)),(28,.pv (.aI (V.map .str))),(29,.pv (vI V.length)),(30,.pv (vI j))],[(2,e)],wK X l,zG l⟩ =
     some (.exit 2,⟨[(2,.aG 2 0),(7,zF X' ((V.drop j).foldl mo l)),(9,.pv (vI i9)),(20,.pv p20),(21,.pv (vI n21)),(22,.pv (vI i22)),(28,.pv (.aI (V.map .str))),(29,.pv (vI V.length)),(30,.pv (vI V.length)),(31,.pv (.bool false))],[(2,e)],wK X' ((V.drop j).foldl mo l),zG ((V.drop j).foldl mo l)⟩)
 | 0,j,hk,hj,X,l,hX,hl=>by
   have:j=V.length:=by omega
   subst this;refine ⟨X,hX,?_⟩;rw [List.drop_length];simp only [List.foldl_nil];have hn:=hX.norm;have he':∀aY ts,bP aY ts e=(e,aY,ts):=fun aY ts=>lJ he
   by_cases h0:l=[]
   · rw [g404L1e];simp [g404B1,zF,wK,zG,h0,hn,he']
   · have hn1:∀aY ts,bV aY ts (X++[some (tx l)])=(X++[some (tx l)],aY,ts):=(hX.app (bA.one lP)).norm;rw [g404L1e];simp only [zF,wK,zG,if_neg h0];generalize X++[some (tx l)]=S1 at hn1;simp [g404B1,hn1,he']
 | n+1,j,hk,hj,X,l,hX,hl=>by
   have hj:j<V.length:=(by omega);obtain ⟨t,ht⟩:=bD hj;have he':∀aY ts,bP aY ts e=(e,aY,ts):=fun aY ts=>lJ he
   have hn:=hX.norm;have hs:=hX.shift;have huf:(l.filter fun x=>!decide (x=t)).length≤l.length:=List.length_filter_le _ _;have hul:(mo l t).length≤l.length+1:=(by simp [mo,huf]);rw [cp ht,List.foldl_cons];by_cases h0:l=[]
   · subst h0;have hXB:bA (X++[some [.pv (.str t)]]):=hX.app (bA.one (by intro v hv;simp at hv;exact ⟨_,hv⟩));have k:=c412e hXB.norm hXB.shift (c:=X.length);obtain ⟨X',hX',ih⟩:=IW he (i9:=i9) (i22:=i22) (p20:=p20) (n21:=n21) hV n (j+1) (by omega) (by omega) (X++[some [.pv (.str t)]]) [t] hXB (by simp at hl ⊢;omega);refine ⟨X',hX',?_⟩;have eu:mo [] t=[t]:=by simp [mo]
     rw [eu]
     have hn2:∀aY ts,bV aY ts (X++[some [.pv (.str t)],some [.pv (.str t)]])=(X++[some [.pv (.str t)],some [.pv (.str t)]],aY,ts):=by
       have:=(hXB.app (bA.one (cs:=[AV.pv (.str t)]) (by intro v hv;simp at hv;exact ⟨_,hv⟩))).norm;simpa using this
     have hn1:=hXB.norm;have hs1:=hXB.shift;generalize (V.drop (j+1)).foldl mo [t]=r at ih ⊢;rw [g404L1e] at ih ⊢;simp [zF,wK,zG,he',tx,hn2] at ih ⊢;simp (disch:=omega) [-getElem?_pos,g404B1,ht,hj,hn,hn1,hs1,he',k,az];rw [g404L1e];simp [he',hn2,ih]
   · obtain ⟨a,a1,a2,k⟩:=c412 hX (t:=t) (l:=l) (by unfold Sm;omega);have hXN:bA (X++[none,some [.pv (.str t)]]):=hX.app (by intro cs hc v hv;simp at hc;subst hc;simp at hv;exact ⟨_,hv⟩);obtain ⟨X',hX',ih⟩:=IW he (i9:=i9) (i22:=i22) (p20:=p20) (n21:=n21) hV n (j+1) (by omega) (by omega) (X++[none,some [.pv (.str t)]]) (mo l t) hXN (by omega);refine ⟨X',hX',?_⟩;have hup:mo l t≠[]:=by simp [mo]
     have hn0:∀aY ts,bV aY ts (X++[some (tx l)])=(X++[some (tx l)],aY,ts):=(hX.app (bA.one lP)).norm;have hn1:=(fD hX (l:=l) (t:=t)).norm;have hn2:=(fD hX (l:=a) (t:=t)).norm;have hs2:=(fD hX (l:=a) (t:=t)).shift
     have hn3:∀aY ts,bV aY ts (X++[none,some [.pv (.str t)],some (tx (mo l t))])=(X++[none,some [.pv (.str t)],some (tx (mo l t))],aY,ts):=by
       have:=(hXN.app (bA.one (cs:=tx (mo l t)) lP)).norm;simpa using this
     have hB:dr (tx a)=false:=dw lP;have htl:(tx a).length=l.length:=(by rw [nd,a1]);have hul2:(mo l t).length=(l.filter fun x=>!decide (x=t)).length+1:=by simp [mo]
     have htx:tx (mo l t)=(tx a).take (l.filter fun x=>!decide (x=t)).length++[.pv (.str t)]:=by
       have:(tx a).take (l.filter fun x=>!decide (x=t)).length=tx (l.filter fun x=>!decide (x=t)):=by
         conv=>rhs;rw [←a2]
         simp [tx,List.map_take]
       rw [this];simp [tx,mo]
     have g0:∀u v:Option (List AV),(X++[u,v])[X.length]?=some u:=fun u v=>by simp
     have g1:∀u v:Option (List AV),(X++[u,v])[X.length+1]?=some v:=fun u v=>by simp
     have s0:∀u v w:Option (List AV),(X++[u,v]).set X.length w=X++[w,v]:=fun u v w=>by simp
     have s1:∀u v w:Option (List AV),(X++[u,v]).set (X.length+1) w=X++[u,w]:=fun u v w=>by simp
     unfold SA at k hn1 hn2 hs2;simp only [zF,wK,zG,if_neg h0,if_neg hup] at ih ⊢;generalize (V.drop (j+1)).foldl mo (mo l t)=r at ih ⊢;rw [hul2] at ih;generalize (l.filter fun x=>!decide (x=t)).length=K at k htx ih huf;have hb1:(K+1)*16≤140737488355328:=by omega
     have hb2:K≤l.length:=huf;generalize tx (mo l t)=TU at htx hn3 ih;generalize tx a=TA at k hn2 hs2 hB htl htx;generalize tx l=TL at k hn0 hn1 ⊢;generalize (if r=[] then AV.own [] 0 else AV.bE X'.length 1 r.length false)=VR at ih ⊢;generalize (if r=[] then X' else X'++[some (tx r)])=SR at ih ⊢;generalize (if r=[] then ([0]:aN) else [])=TR at ih ⊢;rw [g404L1e] at ih ⊢;simp [he',hn3] at ih;simp (disch:=omega) [-getElem?_pos,g404B1,ht,hj,hn0,hn1,hn2,hs2,he',k,az,hB,htl,hb1,hb2,g0,g1,s0,s1,←htx];rw [g404L1e];simp [he',hn3,ih]
theorem Ph {s:List cS} (hS:Sm s) {y:cS}:∀(n i:Nat),s.length-i=n→i≤s.length →
   cl AP g364L0 ⟨[(0,.pv (.aI (s.map .str))),(1,.pv (.str y)),(5,.pv (vI i))],[],[],[]⟩ =
     if y∈s.drop i then some (.ret,⟨[(4,.pv (.bool true))],[],[],[]⟩)
     else some (.exit 0,⟨[(0,.pv (.aI (s.map .str))),(1,.pv (.str y)),(5,.pv (vI s.length)),(9,.pv (.bool false))],[],[],[]⟩)
 | 0,i,hn,hi=>by
   have:i=s.length:=by omega
   subst this;rw [g364L0e];simp [g364B0]
 | n+1,i,hn,hi=>by
   have hi:i<s.length:=(by omega);obtain ⟨x,hx⟩:=bD hi;unfold Sm at hS;have ih:=Ph hS (y:=y) n (i+1) (by omega) (by omega);simp at ih;rw [g364L0e,cp hx];by_cases e:x=y
   · subst e;simp (disch:=omega) [-getElem?_pos,g364B0,hx,hi]
   · have e':¬y=x:=fun h=>e h.symm
     simp (disch:=omega) [-getElem?_pos,g364B0,hx,hi,e,e',az,ih]
theorem c364 {s:List cS} (hS:Sm s) {y:cS}:(aP AP).p 364 [.aI (s.map .str),.str y]=some [.bool (decide (y∈s))]:=by
 have h:=Ph hS (y:=y) _ 0 rfl (by omega);simp at h;rw [aw (af:=g364) rfl rfl (by decide)];by_cases e:y∈s<;>simp [e] at h<;>simp [g364,h,e]
noncomputable def eB:List cS→List cS
 | []=>[]
 | x::r=>if x∈r then eB r else x::eB r
theorem Nk {s:List cS} (hS:s.length<1000000000):∀(n i:Nat),s.length-i=n→i≤s.length→∀acc:List cS,acc.length≤i →
   cl AP g440L0 ⟨[(0,.pv (.aI (s.map .str))),(3,.own (acc.map .str) 0),(4,.pv (vI i))],[],[],[acc.length]⟩ =
     some (.exit 0,⟨[(0,.pv (.aI (s.map .str))),(3,.own ((acc++eB (s.drop i)).map .str) 0),(4,.pv (vI s.length)),(8,.pv (.bool false))],[],[],[(acc++eB (s.drop i)).length]⟩)
 | 0,i,hn,hi,acc,hl=>by
   have:i=s.length:=by omega
   subst this;rw [g440L0e];simp [g440B0,eB]
 | n+1,i,hn,hi,acc,hl=>by
   have hi:i<s.length:=(by omega);obtain ⟨x,hx⟩:=bD hi;have c:=c364 (s:=s.drop (i+1)) (by unfold Sm;simp;omega) (y:=x);rw [List.map_drop] at c;have hb:(acc.length+1)*16≤140737488355328:=(by omega);have hle:(i:Int)+1≤s.length:=by omega
   have hsl:cO false 1 true false false [.pv (.aI (s.map .str)),.pv (.int .i64 ((i:Int)+1))]=some (.pv (.aI ((s.map PV.str).drop (i+1)))):=by
     have h0:(0:Int)≤(i:Int)+1:=(by omega);have h1:((i:Int)+1).toNat=i+1:=(by omega);have h2:bC 1 (s.map PV.str)=true:=lK.head s;simp [cO,dZ,cR,hle,h0,h1,h2];rw [List.take_of_length_le (by simp)]
   rw [cp hx,g440L0e];by_cases e:x∈s.drop (i+1)
   · have ih:=Nk hS n (i+1) (by omega) (by omega) acc (by omega);simp only [eB,if_pos e];rw [decide_eq_true e] at c;simp at ih;simp (disch:=omega) [-getElem?_pos,g440B0,hx,hi,az,hsl,c,ih]
   · have ih:=Nk hS n (i+1) (by omega) (by omega) (acc++[x]) (by simp;omega);simp only [eB,if_neg e];rw [decide_eq_false e] at c;simp at ih;simp (disch:=omega) [-getElem?_pos,g440B0,hx,hi,az,hsl,c,hb,ih]
theorem c440 {s:List cS} (hS:s.length<1000000000):(aP AP).p 440 [.aI (s.map .str)]=some [.aI ((eB s).map .str)]:=by
 have h:=Nk hS _ 0 rfl (by omega) [] (by simp);simp at h;rw [aw (af:=g440) rfl rfl (by decide)];rw [g440L0e] at h;simp at h;simp [g440,g440L0e,h]
inductive Ex.One:Ex→Prop
 | mk {e:Ex}:(e.kind=8→e.kids.length=1)→(∀x∈e.ch,x.One)→e.One
theorem Ex.One.h {e:Ex} (h:e.One):e.kind=8→e.kids.length=1:=by cases h;assumption
theorem Ex.One.c {e:Ex} (h:e.One):∀x∈e.ch,x.One:=by cases h;assumption
def Ex.sM:Ex→List Int→List cS
 | _,[]=>[]
 | e,i::r=>mC e i.toNat++match e.ch[i.toNat]? with | some x=>x.sM r | none=>[]
theorem sN {e:Ex} {i:Nat} (h:e.Ok):(mC e i).length≤1000:=by
 unfold mC;split
 · simp
 · split
   · cases hx:e.bu[i-1]? with
     | none=>simp
     | some a=>exact h.v a (bt hx)
   · simp
theorem wt {e:Ex} {k:Int} {r:List Int} {y:Ex} (h:e.at (k::r)=some y):∃(m:Nat) (x:Ex),k=m∧m<e.ch.length∧e.ch[m]?=some x∧x.at r=some y:=by
 simp only [Ex.at] at h;split at h
 · rename_i h1;obtain ⟨m,rfl,hm⟩:=kW h1.1 h1.2;obtain ⟨x,hx⟩:=bD hm;simp [hx] at h;exact ⟨m,x,rfl,hm,hx,h⟩
 · cases h
theorem Pj {p:List Int} (hp:p.length<1000000) {y:Ex}:∀(n i:Nat),p.length-i=n→i≤p.length→∀(e:Ex) (acc:List cS),e.Ok→e.One→e.at (p.drop i)=some y→acc.length≤i*1000→∃q:List AV,
   cl AP g432L0 ⟨[(1,.pv (.aI (p.map vI))),(2,.aG 2 0),(7,.own (acc.map .str) 0),(8,.pv (vI i))],[(2,e.cl)],[],[acc.length]⟩ =
     some (.exit 0,⟨[(1,.pv (.aI (p.map vI))),(2,.aG 2 0),(7,.own ((acc++e.sM (p.drop i)).map .str) 0),(8,.pv (vI p.length)),(20,.pv (.bool false))],[(2,q)],[],[(acc++e.sM (p.drop i)).length]⟩)
 | 0,i,hn,hi,e,acc,he,h1,ha,hl=>by
   have:i=p.length:=by omega
   subst this;refine ⟨e.cl,?_⟩;rw [g432L0e];simp [g432B0,Ex.sM]
 | n+1,i,hn,hi,e,acc,he,h1,ha,hl=>by
   have hi:i<p.length:=(by omega);obtain ⟨k,hk⟩:=bD hi;rw [cp hk] at ha ⊢;obtain ⟨m,x,rfl,hm,hx,hy⟩:=wt ha;have hbl:=sN he (i:=m);obtain ⟨q,ih⟩:=Pj hp n (i+1) (by omega) (by omega) x (acc++mC e m) (he.c x (bt hx)) (h1.c x (bt hx)) hy (by simp;omega);refine ⟨q,?_⟩;have c:=c145 he;have c2:=c380 hm h1.h he;simp at c c2;rw [g432L0e];simp only [Ex.sM,Int.toNat_natCast,hx];simp at ih;have hb:(acc.length+(mC e m).length)*16≤140737488355328:=(by omega);have hb0:acc.length*16≤140737488355328:=(by omega);generalize e.ch=C at *;generalize hB:mC e m=B at *;by_cases h0:B=[]
   · subst h0;simp at ih;simp (disch:=omega) [-getElem?_pos,g432B0,hk,hi,az,c,c2,hx,hm,hb0,ih]
   · simp (disch:=omega) [-getElem?_pos,g432B0,hk,hi,az,c,c2,hx,hm,hb,h0,ih]
theorem wu {y:Ex}:∀{p:List Int} {e:Ex},e.Ok→e.at p=some y→(e.sM p).length≤p.length*1000
 | [],_,_,_=>by simp [Ex.sM]
 | k::r,e,h,ha=>by
   obtain ⟨m,x,rfl,hm,hx,hy⟩:=wt ha;have:=wu (h.c x (bt hx)) hy;have:=sN h (i:=m);simp only [Ex.sM,Int.toNat_natCast,hx,List.length_append,List.length_cons];omega
noncomputable def wv (e:Ex) (p:List Int):List cS:=match e.at p with | some _=>eB (e.sM p) | none=>[]
theorem c432 {e:Ex} (he:e.Ok) (h1:e.One) {p:List Int} (hp:p.length<1000000):(aP AP).p 432 [e.pv,.aI (p.map vI)]=some [.aI ((wv e p).map .str)]:=by
 have c:=c439 he (p:=p) (by unfold Sm;omega);rw [aw (af:=g432) rfl rfl (by decide)];unfold wv;cases hx:e.at p with
 | none=>
   rw [hx] at c;simp [atR,Ng,bW] at c;simp [g432,c]
 | some y=>
   rw [hx] at c;simp [atR] at c;obtain ⟨q,h⟩:=Pj hp _ 0 rfl (by omega) e [] he h1 hx (by simp);have hl:=wu he hx;have c2:=c440 (s:=e.sM p) (by omega);simp at h c2;rw [g432L0e] at h;simp at h;simp [g432,c,g432L0e,h,c2]
theorem LO {p:List Int} (hp:p.length<100000) {y:Ex}:∀(n i:Nat),p.length-i=n→i≤p.length→∀(e:Ex) (X:Sh) (l:List cS),e.Ok→e.One→bA X→e.at (p.drop i)=some y→l.length≤i*1000→∃(X':Sh) (q:List AV),bA X' ∧
   cl AP g404L0 ⟨[(2,.aG 2 0),(7,zF X l),(20,.pv (.aI (p.map vI))),(21,.pv (vI p.length)),(22,.pv (vI i))],[(2,e.cl)],wK X l,zG l⟩ =
     some (.exit 0,⟨[(2,.aG 2 0),(7,zF X' ((e.sM (p.drop i)).foldl mo l)),(20,.pv (.aI (p.map vI))),(21,.pv (vI p.length)),(22,.pv (vI p.length)),(23,.pv (.bool false))],[(2,q)],wK X' ((e.sM (p.drop i)).foldl mo l),zG ((e.sM (p.drop i)).foldl mo l)⟩)
 | 0,i,hn,hi,e,X,l,he,h1,hX,ha,hl=>by
   have:i=p.length:=by omega
   subst this;refine ⟨X,e.cl,hX,?_⟩;have hnX:=hX.norm;have hn1:∀aY ts,bV aY ts (X++[some (tx l)])=(X++[some (tx l)],aY,ts):=(hX.app (bA.one lP)).norm;rw [g404L0e];by_cases h0:l=[]
   · subst h0;simp [g404B0,Ex.sM,zF,wK,zG,hnX]
   · simp only [List.drop_length,Ex.sM,List.foldl_nil,zF,wK,zG,if_neg h0];generalize X++[some (tx l)]=S1 at *;simp [g404B0,hn1]
 | n+1,i,hn,hi,e,X,l,he,h1,hX,ha,hl=>by
   have hi:i<p.length:=(by omega);obtain ⟨k,hk⟩:=bD hi;rw [cp hk] at ha ⊢;obtain ⟨m,x,rfl,hm,hx,hy⟩:=wt ha;have hbl:=sN he (i:=m);have hep:∀v∈e.cl,∃p,v=AV.pv p:=by intro v hv;simp at hv;rcases hv with rfl | rfl | rfl | rfl | rfl | rfl | rfl | rfl | rfl | rfl | rfl<;>exact ⟨_,rfl⟩
   obtain ⟨X1,hX1,e1⟩:=IW hep (i9:=m) (i22:=i) (p20:=.aI (p.map vI)) (n21:=p.length) (V:=mC e m) (by omega) _ 0 rfl (by omega) X l hX (by omega)
   have hul:∀(V l:List cS),(V.foldl mo l).length≤l.length+V.length:=by
     intro V;induction V with
     | nil=>intro l;simp
     | cons t r ih=>
       intro l;have:=ih (mo l t);have hf:(l.filter fun x=>!decide (x=t)).length≤l.length:=List.length_filter_le _ _;have:(mo l t).length≤l.length+1:=by simp [mo,hf]
       simp only [List.foldl_cons,List.length_cons];omega
   have hl1:=hul (mC e m) l;obtain ⟨X',q,hX',ih⟩:=LO hp n (i+1) (by omega) (by omega) x X1 ((mC e m).foldl mo l) (he.c x (bt hx)) (h1.c x (bt hx)) hX1 hy (by omega);refine ⟨X',q,hX',?_⟩;have c:=c414 he;have c2:=c411 hm h1.h he;simp only [Ex.sM,Int.toNat_natCast,hx,List.foldl_append];rw [List.drop_zero] at e1;generalize hL:(x.sM (p.drop (i+1))).foldl mo ((mC e m).foldl mo l)=r at ih ⊢;generalize (mC e m).foldl mo l=l1 at e1 ih hl1
   have hnv:∀{X:Sh} {l:List cS},bA X→∀aY ts,bV aY ts (wK X l)=(wK X l,aY,ts):=by
     intro X l hX aY ts;unfold wK;by_cases h0:l=[]
     · rw [if_pos h0];exact hX.norm aY ts
     · rw [if_neg h0];exact (hX.app (bA.one lP)).norm aY ts
   have hn1:=hnv hX (l:=l);have hn2:=hnv hX1 (l:=l1)
   have vcase:∀(X:Sh) (l:List cS),(zF X l=.own [] 0∧zG l=[0])∨(∃b z k g,zF X l=.bE b z k g∧zG l=[]):=by
     intro X l;unfold zF zG;by_cases h0:l=[]
     · left;simp [h0]
     · right;exact ⟨X.length,1,l.length,false,by simp [h0],by simp [h0]⟩
   rw [g404L0e] at ih ⊢;rw [g404L1e] at e1;generalize e.ch=C at *;generalize mC e m=B at *;simp at c c2
   rcases vcase X l with ⟨v1,t1⟩ | ⟨b1,z1,k1,f1,v1,t1⟩<;>rcases vcase X1 l1 with ⟨v2,t2⟩ | ⟨b2,z2,k2,f2,v2,t2⟩<;>simp only [v1,t1,v2,t2] at e1 ih ⊢<;>generalize wK X l=S0 at*<;> generalize wK X1 l1=S1 at*<;> generalize wK X' r=S2 at*<;> generalize zF X' r=V2 at*<;> generalize zG r=T2 at*<;>
     simp [hn1,hn2] at e1 ih ⊢ <;>
     simp (disch:=omega) [-getElem?_pos,g404B0,hk,hi,az,c,c2,hx,hm,hn1,hn2,g404L1e,e1]<;>rw [g404L0e]<;>simp [hn2,ih]
theorem kD (t:cS):∀l:List cS,eB (l++[t])=(eB l).filter (fun x=>!decide (x=t))++[t]
 | []=>by simp [eB]
 | x::r=>by
   simp only [List.cons_append,eB,List.mem_append,List.mem_singleton];by_cases e:x∈r
   · simp [e,kD t r]
   · by_cases e2:x=t
     · subst e2;simp [e,kD x r]
     · simp [e,e2,kD t r]
theorem F8 (l:List cS):l.foldl mo []=eB l:=by
 have:∀k,∀l:List cS,l.length=k→l.foldl mo []=eB l:=by
   intro k;induction k with
   | zero=>intro l h;have:=List.length_eq_zero_iff.1 h;subst this;simp [eB]
   | succ k ih=>
     intro l h;have hne:l≠[]:=by intro e;subst e;simp at h
     obtain ⟨r,t,rfl⟩:∃r t,l=r++[t]:=⟨l.dropLast,l.getLast hne,(List.dropLast_concat_getLast hne).symm⟩;rw [List.foldl_append,ih r (by simpa using h),kD];rfl
 exact this _ l rfl
theorem IX:∀r:List cS,ff (tx r)=some (r.map .str)
 | []=>rfl
 | t::r=>by
   have ih:=IX r;unfold tx at ih ⊢;simp only [List.map_cons,ff,kS,ih]
theorem c404 {e:Ex} (he:e.Ok) (h1:e.One) {p:List Int} (hp:p.length<100000):(aP AP).p 404 [e.pv,.aI (p.map vI)]=some [.aI ((wv e p).map .str)]:=by
 have c:=c410 he (p:=p) (by unfold Sm;omega);rw [aw (af:=g404) rfl rfl (by decide)];unfold wv;cases hx:e.at p with
 | none=>
   rw [hx] at c;simp [atR,Ng,bW] at c;simp [g404,c]
 | some y=>
   rw [hx] at c;simp [atR] at c;obtain ⟨X',q,hX',h⟩:=LO hp _ 0 rfl (by omega) e [] [] he h1 (by intro cs h;simp at h) hx (by simp);rw [List.drop_zero,F8] at h;generalize eB (e.sM p)=r at *;have hn:=hX'.norm;have hn1:∀aY ts,bV aY ts (X'++[some (tx r)])=(X'++[some (tx r)],aY,ts):=(hX'.app (bA.one lP)).norm;have hfr:=IX r;have hlen:=nd (l:=r);rw [g404L0e] at h;by_cases h0:r=[]
   · subst h0;simp [zF,wK,zG] at h;simp [g404,c,g404L0e,h]
   · simp [zF,wK,zG,h0] at h;generalize tx r=T at *;simp [g404,c,g404L0e,h,hfr,hlen,fh]
def oz (p:List Int):PV:=.aI (p.map vI)
@[simp] theorem QV (p:List Int):oz p=.aI (p.map vI):=rfl
theorem KZ:El oz 1 false:=⟨fun x=>by simp,fun x=>by simp⟩
@[simp] theorem LP {l:List (List Int)}:bC 1 (l.map oz)=true:=KZ.head l
def tL:Nat→List (List (List Int))→List (List Int)
 | _,[]=>[]
 | i,l::r=>l.map (fun p=>(i:Int)::p)++tL (i+1) r
def Ex.hl (e:Ex):List (List Int):=if e.kind=10 then [[]] else tL 0 (e.ch.attach.map fun x=>x.1.hl)
termination_by SizeOf.sizeOf e
decreasing_by exact Ex.C0 x.2
theorem Ex.C3 (e:Ex):e.hl=if e.kind=10 then [[]] else tL 0 (e.ch.map Ex.hl):=by
 rw [Ex.hl,List.map_attach_eq_pmap,List.pmap_eq_map]
theorem C4:∀{l:List (List (List Int))} {i:Nat},(tL i l).length=(l.map List.length).sum
 | [],_=>rfl
 | a::r,i=>by simp only [tL,List.length_append,List.length_map,List.map_cons,List.sum_cons,C4 (l:=r)]
theorem C5:∀{l:List (List (List Int))} {i:Nat} {p:List Int},p∈tL i l→∃(j:Nat) (c:List (List Int)) (q:List Int),l[j]?=some c∧q∈c∧p=((i+j:Nat):Int)::q
 | a::r,i,p,h=>by
   simp only [tL,List.mem_append,List.mem_map] at h;rcases h with ⟨q,hq,rfl⟩ | h
   · exact ⟨0,a,q,rfl,hq,rfl⟩
   · obtain ⟨j,c,q,h1,h2,h3⟩:=C5 h;exact ⟨j+1,c,q,by simpa using h1,h2,by rw [h3];congr 2;omega⟩
theorem sO (e:Ex):e.hl.length≤e.sz:=by
 refine Ex.recC (p:=fun e=>e.hl.length≤e.sz) ?_ e;intro e ih;rw [Ex.C3,Ex.p8];split
 · simp
 · rw [C4,List.map_map]
   have:∀l:List Ex,(∀x∈l,x.hl.length≤x.sz)→(l.map (List.length ∘ Ex.hl)).sum≤(l.map Ex.sz).sum:=by
     intro l;induction l with
     | nil=>intro _;simp
     | cons a r ihr=>
       intro h;have h1:=h a (by simp);have h2:=ihr fun x hx=>h x (by simp [hx])
       simp only [List.map_cons,List.sum_cons,Function.comp_apply];omega
   have:=this e.ch ih;omega
theorem C6 (e:Ex):∀p∈e.hl,p.length<e.sz∧∃x,e.at p=some x∧x.kind=10:=by
 refine Ex.recC (p:=fun e=>∀p∈e.hl,p.length<e.sz∧∃x,e.at p=some x∧x.kind=10) ?_ e;intro e ih p hp;rw [Ex.C3] at hp;split at hp
 · rename_i hk;simp at hp;subst hp;exact ⟨e.Ni,e,rfl,hk⟩
 · obtain ⟨j,c,q,h1,h2,rfl⟩:=C5 hp;simp only [List.getElem?_map,Option.map_eq_some_iff] at h1;obtain ⟨y,hy,rfl⟩:=h1;obtain ⟨a,x,b,hk⟩:=ih y (bt hy) q h2;have hs:=Ex.wq (bt hy);have hj:=(List.getElem?_eq_some_iff.1 hy).1;refine ⟨by simp only [List.length_cons];omega,x,?_,hk⟩;rw [Ex.at,if_pos (by omega)];have e1:((0+j:Nat):Int).toNat=j:=by omega
   rw [e1,hy];exact b
theorem LQ {ch:List Ex} {I:Nat} {hls:List (List Int)} (hL:hls.length≤1000000000) (hp:∀p∈hls,p.length≤1000000000):∀(n k:Nat),hls.length-k=n→k≤hls.length→∀acc:List (List Int),acc.length+n≤2000000000 →
   cl AP g543L1 ⟨[(3,.own (acc.map oz) 0),(4,.pv (vI I)),(14,.pv (.aI (ch.map Ex.pv))),(15,.pv (vI ch.length)),(16,.pv (vI I)),(22,.pv (.aI (hls.map oz))),(23,.pv (vI hls.length)),(24,.pv (vI k))],[],[],[acc.length]⟩ =
     some (.exit 2,⟨[(3,.own ((acc++(hls.drop k).map fun p=>(I:Int)::p).map oz) 0),(4,.pv (vI I)),(14,.pv (.aI (ch.map Ex.pv))),(15,.pv (vI ch.length)),(16,.pv (vI I)),(22,.pv (.aI (hls.map oz))),(23,.pv (vI hls.length)),(24,.pv (vI hls.length)),(25,.pv (.bool false))],[],[],[(acc++(hls.drop k).map fun p=>(I:Int)::p).length]⟩)
 | 0,k,hn,hk,acc,ha=>by
   have:k=hls.length:=by omega
   subst this;rw [List.drop_length,List.map_nil,List.append_nil,g543L1e];simp [g543B1]
 | n+1,k,hn,hk,acc,ha=>by
   have hk:k<hls.length:=(by omega);obtain ⟨p,hx⟩:=bD hk;have hpl:=hp p (bt hx);have ih:=LQ (ch:=ch) (I:=I) hL hp n (k+1) (by omega) (by omega) (acc++[(I:Int)::p]) (by simp;omega);have hb1:(1+p.length)*8≤140737488355328:=(by omega);have hb2:(acc.length+1)*24≤140737488355328:=(by omega);have hh:=kB.head p;rw [cp hx,List.map_cons];rw [g543L1e] at ih ⊢;simp at ih hh;by_cases hz:p=[]
   · subst hz;simp at ih;simp (disch:=omega) [-getElem?_pos,g543B1,hx,hk,hb1,hb2,az];rw [g543L1e];simp [ih]
   · simp (disch:=omega) [-getElem?_pos,g543B1,hx,hk,hb1,hb2,hh,hz,az];rw [g543L1e];simp [ih]
theorem Pk {ch:List Ex} {e:Ex} (hch:ch=e.ch) (hN:ch.length≤1000000) (hB:∀x∈ch,x.hl.length≤1000000000∧∀p∈x.hl,p.length≤1000000000) (ih:∀x∈ch,(aP AP).p 543 [x.pv]=some [.aI (x.hl.map oz)]) :
   ∀(n i:Nat),ch.length-i=n→i≤ch.length→∀acc:List (List Int),acc.length+(tL i ((ch.drop i).map Ex.hl)).length≤1000000000 →
   cl AP g543L0 ⟨[(3,.own (acc.map oz) 0),(14,.pv (.aI (ch.map Ex.pv))),(15,.pv (vI ch.length)),(16,.pv (vI i))],[],[],[acc.length]⟩ =
     some (.exit 0,⟨[(3,.own ((acc++tL i ((ch.drop i).map Ex.hl)).map oz) 0),(14,.pv (.aI (ch.map Ex.pv))),(15,.pv (vI ch.length)),(16,.pv (vI ch.length)),(17,.pv (.bool false))],[],[],[(acc++tL i ((ch.drop i).map Ex.hl)).length]⟩)
 | 0,i,hn,hi,acc,ha=>by
   have:i=ch.length:=by omega
   subst this;rw [List.drop_length];simp only [List.map_nil,tL,List.append_nil];rw [g543L0e];simp [g543B0]
 | n+1,i,hn,hi,acc,ha=>by
   have hi:i<ch.length:=(by omega);obtain ⟨x,hx⟩:=bD hi;have k:=ih x (bt hx);obtain ⟨hb1,hb2⟩:=hB x (bt hx);rw [cp hx,List.map_cons] at ha ⊢;simp only [tL,List.length_append,List.length_map] at ha ⊢;have e1:=LQ (ch:=ch) (I:=i) hb1 hb2 _ 0 rfl (by omega) acc (by omega);rw [List.drop_zero] at e1;have e2:=Pk hch hN hB ih n (i+1) (by omega) (by omega) (acc++x.hl.map fun p=>(i:Int)::p) (by simp only [List.length_append,List.length_map];omega);generalize tL (i+1) ((ch.drop (i+1)).map Ex.hl)=R at *;generalize hH:x.hl=H at *;rw [g543L1e] at e1;rw [g543L0e] at e2 ⊢;simp at k e1 e2;simp (disch:=omega) [-getElem?_pos,g543B0,hx,hi,k,az,g543L1e,e1];rw [g543L0e];simp [e2]
theorem bounds {e:Ex} (hs:e.sz≤100000000):∀x∈e.ch,x.hl.length≤1000000000∧∀p∈x.hl,p.length≤1000000000:=by
 intro x hx;have h1:=Ex.wq hx;have h2:=sO x;refine ⟨by omega,fun p hp=>?_⟩;have:=(C6 x p hp).1;omega
theorem c543 (e:Ex):e.Ok→e.sz≤100000000→(aP AP).p 543 [e.pv]=some [.aI (e.hl.map oz)]:=by
 refine Ex.recC (p:=fun e=>e.Ok→e.sz≤100000000→(aP AP).p 543 [e.pv]=some [.aI (e.hl.map oz)]) ?_ e;intro e ih ho hs;have k:=c414 ho;have hl:=sO e;have hb:=bounds hs;have hN:e.ch.length≤1000000:=by rw [Ex.iI];have:=ho.k;have:=ho.a;omega
 rw [aw (af:=g543) rfl rfl (by decide)];rw [Ex.C3] at hl ⊢;by_cases hk:e.kind=10
 · simp [g543,hk]
 · rw [if_neg hk] at hl ⊢;have e1:=Pk (e:=e) rfl hN hb (fun x hx=>ih x hx (ho.c x hx) (by have:=Ex.wq hx;omega)) _ 0 rfl (by omega) [] (by simp only [List.drop_zero,List.length_nil];omega);rw [List.drop_zero,List.nil_append] at e1;generalize tL 0 (e.ch.map Ex.hl)=H at *;rw [g543L0e] at e1;simp at k e1;simp [g543,hk,k,g543L0e,e1]
theorem LR {ch:List Ex} {I:Nat} {hls:List (List Int)} (hL:hls.length≤1000000000) (hp:∀p∈hls,p.length≤1000000000):∀(n k:Nat),hls.length-k=n→k≤hls.length→∀acc:List (List Int),acc.length+n≤2000000000 →
   cl AP g539L1 ⟨[(3,.own (acc.map oz) 0),(4,.pv (.aI (ch.map Ex.pv))),(5,.pv (vI I)),(6,.pv (.aI (hls.map oz))),(7,.pv (vI k))],[],[],[acc.length]⟩ =
     some (.exit 2,⟨[(3,.own ((acc++(hls.drop k).map fun p=>(I:Int)::p).map oz) 0),(4,.pv (.aI (ch.map Ex.pv))),(5,.pv (vI I)),(6,.pv (.aI (hls.map oz))),(7,.pv (vI hls.length)),(28,.pv (.bool false))],[],[],[(acc++(hls.drop k).map fun p=>(I:Int)::p).length]⟩)
 | 0,k,hn,hk,acc,ha=>by
   have:k=hls.length:=by omega
   subst this;rw [List.drop_length,List.map_nil,List.append_nil,g539L1e];simp [g539B1]
 | n+1,k,hn,hk,acc,ha=>by
   have hk:k<hls.length:=(by omega);obtain ⟨p,hx⟩:=bD hk;have hpl:=hp p (bt hx);have ih:=LR (ch:=ch) (I:=I) hL hp n (k+1) (by omega) (by omega) (acc++[(I:Int)::p]) (by simp;omega);have hb1:(1+p.length)*8≤140737488355328:=(by omega);have hb2:(acc.length+1)*24≤140737488355328:=(by omega);have hh:=kB.head p;rw [cp hx,List.map_cons];rw [g539L1e] at ih ⊢;simp at ih hh;by_cases hz:p=[]
   · subst hz;simp at ih;simp (disch:=omega) [-getElem?_pos,g539B1,hx,hk,hb1,hb2,az];rw [g539L1e];simp [ih]
   · simp (disch:=omega) [-getElem?_pos,g539B1,hx,hk,hb1,hb2,hh,hz,az];rw [g539L1e];simp [ih]
theorem Pl {ch:List Ex} (hN:ch.length≤1000000) (hB:∀x∈ch,x.hl.length≤1000000000∧∀p∈x.hl,p.length≤1000000000) (ih:∀x∈ch,(aP AP).p 539 [x.pv]=some [.aI (x.hl.map oz)]) :
   ∀(n i:Nat),ch.length-i=n→i≤ch.length→∀acc:List (List Int),acc.length+(tL i ((ch.drop i).map Ex.hl)).length≤1000000000 →
   cl AP g539L0 ⟨[(3,.own (acc.map oz) 0),(4,.pv (.aI (ch.map Ex.pv))),(5,.pv (vI i))],[],[],[acc.length]⟩ =
     some (.exit 0,⟨[(3,.own ((acc++tL i ((ch.drop i).map Ex.hl)).map oz) 0),(4,.pv (.aI (ch.map Ex.pv))),(5,.pv (vI ch.length)),(17,.pv (.bool false))],[],[],[(acc++tL i ((ch.drop i).map Ex.hl)).length]⟩)
 | 0,i,hn,hi,acc,ha=>by
   have:i=ch.length:=by omega
   subst this;rw [List.drop_length];simp only [List.map_nil,tL,List.append_nil];rw [g539L0e];simp [g539B0]
 | n+1,i,hn,hi,acc,ha=>by
   have hi:i<ch.length:=(by omega);obtain ⟨x,hx⟩:=bD hi;have k:=ih x (bt hx);obtain ⟨hb1,hb2⟩:=hB x (bt hx);rw [cp hx,List.map_cons] at ha ⊢;simp only [tL,List.length_append,List.length_map] at ha ⊢;have e1:=LR (ch:=ch) (I:=i) hb1 hb2 _ 0 rfl (by omega) acc (by omega);rw [List.drop_zero] at e1;have e2:=Pl hN hB ih n (i+1) (by omega) (by omega) (acc++x.hl.map fun p=>(i:Int)::p) (by simp only [List.length_append,List.length_map];omega);generalize tL (i+1) ((ch.drop (i+1)).map Ex.hl)=R at *;generalize hH:x.hl=H at *;rw [g539L1e] at e1;rw [g539L0e] at e2 ⊢;simp at k e1 e2;simp (disch:=omega) [-getElem?_pos,g539B0,hx,hi,k,az,g539L1e,e1];rw [g539L0e];simp [e2]
theorem c539 (e:Ex):e.Ok→e.sz≤100000000→(aP AP).p 539 [e.pv]=some [.aI (e.hl.map oz)]:=by
 refine Ex.recC (p:=fun e=>e.Ok→e.sz≤100000000→(aP AP).p 539 [e.pv]=some [.aI (e.hl.map oz)]) ?_ e;intro e ih ho hs;have k:=c145 ho;have hl:=sO e;have hb:=bounds hs;have hN:e.ch.length≤1000000:=by rw [Ex.iI];have:=ho.k;have:=ho.a;omega
 rw [aw (af:=g539) rfl rfl (by decide)];rw [Ex.C3] at hl ⊢;by_cases hk:e.kind=10
 · simp [g539,hk]
 · rw [if_neg hk] at hl ⊢;have e1:=Pl hN hb (fun x hx=>ih x hx (ho.c x hx) (by have:=Ex.wq hx;omega)) _ 0 rfl (by omega) [] (by simp only [List.drop_zero,List.length_nil];omega);rw [List.drop_zero,List.nil_append] at e1;generalize tL 0 (e.ch.map Ex.hl)=H at *;rw [g539L0e] at e1;simp at k e1;simp [g539,hk,k,g539L0e,e1]
abbrev nf:List (List UInt8):=varNames
inductive gp (ds:List Dt):Nat→Ex→Prop
 | var {n:Nat} {s:List UInt8}:s∈nf→gp ds n ⟨1,0,s,0,[],[],bW⟩
 | int {n:Nat} {m:Int}:0≤m→m<4→gp ds n ⟨3,0,[],m,[],[],bW⟩
 | iV {n:Nat} {d:Dt} {c:p7}:d∈ds→c∈d.cons→gp ds n ⟨2,0,c.name,0,[],[],bW⟩
 | gone {n:Nat}:gp ds n ⟨2,0,[71,111,110,101],0,[],[],bW⟩
 | hole {n:Nat}:gp ds n ⟨10,0,[],0,[],[],bW⟩
 | lam {n:Nat} {s:List UInt8} {a:Ex}:s∈nf→gp ds n a→gp ds (n+1) ⟨4,0,s,0,[a],[],bW⟩
 | app {n:Nat} {a b:Ex}:gp ds n a→gp ds n b→gp ds (n+1) ⟨5,0,[],0,[a,b],[],bW⟩
 | y7 {n:Nat} {k:Int} {s:List UInt8} {a b:Ex}:k=6∨k=7→s∈nf→gp ds n a→gp ds n b→gp ds (n+1) ⟨k,0,s,0,[a,b],[],bW⟩
 | LN {n:Nat} {a:Ex} {t:Ty}:gp ds n a→gR (·∈ds) [] 2 t→gp ds (n+1) ⟨9,0,[],0,[a],[],t⟩
 | held {n:Nat} {a:Ex}:gp ds n a→gp ds (n+1) ⟨11,0,[],0,[a],[],bW⟩
 | up {n:Nat} {a:Ex}:gp ds n a→gp ds (n+1) a
 | sK {n:Nat} {d:Dt} {a:Ex} {as:List Ar}:d∈ds→gp ds n a→as.length=d.cons.length→(∀x∈as,gp ds n x.body)→(∀x∈as,x.pos=0∧∀v∈x.vars,v∈nf) →
     (∀(i:Nat) (c:p7) (x:Ar),d.cons[i]?=some c→as[i]?=some x→x.iV=c.name∧x.vars.length=c.fields.length)→gp ds (n+1) ⟨8,0,[],0,[a],as,bW⟩
def D8 (d:Dt):Prop:=d.params.length≤8∧0<d.cons.length∧d.cons.length≤8∧∀c∈d.cons,c.fields.length≤8
theorem IY:∀d∈cI,D8 d:=by
 intro d hd;simp [cI] at hd;rcases hd with rfl | rfl | rfl | rfl | rfl | rfl | rfl<;>simp [D8]
structure Rg (e:Ex) (C:List AV):Prop where
 len:C.length=11
 leaf:C.all bp=true
 dR:∀sh,dT sh C=some e.cells
 flat:cz.gB C=true
 iC:fR C=true
def gI (f:Bool) (l:List PV):AV:=if f then .bM l else .pv (.aI l)
def eo (fk fa fg:Bool) (e:Ex):List AV:=[.pv (vI e.kind),.pv (vI e.pos),.pv (.str e.name),.pv (vI e.num),gI fk (e.kids.map Ex.pv),gI fa (e.bu.map Ar.pv),.pv (vI e.ty.kind),.pv (.str e.ty.name),.pv (vI e.ty.id),.pv (vI e.ty.home),gI fg (e.ty.args.map Ty.pv)]
theorem ek (fk fa fg:Bool) (e:Ex):Rg e (eo fk fa fg e):=by
 refine ⟨rfl,?_,?_,?_,?_⟩
 · cases fk<;>cases fa<;>cases fg<;>rfl
 · intro sh;rw [Ex.bS];cases fk<;>cases fa<;>cases fg<;>simp [eo,gI]
 · cases fk<;>cases fa<;>cases fg<;>simp [eo,gI]
 · cases fk<;>cases fa<;>cases fg<;>simp [eo,gI]
def m6:List AV:=[.pv (vI 0),.pv (vI 0),.pv (.str []),.pv (vI 0),.own [] 0,.own [] 1,.pv (vI 0),.pv (.str []),.pv (vI 0),.pv (vI 0),.own [] 2]
def qD (d:Dt):List AV:=[.pv (vI d.pos),.pv (.str d.name),.pv (.aI (d.params.map .str)),.pv (.aI (d.cons.map p7.pv))]
def K0 (a:Ex) (as:List Ar):List AV:=[.pv (vI 8),.pv (vI 0),.pv (.str []),.pv (vI 0),.own [a.pv] 3,.own (as.map Ar.pv) 4,.pv (vI 0),.pv (.str []),.pv (vI 0),.pv (vI 0),.own [] 5]
def Pm (c:p7) (vs:List cS):List AV:=[.pv (vI 0),.pv (.str c.name),.own (vs.map .str) 6,.pv (vI 0),.pv (vI 0),.pv (.str []),.pv (vI 0),.own [] 7,.own [] 8,.pv (vI 0),.pv (.str []),.pv (vI 0),.pv (vI 0),.own [] 9]
def Cd (ds:List Dt) (dep:Nat) (d:Dt) (as:List Ar):Prop:=
 (∀x∈as,gp ds dep x.body)∧(∀x∈as,x.pos=0∧∀v∈x.vars,v∈nf)∧(∀(i:Nat) (c:p7) (x:Ar),d.cons[i]?=some c→as[i]?=some x→x.iV=c.name∧x.vars.length=c.fields.length)
structure Sl where
 bd:Bool
 ty:Ty
 home:Int
 base:Bool
def Sl.pv (x:Sl):PV:=.agg [.bool x.bd,vI x.ty.kind,.str x.ty.name,vI x.ty.id,vI x.ty.home,.aI (x.ty.args.map Ty.pv),vI x.home,.bool x.base]
@[simp] theorem Sl.lI (x:Sl):x.pv=.agg [.bool x.bd,.int .i64 x.ty.kind,.str x.ty.name,.int .i64 x.ty.id,.int .i64 x.ty.home,.aI (x.ty.args.map Ty.pv),.int .i64 x.home,.bool x.base]:=rfl
structure Ch where
 id:Int
 aY:Sl
 nw:Bool
def Ch.pv (x:Ch):PV:=.agg [vI x.id,.bool x.aY.bd,vI x.aY.ty.kind,.str x.aY.ty.name,vI x.aY.ty.id,vI x.aY.ty.home,.aI (x.aY.ty.args.map Ty.pv),vI x.aY.home,.bool x.aY.base,.bool x.nw]
@[simp] theorem Ch.lI (x:Ch):x.pv=.agg [.int .i64 x.id,.bool x.aY.bd,.int .i64 x.aY.ty.kind,.str x.aY.ty.name,.int .i64 x.aY.ty.id,.int .i64 x.aY.ty.home,.aI (x.aY.ty.args.map Ty.pv),.int .i64 x.aY.home,.bool x.aY.base,.bool x.nw]:=rfl
structure d8 where
 sl:List Sl
 tr:List Ch
def d8.pv (s:d8):PV:=.agg [.aI (s.sl.map Sl.pv),.aI (s.tr.map Ch.pv)]
@[simp] theorem d8.lI (s:d8):s.pv=.agg [.aI (s.sl.map Sl.pv),.aI (s.tr.map Ch.pv)]:=rfl
structure d8.Ok (s:d8) (n m:Nat):Prop where
 sl:s.sl.length≤n
 tr:s.tr.length≤m
 ty:∀x∈s.sl,x.ty.Ok
theorem LS:El Sl.pv 8 true:=⟨fun _=>rfl,fun _=>rfl⟩
theorem IZ:El Ch.pv 10 true:=⟨fun _=>rfl,fun _=>rfl⟩
def iD (s:List Sl) (t:Ty):Option Sl:=if t.kind=1∧0≤t.id then (match s[t.id.toNat]? with | some x=>if x.bd then some x else none | none=>none) else none
theorem gA {s:List Sl} {t:Ty} {x:Sl} (h:iD s t=some x):t.kind=1∧∃i:Nat,t.id=i∧s[i]?=some x∧x.bd=true:=by
 unfold iD at h;split at h
 · rename_i q;refine ⟨q.1,t.id.toNat,by omega,?_⟩;split at h
   · rename_i y hy;split at h
     · rename_i hb;cases h;exact ⟨hy,hb⟩
     · cases h
   · cases h
 · cases h
theorem c392 {s:d8} {t:Ty}:(aP AP).p 392 [s.pv,t.pv]=some [.bool (iD s.sl t).isSome]:=by
 rw [aw (af:=g392) rfl rfl (by decide)];unfold iD;by_cases k:t.kind=1
 · by_cases h0:0≤t.id
   · obtain ⟨i,hi⟩:∃i:Nat,t.id=i:=⟨t.id.toNat,by omega⟩;by_cases hl:i<s.sl.length
     · obtain ⟨x,hx⟩:=bD hl;simp (disch:=omega) [-getElem?_pos,g392,k,hi,hl,hx];cases x.bd<;>rfl
     · have hx:s.sl[i]?=none:=(by simp;omega);simp (disch:=omega) [-getElem?_pos,g392,k,hi,hl,hx]
   · simp (disch:=omega) [g392,k,h0]
 · simp (disch:=omega) [g392,k]
def wk (s:List Sl):Nat→Ty→Ty
 | 0,t=>t
 | n+1,t=>match iD s t with | some x=>wk s n x.ty | none=>t
theorem lS {s:List Sl} (hs:∀x∈s,x.ty.Ok):∀{n:Nat} {t:Ty},t.Ok→(wk s n t).Ok
 | 0,t,h=>h
 | n+1,t,h=>by
   unfold wk;split
   · rename_i x hx;obtain ⟨_,i,_,hi,_⟩:=gA hx;exact lS hs (hs x (bt hi))
   · exact h
def tC (t:Ty):List AV:=[.pv (vI t.kind),.pv (.str t.name),.pv (vI t.id),.pv (vI t.home),.pv (.aI (t.args.map Ty.pv))]
def sC (s:d8):List AV:=[.pv (.aI (s.sl.map Sl.pv)),.pv (.aI (s.tr.map Ch.pv))]
def zC (k:Nat):List AV:=[.pv (vI 0),.pv (.str []),.pv (vI 0),.pv (vI 0),.own [] k]
theorem Pn {s:d8} (hs:Sm s.sl):∀(n i:Nat),s.sl.length+1-i=n→i≤s.sl.length+1→∀t:Ty,∃(i':Nat),
   cl AP g386L0 ⟨[(2,.aG 2 0),(3,.aG 3 0),(4,.aG 4 0),(5,.pv (vI i))],[(2,sC s),(3,tC t),(4,zC 0)],[],[0]⟩ =
     some (.exit 0,⟨[(2,.aG 2 0),(3,.aG 3 0),(4,.aG 4 0),(5,.pv (vI i')),(15,.pv (.bool false))],[(2,sC s),(3,tC (wk s.sl n t)),(4,zC 0)],[],[0]⟩)
 | 0,i,hn,hi,t=>by
   refine ⟨i,?_⟩;have h1:¬(i:Int)≤s.sl.length:=by omega
   rw [g386L0e];simp [g386B0,sC,tC,zC,wk,h1]
 | n+1,i,hn,hi,t=>by
   have h1:(i:Int)≤s.sl.length:=(by omega);have k:=c392 (s:=s) (t:=t);unfold Sm at hs;rw [g386L0e];cases hb:iD s.sl t with
   | none=>
     refine ⟨i,?_⟩;rw [hb] at k;simp at k;simp [g386B0,sC,tC,zC,wk,h1,hb,k]
   | some x=>
     obtain ⟨_,j,hj,hx,_⟩:=gA hb;obtain ⟨i',e⟩:=Pn hs n (i+1) (by omega) (by omega) x.ty;refine ⟨i',?_⟩;rw [hb] at k;have hl:j<s.sl.length:=by obtain ⟨h,_⟩:=List.getElem?_eq_some_iff.1 hx;exact h
     rw [g386L0e] at e;simp [hj] at k;simp [sC,tC,zC] at e;simp (disch:=omega) [-getElem?_pos,g386B0,sC,tC,zC,wk,h1,hb,k,hj,hx,hl,az];rw [g386L0e];simp [e]
theorem c386 {s:d8} (hs:Sm s.sl) {t:Ty}:(aP AP).p 386 [s.pv,t.pv]=some [(wk s.sl (s.sl.length+1) t).pv]:=by
 obtain ⟨i',h⟩:=Pn hs _ 0 rfl (by omega) t;rw [aw (af:=g386) rfl rfl (by decide)];rw [g386L0e] at h;simp [sC,tC,zC] at h;simp [g386,g386L0e,h]
def kE (s:List Sl) (t:Ty):Ty:=wk s (s.length+1) t
inductive Tr (s:List Sl):Ty→Nat→Prop
 | mk {t:Ty} (ns:List Nat):ns.length=(kE s t).args.length→(∀(i:Nat) a n,(kE s t).args[i]?=some a→ns[i]?=some n→Tr s a n)→Tr s t (ns.sum+1)
def JA (s:List Sl) (l:List Ty) (ns:List Nat):Prop:=ns.length=l.length∧∀(i:Nat) a n,l[i]?=some a→ns[i]?=some n→Tr s a n
theorem JA.nil {s:List Sl}:JA s [] []:=⟨rfl,by intro i a n h;simp at h⟩
theorem JA.snoc {s:List Sl} {l:List Ty} {ns:List Nat} (h:JA s l ns) {a:Ty} {n:Nat} (ha:Tr s a n):JA s (l++[a]) (ns++[n]):=by
 refine ⟨by simp [h.1],?_⟩;intro i b m hb hm;have hl:=h.1;by_cases hi:i<l.length
 · rw [List.getElem?_append_left hi] at hb;rw [List.getElem?_append_left (by omega)] at hm;exact h.2 i b m hb hm
 · rw [List.getElem?_append_right (by omega)] at hb;rw [List.getElem?_append_right (by omega),hl] at hm;by_cases e:i-l.length=0
   · rw [e] at hb hm;simp at hb hm;rw [←hb,←hm];exact ha
   · have h1:1≤i-l.length:=(by omega);have:([a]:List Ty)[i-l.length]?=none:=(by simp;omega);rw [this] at hb;cases hb
theorem Tr.inv {s:List Sl} {t:Ty} {r:Nat} (h:Tr s t r):∃ns,JA s (kE s t).args ns∧r=ns.sum+1:=by
 cases h with
 | mk ns h1 h2=>exact ⟨ns,⟨h1,h2⟩,rfl⟩
theorem wx:∀{ns:List Nat} {i n:Nat},ns[i]?=some n→n≤ns.sum
 | a::r,0,n,h=>by simp at h;subst h;simp
 | a::r,i+1,n,h=>by simp at h;have:=wx h;simp;omega
theorem Po {s:d8} (hs:Sm s.sl) (hO:∀x∈s.sl,x.ty.Ok) {m:Nat} (hm:m<1000000) (IH:∀m':Nat,m'<m→∀t,t.Ok→∃r:Nat,(aP AP).p 371 [s.pv,t.pv,vI m']=some [vI r]∧1≤r∧r≤m'+1∧(r≤m'→Tr s.sl t r))
   {x:Ty} (hx:x.Ok):∀(k i n:Nat),x.args.length-i=k→i≤x.args.length→1≤n→n≤m+1→(n≤m→∃ns,JA s.sl (x.args.take i) ns∧n=ns.sum+1)→∃i' n':Nat,
   cl AP g371L0 ⟨[(2,.pv (vI m)),(3,.aG 3 0),(4,.aG 4 0),(7,.pv (vI n)),(8,.pv (vI i))],[(3,sC s),(4,tC x)],[],[]⟩ =
     some (.exit 0,⟨[(2,.pv (vI m)),(3,.aG 3 0),(4,.aG 4 0),(7,.pv (vI n')),(8,.pv (vI i')),(21,.pv (.bool false))],[(3,sC s),(4,tC x)],[],[]⟩)∧1≤n'∧n'≤m+1∧(n'≤m→∃ns,JA s.sl x.args ns∧n'=ns.sum+1)
 | 0,i,n,hk,hi,h1,h2,h3=>by
   have:i=x.args.length:=by omega
   subst this;refine ⟨x.args.length,n,?_,h1,h2,by simpa using h3⟩;rw [g371L0e];simp [g371B0,sC,tC]
 | k+1,i,n,hk,hi,h1,h2,h3=>by
   have hi:i<x.args.length:=(by omega);obtain ⟨a,ha⟩:=bD hi;have hsm:=hx.sm;unfold Sm at hsm;by_cases hn:n≤m
   · have g0:m-n<m:=by clear h3;omega
     obtain ⟨r,e,r1,r2,r3⟩:=IH (m-n) g0 a (hx.g_ a (bt ha));have hsub:((m:Int)-n)=((m-n:Nat):Int):=by clear h3 r3;omega
     have g5:n+r≤m→∃ns,JA s.sl (x.args.take (i+1)) ns∧n+r=ns.sum+1:=by
       intro h;obtain ⟨ns,q,e2⟩:=h3 hn;refine ⟨ns++[r],?_,by rw [List.sum_append,e2];simp;omega⟩;rw [List.take_add_one,ha];have hr:r≤m-n:=by clear h3;omega
       exact q.snoc (r3 hr)
     clear h3;have g1:x.args.length-(i+1)=k:=by clear g5 r3;omega
     have g2:1≤n+r:=by clear g5 r3;omega
     have g3:n+r≤m+1:=by clear g5 r3;omega
     obtain ⟨i',n',e',q1,q2,q3⟩:=Po hs hO hm IH hx k (i+1) (n+r) g1 hi g2 g3 g5;refine ⟨i',n',?_,q1,q2,q3⟩;have hnm:(n:Int)≤m:=by omega
     rw [g371L0e] at e' ⊢;simp at e;simp [sC,tC] at e';simp (disch:=omega) [-getElem?_pos,g371B0,sC,tC,hi,ha,hnm,az,hsub,e];rw [g371L0e];simp [e']
   · refine ⟨i,n,?_,h1,h2,fun h=>absurd h hn⟩;clear h3;have hnm:¬(n:Int)≤m:=by omega
     rw [g371L0e];simp (disch:=omega) [-getElem?_pos,g371B0,sC,tC,hi,hnm]
theorem c371 {s:d8} (hs:Sm s.sl) (hO:∀x∈s.sl,x.ty.Ok) (m:Nat) (hm:m<1000000):∀t:Ty,t.Ok→∃r:Nat,(aP AP).p 371 [s.pv,t.pv,vI m]=some [vI r]∧1≤r∧r≤m+1∧(r≤m→Tr s.sl t r):=by
 induction m using Nat.strongRecOn with
 | ind m ih=>
   intro t ht;have k:=c386 hs (t:=t);have hw:(wk s.sl (s.sl.length+1) t).Ok:=lS hO ht;obtain ⟨i',n',e,q1,q2,q3⟩:=Po hs hO hm (fun m' h t ht=>ih m' h (by omega) t ht) hw _ 0 1 rfl (by omega) (by omega) (by omega) (fun _=>⟨[],by simpa using JA.nil,rfl⟩);refine ⟨min n' (m+1),?_,by clear q3;omega,by clear q3;omega,?_⟩
   · rw [aw (af:=g371) rfl rfl (by decide)];rw [g371L0e] at e;have hmin:min (n':Int) ((m:Int)+1)=((min n' (m+1):Nat):Int):=by omega
     generalize wk s.sl (s.sl.length+1) t=x at *;simp at k;simp [sC,tC] at e;simp (disch:=omega) [g371,k,g371L0e,e,az,hmin];omega
   · intro h;have hq:n'≤m:=by clear q3;omega
     obtain ⟨ns,a,b⟩:=q3 hq;have:min n' (m+1)=ns.sum+1:=by omega
     rw [this];exact .mk ns a.1 a.2
def uC (x:Ty) (acc:List Ty) (k:Nat):List AV:=[.pv (vI x.kind),.pv (.str x.name),.pv (vI x.id),.pv (vI x.home),.own (acc.map Ty.pv) k]
theorem Pp {s:d8} {x:Ty} (hx:x.Ok) {ns:List Nat} (hns:ns.length=x.args.length) (IH:∀(i:Nat) a n,x.args[i]?=some a→ns[i]?=some n→∃u:Ty,(aP AP).p 373 [s.pv,a.pv]=some [u.pv]∧u.Ok∧u.nodes.length=n):∀(k i:Nat),x.args.length-i=k→i≤x.args.length→∀acc:List Ty,acc.length=i→(∀u∈acc,u.Ok)→(acc.flatMap Ty.nodes).length=(ns.take i).sum→∃us:List Ty,
   cl AP g373L0 ⟨[(2,.aG 2 0),(3,.aG 3 0),(4,.aG 4 0),(5,.aG 5 0),(6,.pv (vI i))],[(2,sC s),(3,tC x),(4,zC 0),(5,uC x acc 1)],[],[0,acc.length]⟩ =
     some (.exit 0,⟨[(2,.aG 2 0),(3,.aG 3 0),(4,.aG 4 0),(5,.aG 5 0),(6,.pv (vI x.args.length)),(16,.pv (.bool false))],[(2,sC s),(3,tC x),(4,zC 0),(5,uC x us 1)],[],[0,us.length]⟩)∧us.length=x.args.length∧(∀u∈us,u.Ok)∧(us.flatMap Ty.nodes).length=ns.sum
 | 0,i,hk,hi,acc,ha,hu,hc=>by
   have:i=x.args.length:=by omega
   subst this;refine ⟨acc,?_,ha,hu,by rw [hc,←hns,List.take_length]⟩;rw [g373L0e];simp [g373B0,sC,tC,zC,uC]
 | k+1,i,hk,hi,acc,ha,hu,hc=>by
   have hi:i<x.args.length:=(by omega);obtain ⟨a,hax⟩:=bD hi;obtain ⟨n,hn⟩:=bD (l:=ns) (i:=i) (by omega);have hsm:=hx.sm;unfold Sm at hsm;obtain ⟨u,e,hO,hnn⟩:=IH i a n hax hn
   obtain ⟨us,e',h1,h2,h3⟩:=Pp hx hns IH k (i+1) (by omega) (by omega) (acc++[u]) (by simp;omega) (by
     intro y hy;simp at hy;rcases hy with hy | rfl
     · exact hu y hy
     · exact hO) (by rw [List.take_add_one,hn,List.flatMap_append,List.length_append,hc];simp [hnn])
   refine ⟨us,?_,h1,h2,h3⟩;have hb:(acc.length+1)*64≤140737488355328:=by omega
   rw [g373L0e] at e' ⊢;simp at e;simp [sC,tC,zC,uC] at e';simp (disch:=omega) [-getElem?_pos,g373B0,sC,tC,zC,uC,hi,hax,az,e,hb];rw [g373L0e];simp [e']
theorem c373 {s:d8} (hs:Sm s.sl) (hO:∀x∈s.sl,x.ty.Ok) (r:Nat):∀t:Ty,Tr s.sl t r→t.Ok→∃u:Ty,(aP AP).p 373 [s.pv,t.pv]=some [u.pv]∧u.Ok∧u.nodes.length=r:=by
 induction r using Nat.strongRecOn with
 | ind r ih=>
   intro t ht hto;have k:=c386 hs (t:=t);have hw:(wk s.sl (s.sl.length+1) t).Ok:=lS hO hto;obtain ⟨ns,hn,hr⟩:=ht.inv;unfold kE at hn
   obtain ⟨us,e,h1,h2,h3⟩:=Pp (s:=s) hw hn.1 (fun i a n hi hni=>by
     have:=wx hni;exact ih n (by omega) a (hn.2 i a n hi hni) (hw.g_ a (bt hi))) _ 0 rfl (by omega) [] rfl (by simp) rfl
   refine ⟨⟨(wk s.sl (s.sl.length+1) t).kind,(wk s.sl (s.sl.length+1) t).name,(wk s.sl (s.sl.length+1) t).id,(wk s.sl (s.sl.length+1) t).home,us⟩,?_,⟨by have:=hw.sm;unfold Sm at *;simp only;omega,h2⟩,by rw [Ty.bh];simp only [List.length_cons];omega⟩;rw [aw (af:=g373) rfl rfl (by decide)];rw [g373L0e] at e;generalize wk s.sl (s.sl.length+1) t=x at *;simp at k;simp [sC,tC,zC,uC] at e;simp [g373,k,g373L0e,e]
theorem c355 {s:d8} (hs:Sm s.sl) (hO:∀x∈s.sl,x.ty.Ok) {m:Nat} (hm:m<1000000) {t:Ty} (ht:t.Ok):∃r:Nat,(aP AP).p 355 [s.pv,t.pv,vI m]=some [vI r]∧1≤r∧r≤m+1∧(r≤m→Tr s.sl t r):=by
 obtain ⟨r,e,h⟩:=c371 hs hO m hm t ht;refine ⟨r,?_,h⟩;rw [aw (af:=g355) rfl rfl (by decide)];simp at e;have hmx:max (m:Int) 0=m:=by omega
 simp [g355,hmx,e]
theorem c358 {s:d8} (hs:Sm s.sl) (hO:∀x∈s.sl,x.ty.Ok) {t:Ty} (ht:t.Ok):∃(u:Ty) (b:Bool),(aP AP).p 358 [s.pv,t.pv]=some [u.pv,.bool b]∧u.Ok∧u.nodes.length≤4000:=by
 obtain ⟨r,e,h1,h2,h3⟩:=c355 hs hO (m:=4000) (by omega) ht;simp at e;by_cases hr:r≤4000
 · obtain ⟨u,e2,hu,hnu⟩:=c373 hs hO r t (h3 hr) ht;refine ⟨u,true,?_,hu,by omega⟩;simp at e2;have hr':¬(4000:Int)<r:=by omega
   rw [aw (af:=g358) rfl rfl (by decide)];simp [g358,e,hr',e2]
 · refine ⟨bW,false,?_,da rfl,by rw [Ty.bh];simp [bW]⟩;have hr':(4000:Int)<r:=by omega
   rw [aw (af:=g358) rfl rfl (by decide)];simp [g358,e,hr',bW]
theorem c388:(aP AP).p 388 []=some [(d8.mk [] []).pv]:=by
 rw [aw (af:=g388) rfl rfl (by decide)];simp [g388]
def dB (s:d8) (home:Int) (b:Bool):d8:=⟨s.sl++[⟨false,bW,home,b⟩],s.tr++[⟨s.sl.length,⟨false,bW,0,false⟩,true⟩]⟩
theorem c381 {s:d8} {n m:Nat} (hs:s.Ok n m) (hn:n≤1000000) (hm:m≤1000000000) (home:Int) (b:Bool):(aP AP).p 381 [s.pv,vI home,.bool b]=some [(dB s home b).pv,(cv s.sl.length).pv]:=by
 have k:=c63 (n:=s.sl.length);have h1:=hs.sl;have h2:=hs.tr;have b1:s.sl.length*88≤140737488355328:=by omega
 have b2:(s.sl.length+1)*88≤140737488355328:=by omega
 have b3:s.tr.length*104≤140737488355328:=by omega
 have b4:(s.tr.length+1)*104≤140737488355328:=by omega
 have e1:=LS.head s.sl;have e2:=IZ.head s.tr;simp at k e1 e2;rw [aw (af:=g381) rfl rfl (by decide)];simp (disch:=omega) [g381,dB,bW,cv,k,b1,b2,b3,b4,e1,e2]
 (repeat' split)<;>simp_all
theorem Pq {sz:Nat} {l:List PV} {k:IntKind} {h:Int} (h0:0≤h) (h1:h≤l.length):cO false sz false true false [.pv (.aI l),.pv (.int k h)]=some (.pv (.aI (l.take h.toNat))):=by
 simp [cO,cR,dZ,h0,h1]
theorem Pr {sz τ:Nat} {l:List PV} {k:IntKind} {h:Int} (h0:0≤h) (h1:h≤l.length):cO false sz false true false [.own l τ,.pv (.int k h)]=some (.pv (.aI (l.take h.toNat))):=by
 simp [cO,cR,dZ,h0,h1]
def Sl.cells (x:Sl):List PV:=[.bool x.bd,vI x.ty.kind,.str x.ty.name,vI x.ty.id,vI x.ty.home,.aI (x.ty.args.map Ty.pv),vI x.home,.bool x.base]
theorem ng:Row Sl.cells 8:=⟨by omega,fun _=>rfl⟩
theorem Nl {l:List Sl}:((ff (b_ Sl.cells l)).bind (fh 8 true l.length)).map PV.aI=some (.aI (l.map Sl.pv)):=qB ng
theorem Nn {l:List Sl}:((l.map Sl.pv).flatMap bw).map AV.pv=b_ Sl.cells l:=qC ng
def gV (s:d8) (i:Nat) (o x:Sl):d8:=⟨s.sl.set i x,s.tr++[⟨i,o,false⟩]⟩
theorem c393 {s:d8} {n m:Nat} (hs:s.Ok n m) (hn:n≤1000000) (hm:m≤1000000000) {i:Nat} {o:Sl} (hi:s.sl[i]?=some o) (x:Sl):(aP AP).p 393 [s.pv,vI i,x.pv]=some [(gV s i o x).pv,.bool true]:=by
 have h1:=hs.sl;have h2:=hs.tr;have hl:i<s.sl.length:=by obtain ⟨h,_⟩:=List.getElem?_eq_some_iff.1 hi;exact h
 have b1:s.sl.length*88≤140737488355328:=by omega
 have b3:s.tr.length*104≤140737488355328:=by omega
 have b4:(s.tr.length+1)*104≤140737488355328:=by omega
 have hge:¬s.sl.length≤i:=by omega
 have hle8:i*8+8≤s.sl.length*8:=by omega
 have hf:∀S:Sh,dR S (.aG 8 0)=none:=fun _=>rfl
 have e1:=LS.head s.sl;have e2:=IZ.head s.tr;have hne:¬s.sl=[]:=by intro h;rw [h] at hl;simp at hl
 have hmp:=Nn (l:=s.sl);have hB:dr (b_ Sl.cells s.sl)=false:=dw cJ;have hB2:dr (b_ Sl.cells (s.sl.set i x))=false:=dw cJ;have hlen:(b_ Sl.cells s.sl).length=s.sl.length*8:=d7 ng;have hlen2:(b_ Sl.cells (s.sl.set i x)).length=s.sl.length*8:=by rw [d7 ng];simp
 have hle:=Nd ng hl (o:=0) (k:=8) (by omega)
 have hset:=qA ng hi (y:=x) (o:=0) (vs:=x.cells) (by rw [ng.len];omega) (by
   simp [Sl.cells])
 have hq:∀aY ts,bV aY ts [some (b_ Sl.cells s.sl)]=([some (b_ Sl.cells s.sl)],aY,ts):=(bA.one cJ).norm;have hq2:∀aY ts,bV aY ts [some (b_ Sl.cells (s.sl.set i x))]=([some (b_ Sl.cells (s.sl.set i x))],aY,ts):=(bA.one cJ).norm;have hlst:=Nl (l:=s.sl.set i x);rw [List.length_set] at hlst;simp only [Nat.add_zero] at hset hle;generalize b_ Sl.cells (s.sl.set i x)=T1 at *;generalize b_ Sl.cells s.sl=T at *;simp [Sl.cells] at hset;simp at hlst hmp e1 e2;rw [aw (af:=g393) rfl rfl (by decide)];simp (disch:=omega) [-getElem?_pos,g393,hi,hl,b1,b3,b4,e1,e2,hne,hmp,hB,hB2,hlen,hlen2,hset,hq,hq2,hlst,gV,hge,hle8,hf]
theorem c194g {t:Ty} (ht:t.Ok):∃(a b:Ty) (c:Bool),(aP AP).p 194 [t.pv]=some [a.pv,b.pv,.bool c]∧a.Ok∧b.Ok∧(c=true→t=⟨4,[45,62],t.id,t.home,[a,b]⟩):=by
 by_cases h:t.kind=4∧t.name=[45,62]∧t.args.length=2
 · obtain ⟨h1,h2,h3⟩:=h
   match e:t.args,h3 with
   | [a,b],_=>
     refine ⟨a,b,true,?_,ht.g_ a (by simp [e]),ht.g_ b (by simp [e]),?_⟩
     · rw [aw (af:=g194) rfl rfl (by decide)];simp [g194,h1,h2,e]
     · intro _;cases t;simp at h1 h2 e ⊢;simp [h1,h2,e]
 · refine ⟨bW,bW,false,?_,da rfl,da rfl,by simp⟩;rw [aw (af:=g194) rfl rfl (by decide)];by_cases h1:t.kind=4
   · by_cases h2:t.name=[45,62]
     · have h3:¬(t.args.length:Int)=2:=by
         intro q;exact h ⟨h1,h2,by omega⟩
       simp [g194,h1,h2,h3,bW]
     · simp [g194,h1,h2,bW]
   · simp [g194,h1,bW]
theorem QW {S:List Ty} {l:List Ty} (hS:Sm l) (hO:∀t∈l,t.Ok) (hk:∀x∈l.flatMap (Ty.fe 3),x∈S):∀(n i:Nat),l.length-i=n→i≤l.length→∀out,gm S out →
   cl AP g59L0 ⟨[(0,.pv (.aI (l.map Ty.pv))),(3,.own (out.map Ty.pv) 0),(4,.pv (vI i))],[],[],[out.length]⟩ =
     some (.exit 0,⟨[(0,.pv (.aI (l.map Ty.pv))),(3,.own ((((l.drop i).flatMap (Ty.fe 3)).foldl gU out).map Ty.pv) 0),(4,.pv (vI l.length)),(8,.pv (.bool false))],[],[],[(((l.drop i).flatMap (Ty.fe 3)).foldl gU out).length]⟩)
 | 0,i,hn,hi,out,hc=>by
   have:i=l.length:=by omega
   subst this;rw [g59L0e];simp [g59B0]
 | n+1,i,hn,hi,out,hc=>by
   have hi:i<l.length:=(by omega);obtain ⟨x,hx⟩:=bD hi;unfold Sm at hS;have hkx:∀y∈x.fe 3,y∈S:=fun y hy=>hk y (by simp only [List.mem_flatMap];exact ⟨x,bt hx,hy⟩)
   have k:=c99 (kd:=3) (hO x (bt hx)) hkx out hc;have ih:=QW hS hO hk n (i+1) (by omega) (by omega) _ (hc.fold hkx);rw [g59L0e] at ih ⊢;rw [cp hx];simp at k ih;simp (disch:=omega) [-getElem?_pos,g59B0,hx,hi,k,az];rw [g59L0e];simp [ih]
theorem c59 {S:List Ty} (hf:S.length<1099511627776) (hSo:∀x∈S,x.Ok) {l:List Ty} (hS:Sm l) (hO:∀t∈l,t.Ok) (hk:∀x∈l.flatMap (Ty.fe 3),x∈S):∃r:List Ty,(aP AP).p 59 [.aI (l.map Ty.pv)]=some [.aI (r.map Ty.pv)]∧Sm r∧∀x∈r,x∈S:=by
 have c0:gm S []:=⟨by simp,by simp,hf,hSo⟩;have h:=QW hS hO hk _ 0 rfl (by omega) [] c0;have hc:=c0.fold hk;refine ⟨_,?_,hc.len,hc.sub⟩;rw [aw (af:=g59) rfl rfl (by decide)];rw [g59L0e] at h;simp at h;simp [g59,g59L0e,h]
def mL (s:List Sl) (t:Ty):Bool:=decide (t.kind=1∧0≤t.id∧t.id<s.length)
theorem c396 {s:d8} {t:Ty}:(aP AP).p 396 [s.pv,t.pv]=some [.bool (mL s.sl t)]:=by
 rw [aw (af:=g396) rfl rfl (by decide)];by_cases h1:t.kind=1
 · by_cases h2:0≤t.id
   · by_cases h3:t.id<s.sl.length
     · simp [g396,mL,h1,h2,h3]
     · simp [g396,mL,h1,h2,h3]
   · simp [g396,mL,h1,h2]
 · simp [g396,mL,h1]
inductive iq:Ty→Int→Prop
 | var {t:Ty}:t.kind=1→iq t t.id
 | arg {t a:Ty} {v:Int}:t.kind≠1→a∈t.args→iq a v→iq t v
def Edge (s:List Sl) (i v:Int):Prop:=∃(k:Nat) (x:Sl),i=k∧s[k]?=some x∧x.bd=true∧iq x.ty v
inductive C7 (s:List Sl):Int→Int→Prop
 | refl (i:Int):C7 s i i
 | step {i j k:Int}:Edge s i j→C7 s j k→C7 s i k
def Gs (s:List Sl):Prop:=∃rk:Int→Nat,∀i v,Edge s i v→rk v<rk i
theorem Gs.of {s s':List Sl} (h:Gs s) (he:∀i v,Edge s' i v→Edge s i v):Gs s':=by
 obtain ⟨rk,hr⟩:=h;exact ⟨rk,fun i v e=>hr i v (he i v e)⟩
theorem iq.bound (rk:Int→Nat) (t:Ty):∃M,∀v,iq t v→rk v<M:=by
 refine Ty.eU (p:=fun t=>∃M,∀v,iq t v→rk v<M) ?_ t;intro t ih;by_cases k:t.kind=1
 · refine ⟨rk t.id+1,?_⟩;intro v h;cases h with
   | var _=>omega
   | arg q _ _=>exact absurd k q
 · have key:∀l:List Ty,(∀a∈l,∃M,∀v,iq a v→rk v<M)→∃M,∀a∈l,∀v,iq a v→rk v<M:=by
     intro l;induction l with
     | nil=>intro _;exact ⟨0,by simp⟩
     | cons a r ihr=>
       intro h;obtain ⟨M,hM⟩:=h a (by simp);obtain ⟨N,hN⟩:=ihr fun b hb=>h b (by simp [hb])
       refine ⟨M+N,?_⟩;intro b hb v hv;simp at hb;rcases hb with rfl | hb
       · have:=hM v hv;omega
       · have:=hN b hb v hv;omega
   obtain ⟨M,hM⟩:=key t.args ih;refine ⟨M,?_⟩;intro v h;cases h with
   | var q=>exact absurd q k
   | arg _ ha h=>exact hM _ ha v h
theorem y9 {s:List Sl} {k:Nat} {x:Sl} {i v:Int} (h:Edge (s.set k x) i v):(i=k∧x.bd=true∧iq x.ty v)∨(i≠k∧Edge s i v):=by
 obtain ⟨j,y,rfl,hy,hb,ho⟩:=h;rw [List.getElem?_set] at hy;by_cases e:k=j
 · subst e;by_cases hl:k<s.length
   · simp [hl] at hy;subst hy;exact .inl ⟨rfl,hb,ho⟩
   · simp [hl] at hy
 · simp [e] at hy;exact .inr ⟨by omega,j,y,rfl,hy,hb,ho⟩
theorem y_ {s:List Sl} {k:Nat} {o x:Sl} (h:Gs s) (hk:s[k]?=some o) (hb:x.bd=o.bd) (ht:x.ty=o.ty):Gs (s.set k x):=by
 refine h.of ?_;intro i v e;rcases y9 e with ⟨rfl,b,oc⟩ | ⟨_,e⟩
 · exact ⟨k,o,rfl,hk,by rw [←hb];exact b,by rw [←ht];exact oc⟩
 · exact e
theorem za {s:List Sl} {k:Nat} {x:Sl} (h:Gs s) (hn:∀v,iq x.ty v→¬C7 s v k):Gs (s.set k x):=by
 classical
 obtain ⟨rk,hr⟩:=h;obtain ⟨M,hM⟩:=iq.bound rk x.ty;refine ⟨fun j=>if C7 s j k then rk j+M else rk j,?_⟩;intro i v e;show (if C7 s v k then rk v+M else rk v)<(if C7 s i k then rk i+M else rk i);rcases y9 e with ⟨rfl,b,oc⟩ | ⟨_,e⟩
 · have h1:=hM v oc;rw [if_neg (hn v oc),if_pos (.refl _)];omega
 · have h1:=hr i v e;by_cases q:C7 s v k
   · rw [if_pos q,if_pos (.step e q)];omega
   · rw [if_neg q];split<;>omega
theorem I0 {s:List Sl} {x:Sl} (h:Gs s) (hb:x.bd=false):Gs (s++[x]):=by
 refine h.of ?_
 rintro i v ⟨k,y,rfl,hy,b,o⟩
 by_cases hl:k<s.length
 · rw [List.getElem?_append_left hl] at hy;exact ⟨k,y,rfl,hy,b,o⟩
 · rw [List.getElem?_append_right (by omega)] at hy;by_cases e:k-s.length=0
   · rw [e] at hy;simp at hy;subst hy;rw [hb] at b;cases b
   · have:([x]:List Sl)[k-s.length]?=none:=by simp;omega
     rw [this] at hy;cases hy
def ub (s:List Sl):Nat:=s.countP fun x=>!x.bd
theorem qE:∀{s:List Sl} {k:Nat} {o x:Sl},s[k]?=some o→x.bd=o.bd→ub (s.set k x)=ub s
 | [],k,o,x,h,_=>by simp at h
 | a::r,0,o,x,h,hb=>by simp at h;subst h;simp [ub,List.countP_cons,hb]
 | a::r,k+1,o,x,h,hb=>by
   simp at h;have:=qE h hb;simp only [ub] at this;simp [ub,List.countP_cons,this]
theorem wy:∀{s:List Sl} {k:Nat} {o x:Sl},s[k]?=some o→o.bd=false→x.bd=true→ub (s.set k x)+1=ub s
 | [],k,o,x,h,_,_=>by simp at h
 | a::r,0,o,x,h,hb,hx=>by simp at h;subst h;simp [ub,List.countP_cons,hb,hx]
 | a::r,k+1,o,x,h,hb,hx=>by
   simp at h;have:=wy h hb hx;simp only [ub] at this;simp [ub,List.countP_cons];omega
def bT (dn:List Bool):List AV:=dn.map fun b=>.pv (.bool b)
def fX (s:d8) (T:List AV) (n:Nat) (out:List Int):Sh:=[some T,some [.pv (.aI (s.sl.map Sl.pv)),.pv (.aI (s.tr.map Ch.pv)),.own (out.map vI) 0,.bE 0 1 n false]]
structure LU (T:List AV):Prop where
 norm:∀aY ts,bP aY ts T=(T,aY,ts)
 mp:dr T=false
 sh:∀k,T.map (dG k)=T
theorem Ps {s:d8} {S out:List Int} {t:Ty} (hk:t.kind=1) (hb:iD s.sl t=none) (hc:kX S out) {T:List AV} (hT:LU T) {n:Nat} :
   (aP AP).i 387 [.br 1 0,.pv t.pv] (fX s T n out) [out.length]=some ([],fX s T n (if t.id∈out then out else out++[t.id]),[(if t.id∈out then out else out++[t.id]).length]):=by
 have k1:=c392 (s:=s) (t:=t);have hl:=hc.len;have k2:=c95 hl (y:=t.id);unfold Sm at hl;have hbb:(out.length+1)*8≤140737488355328:=by omega
 have hh:bC 1 (out.map vI)=true:=kB.head out;have hn:=hT.norm;rw [hb] at k1;simp [hk] at k1;rw [aR (af:=g387) rfl (by simp [g387])];by_cases e2:t.id∈out
 · rw [decide_eq_true e2] at k2;simp [g387,fX,hk,k1,k2,e2,hn]
 · rw [decide_eq_false e2] at k2;simp [g387,fX,hk,k1,k2,e2,hn,hbb,hh]
theorem Pt {s:d8} {out:List Int} {t:Ty} {x:Sl} {i:Nat} (hi:t.id=i) (hk:t.kind=1) (hx:s.sl[i]?=some x) (hb:iD s.sl t=some x) {T:List AV} (hT:LU T) {n:Nat} (hn:T.length=n) (hin:i<n) (hd:T[i]?=some (.pv (.bool true))) :
   (aP AP).i 387 [.br 1 0,.pv t.pv] (fX s T n out) [out.length]=some ([],fX s T n out,[out.length]):=by
 have k1:=c392 (s:=s) (t:=t);have hnm:=hT.norm;have hmp:=hT.mp;have hsh:=hT.sh;have hle:i+1≤T.length:=by omega
 rw [hb] at k1;simp [hk,hi] at k1;rw [aR (af:=g387) rfl (by simp [g387])];simp (disch:=omega) [-getElem?_pos,g387,fX,hk,hi,k1,hnm,hin,hd,hmp,hle,cA]
theorem Pu {s:d8} {out out':List Int} {t:Ty} {x:Sl} {i:Nat} (hi:t.id=i) (hk:t.kind=1) (hx:s.sl[i]?=some x) (hb:iD s.sl t=some x) {T T1 T2:List AV} (hT:LU T) (hT1:LU T1) (hT2:LU T2) {n:Nat} (hn:T.length=n) (hin:i<n) (hd:T[i]?=some (.pv (.bool false)))
   (hs:bn T i [.pv (.bool true)]=T1) (e:(aP AP).i 387 [.br 1 0,.pv x.ty.pv] (fX s T1 n out) [out.length]=some ([],fX s T2 n out',[out'.length])) :
   (aP AP).i 387 [.br 1 0,.pv t.pv] (fX s T n out) [out.length]=some ([],fX s T2 n out',[out'.length]):=by
 have k1:=c392 (s:=s) (t:=t);have hnm:=hT.norm;have hnm1:=hT1.norm;have hnm2:=hT2.norm;have hsh1:=hT1.sh;have hsh2:=hT2.sh;have hmp:=hT.mp;have hsh:=hT.sh;have hl:i<s.sl.length:=by obtain ⟨h,_⟩:=List.getElem?_eq_some_iff.1 hx;exact h
 have hle:i+1≤T.length:=by omega
 rw [hb] at k1;simp [hk,hi] at k1;simp [fX] at e;simp at hs;rw [aR (af:=g387) rfl (by simp [g387])];simp (disch:=omega) [-getElem?_pos,g387,fX,hk,hi,k1,hnm,hnm1,hnm2,hin,hd,hx,hl,hmp,hs,hle,e,cA,hsh,hsh1,hsh2]
def Np (s:d8) (n:Nat) (t:Ty) (T:List AV) (out:List Int) (T':List AV) (out':List Int):Prop:=(aP AP).i 387 [.br 1 0,.pv t.pv] (fX s T n out) [out.length]=some ([],fX s T' n out',[out'.length])
theorem Pv {s:d8} {n:Nat} {t:Ty} (ht:t.Ok) (J:Nat→List AV→List Int→Prop) (hP:∀i T out,J i T out→LU T)
   (hJ:∀i a,t.args[i]?=some a→∀T out,J i T out→∃T' out',Np s n a T out T' out'∧J (i+1) T' out'):∀(k i:Nat),t.args.length-i=k→i≤t.args.length→∀T out,J i T out→∃T' out',
   cl AP g387L0 ⟨[(0,.br 1 0),(3,.aG 3 0),(4,.pv (vI i))],[(3,tC t)],fX s T n out,[out.length]⟩ =
     some (.exit 1,⟨[(0,.br 1 0),(3,.aG 3 0),(4,.pv (vI t.args.length)),(68,.pv (.bool false))],[(3,tC t)],fX s T' n out',[out'.length]⟩)∧J t.args.length T' out'
 | 0,i,hk,hi,T,out,h=>by
   have:i=t.args.length:=by omega
   subst this;refine ⟨T,out,?_,h⟩;have hn:=(hP _ _ _ h).norm;rw [g387L0e];simp [g387B0,tC,fX,hn]
 | k+1,i,hk,hi,T,out,h=>by
   have hi:i<t.args.length:=(by omega);obtain ⟨a,ha⟩:=bD hi;have hsm:=ht.sm;unfold Sm at hsm;obtain ⟨T1,out1,e,h1⟩:=hJ i a ha T out h;obtain ⟨T',out',e',h2⟩:=Pv ht J hP hJ k (i+1) (by omega) (by omega) T1 out1 h1;refine ⟨T',out',?_,h2⟩;have hn:=(hP _ _ _ h).norm;have hn1:=(hP _ _ _ h1).norm;have hs:=(hP _ _ _ h).sh;have hs1:=(hP _ _ _ h1).sh;unfold Np at e;rw [g387L0e] at e' ⊢;simp [fX] at e;simp [tC,fX,hn1] at e';simp (disch:=omega) [-getElem?_pos,g387B0,tC,fX,hi,ha,hn,hn1,hs,hs1,az,e];rw [g387L0e];simp [e',hn1]
theorem Pw {s:d8} {n:Nat} {t:Ty} (ht:t.Ok) (hk:t.kind≠1) (J:Nat→List AV→List Int→Prop) (hP:∀i T out,J i T out→LU T)
   (hJ:∀i a,t.args[i]?=some a→∀T out,J i T out→∃T' out',Np s n a T out T' out'∧J (i+1) T' out') {T:List AV} {out:List Int} (h:J 0 T out):∃T' out',Np s n t T out T' out'∧J t.args.length T' out':=by
 obtain ⟨T',out',e,h1⟩:=Pv (s:=s) (n:=n) ht J hP hJ _ 0 rfl (by omega) T out h;refine ⟨T',out',?_,h1⟩;have hn:=(hP _ _ _ h).norm;have hn1:=(hP _ _ _ h1).norm;have hs1:=(hP _ _ _ h1).sh;unfold Np;rw [aR (af:=g387) rfl (by simp [g387])];rw [g387L0e] at e;simp [tC,fX,hn] at e;simp [g387,fX,hk,hn,hn1,hs1,g387L0e,e]
def o5 (s:List Sl) (v:Int):Prop:=∃(k:Nat) (x:Sl),v=k∧s[k]?=some x∧x.bd=true
theorem jl {s:List Sl} {t:Ty} (hk:t.kind=1) (h:iD s t=none):¬o5 s t.id:=by
 rintro ⟨k,x,e,hx,hb⟩
 unfold iD at h;have:0≤t.id:=by omega
 rw [if_pos ⟨hk,this⟩] at h;have hn:t.id.toNat=k:=by omega
 rw [hn,hx] at h;simp [hb] at h
theorem I2 {s:List Sl} {i v:Int} (h:Edge s i v):o5 s i:=by
 obtain ⟨k,x,e,hx,hb,_⟩:=h;exact ⟨k,x,e,hx,hb⟩
theorem sP {s:List Sl} {i v:Int} (h:C7 s i v) (hb:¬o5 s i):v=i:=by
 cases h with
 | refl=>rfl
 | step e _=>exact absurd (I2 e) hb
theorem jC {t:Ty} {w:Int} (hk:t.kind=1) (h:iq t w):w=t.id:=by
 cases h with
 | var _=>rfl
 | arg q _ _=>exact absurd hk q
theorem Nq {s:List Sl} {rk:Int→Nat} (hr:∀i v,Edge s i v→rk v<rk i) {i v:Int} (h:C7 s i v):rk v≤rk i:=by
 induction h with
 | refl=>omega
 | step e _ ih=>have:=hr _ _ e;omega
def LV (s:List Sl) (j:Int) (out:List Int):Prop:=∀v,C7 s j v→¬o5 s v→v∈out
def RT (s:List Sl) (t:Ty) (v:Int):Prop:=∃w,iq t w∧C7 s w v
theorem LV.mono {s:List Sl} {j:Int} {out out':List Int} (h:LV s j out) (ho:∀v∈out,v∈out'):LV s j out':=fun v hv hb=>ho v (h v hv hb)
theorem I6 {dn:List Bool}:∀v∈bT dn,∃p,v=AV.pv p:=by
 intro v hv;simp only [bT,List.mem_map] at hv;obtain ⟨b,_,rfl⟩:=hv;exact ⟨_,rfl⟩
theorem lT {dn:List Bool}:LU (bT dn):=⟨fun _ _=>lJ I6,dw I6,fun _=>oY I6⟩
theorem Nr {dn:List Bool} {i:Nat} (hi:i<dn.length) (b:Bool):bn (bT dn) i [.pv (.bool b)]=bT (dn.set i b):=by
 have:(bT dn).length=dn.length:=by simp [bT]
 simp only [bn,bT,List.length_cons,List.length_nil,Nat.zero_add];rw [←List.map_take,←List.map_drop,List.set_eq_take_append_cons_drop,if_pos hi];simp
theorem I7 {dn:List Bool} {i j:Nat} (h:dn[j]?=some true):(dn.set i true)[j]?=some true:=by
 rw [List.getElem?_set];have hj:j<dn.length:=by obtain ⟨h,_⟩:=List.getElem?_eq_some_iff.1 h;exact h
 by_cases e:i=j
 · subst e;simp [hj]
 · simp [e,h]
theorem zb {dn:List Bool} {i j:Nat} (h:(dn.set i true)[j]?=some true):i=j∨dn[j]?=some true:=by
 rw [List.getElem?_set] at h;by_cases e:i=j
 · exact .inl e
 · simp [e] at h;exact .inr h
structure Px (s:d8) (S:List Int) (t:Ty) (dn:List Bool) (out:List Int) (dn':List Bool) (out':List Int):Prop where
 sM:Np s s.sl.length t (bT dn) out (bT dn') out'
 len:dn'.length=s.sl.length
 F9:kX S out'
 sub:∀v∈out,v∈out'
 mono:∀j:Nat,dn[j]?=some true→dn'[j]?=some true
 all:∀v,RT s.sl t v→¬o5 s.sl v→v∈out'
 new:∀j:Nat,dn'[j]?=some true→dn[j]?=some true∨LV s.sl j out'
structure Rv (s:d8) (S:List Int) (t:Ty) (dn:List Bool) (out:List Int) (i:Nat) (dn':List Bool) (out':List Int):Prop where
 len:dn'.length=s.sl.length
 F9:kX S out'
 sub:∀v∈out,v∈out'
 mono:∀j:Nat,dn[j]?=some true→dn'[j]?=some true
 all:∀a∈t.args.take i,∀v,RT s.sl a v→¬o5 s.sl v→v∈out'
 new:∀j:Nat,dn'[j]?=some true→dn[j]?=some true∨LV s.sl j out'
theorem Ip {s:d8} {S:List Int} {rk:Int→Nat} (hr:∀i v,Edge s.sl i v→rk v<rk i) (hO:∀x∈s.sl,x.ty.Ok) (hS:∀x∈s.sl,∀w,iq x.ty w→w∈S) (N:Nat) :
   ∀t:Ty,t.Ok→(∀w,iq t w→rk w<N)→(∀w,iq t w→w∈S)→∀(dn:List Bool) (out:List Int),dn.length=s.sl.length→kX S out→(∀j:Nat,dn[j]?=some true→RT s.sl t j→LV s.sl j out) →
     ∃dn' out',Px s S t dn out dn' out':=by
 induction N using Nat.strongRecOn with
 | ind N IH=>
   intro t
   refine Ty.eU (p:=fun t=>t.Ok→(∀w,iq t w→rk w<N)→(∀w,iq t w→w∈S)→∀(dn:List Bool) (out:List Int),dn.length=s.sl.length→kX S out→(∀j:Nat,dn[j]?=some true→RT s.sl t j→LV s.sl j out) →
     ∃dn' out',Px s S t dn out dn' out') ?_ t
   intro t ih ht hN hw dn out hd hc hpre;by_cases hk:t.kind=1
   · have oc:iq t t.id:=.var hk;cases hb:iD s.sl t with
     | none=>
       have hf:=jl hk hb;have e:=Ps (n:=s.sl.length) hk hb hc (lT (dn:=dn))
       have ea:(if t.id∈out then out else out++[t.id])=eH out t:=by
         unfold eH;by_cases q:t.id∈out<;>simp [q,hk]
       rw [ea] at e
       have hs:∀v∈out,v∈eH out t:=by
         intro v hv;unfold eH;split
         · simp [hv]
         · exact hv
       refine ⟨dn,eH out t,e,hd,hc.add (fun _=>hw _ oc),hs,fun _ h=>h,?_,fun _ h=>.inl h⟩
       rintro v ⟨w,ho,hv⟩ _
       have h1:=jC hk ho;subst h1;rw [sP hv hf];unfold eH;by_cases q:t.id∈out<;>simp [q,hk]
     | some x=>
       obtain ⟨_,i,hi,hx,hbd⟩:=gA hb;have hl:i<s.sl.length:=by obtain ⟨h,_⟩:=List.getElem?_eq_some_iff.1 hx;exact h
       have hTl:(bT dn).length=s.sl.length:=(by simp [bT,hd]);obtain ⟨b,hdb⟩:=bD (l:=dn) (i:=i) (by omega);have hTd:(bT dn)[i]?=some (.pv (.bool b)):=(by simp [bT,hdb]);have F':∀w,iq x.ty w→Edge s.sl t.id w:=fun w ho=>⟨i,x,hi,hx,hbd,ho⟩
       cases b with
       | true=>
         have e:=Pt (out:=out) hi hk hx hb (lT (dn:=dn)) hTl hl hTd;refine ⟨dn,out,e,hd,hc,fun _ h=>h,fun _ h=>h,?_,fun _ h=>.inl h⟩
         rintro v ⟨w,ho,hv⟩ hnb
         have h1:=jC hk ho;subst h1;have:=hpre i hdb ⟨t.id,oc,by rw [hi];exact .refl _⟩;rw [hi] at hv;exact this v hv hnb
       | false=>
         have hlt:rk t.id<N:=hN _ oc
         obtain ⟨dn',out',P⟩:=IH (rk t.id) hlt x.ty (hO x (bt hx)) (fun w ho=>hr _ _ (F' w ho)) (hS x (bt hx)) (dn.set i true) out (by simp [hd]) hc (by
           intro j hj ⟨w,ho,hv⟩;have hlt2:rk j<rk t.id:=by have:=Nq hr hv;have:=hr _ _ (F' w ho);omega
           rcases zb hj with rfl | hj
           · rw [hi] at hlt2;omega
           · exact hpre j hj ⟨t.id,oc,.step (F' w ho) hv⟩)
         have e:=Pu hi hk hx hb (lT (dn:=dn)) (lT (dn:=dn.set i true)) (lT (dn:=dn')) hTl hl hTd (Nr (by omega) true) P.sM
         have fin:LV s.sl t.id out':=by
           intro v hv hnb;cases hv with
           | refl=>exact absurd ⟨i,x,hi,hx,hbd⟩ hnb
           | step e2 hv=>
             obtain ⟨k,y,e3,hy,_,ho⟩:=e2;have:k=i:=by omega
             subst this;rw [hx] at hy;cases hy;exact P.all v ⟨_,ho,hv⟩ hnb
         refine ⟨dn',out',e,P.len,P.F9,P.sub,fun j h=>P.mono j (I7 h),?_,?_⟩
         · rintro v ⟨w,ho,hv⟩ hnb
           have h1:=jC hk ho;subst h1;exact fin v hv hnb
         · intro j hj;rcases P.new j hj with h | h
           · rcases zb h with rfl | h
             · exact .inr (by rw [←hi];exact fin)
             · exact .inl h
           · exact .inr h
   · obtain ⟨T',out',e,dn',rfl,h⟩:=Pw (s:=s) (n:=s.sl.length) ht hk (fun i T o=>∃d,T=bT d∧Rv s S t dn out i d o) (by rintro i T o ⟨d,rfl,_⟩;exact lT) (by
       rintro i a ha T o ⟨d,rfl,h⟩
       have hm:=bt ha
       obtain ⟨d',o',P⟩:=ih a hm (ht.g_ a hm) (fun w ho=>hN w (.arg hk hm ho)) (fun w ho=>hw w (.arg hk hm ho)) d o h.len h.F9 (by
         intro j hj ⟨w,ho,hv⟩;rcases h.new j hj with hj | hj
         · exact (hpre j hj ⟨w,.arg hk hm ho,hv⟩).mono h.sub
         · exact hj)
       refine ⟨bT d',o',P.sM,d',rfl,P.len,P.F9,fun v hv=>P.sub v (h.sub v hv),fun j hj=>P.mono j (h.mono j hj),?_,?_⟩
       · intro b hb v hv hnb;rw [List.take_add_one,ha] at hb;simp at hb;rcases hb with hb | rfl
         · exact P.sub v (h.all b hb v hv hnb)
         · exact P.all v hv hnb
       · intro j hj;rcases P.new j hj with hj | hj
         · rcases h.new j hj with hj | hj
           · exact .inl hj
           · exact .inr (hj.mono P.sub)
         · exact .inr hj) ⟨dn,rfl,hd,hc,fun _ h=>h,fun _ h=>h,by simp,fun _ h=>.inl h⟩
     refine ⟨dn',out',e,h.len,h.F9,h.sub,h.mono,?_,h.new⟩
     rintro v ⟨w,ho,hv⟩ hnb
     cases ho with
     | var q=>exact absurd q hk
     | arg _ ha ho=>exact h.all _ (by simpa using ha) v ⟨w,ho,hv⟩ hnb
def jo:List Ar→List Ex→List Ar
 | a::as,x::xs=>⟨a.pos,a.iV,a.vars,x⟩::jo as xs
 | as,_=>as
theorem sQ:∀{as:List Ar} {xs:List Ex},(jo as xs).length=as.length
 | [],xs=>by cases xs<;>rfl
 | a::as,[]=>rfl
 | a::as,x::xs=>by simp [jo,sQ (as:=as) (xs:=xs)]
def Ex.s8 (e:Ex) (c:List Ex):Ex:=if c.length=e.kids.length+e.bu.length then ⟨e.kind,e.pos,e.name,e.num,c.take e.kids.length,jo e.bu (c.drop e.kids.length),e.ty⟩ else e
theorem Ns {l:List Ar}:((ff (b_ Ar.cells l)).bind (fh 14 true l.length)).map PV.aI=some (.aI (l.map Ar.pv)):=qB kC
theorem Nt {l:List Ar}:((l.map Ar.pv).flatMap bw).map AV.pv=b_ Ar.cells l:=qC kC
theorem K1 {c:List Ex} {n:Nat} (h:n≤c.length):cO false 11 false true false [.pv (.aI (c.map Ex.pv)),.pv (.int .i64 (n:Int))]=some (.pv (.aI ((c.map Ex.pv).take n))):=by
 have:=Pq (sz:=11) (l:=c.map Ex.pv) (k:=.i64) (h:=n) (by omega) (by simp;omega);simpa using this
theorem LW {sz:Nat} {l:List PV}:cO false sz false true false [.pv (.aI l),.pv (.int .i64 0)]=some (.pv (.aI [])):=by
 simp [cO,cR,dZ]
def N6 (e:Ex) (K:List Ex) (A:AV):List AV:=[.pv (vI e.kind),.pv (vI e.pos),.pv (.str e.name),.pv (vI e.num),.own (K.map Ex.pv) 3,A,.pv (vI e.ty.kind),.pv (.str e.ty.name),.pv (vI e.ty.id),.pv (vI e.ty.home),.pv (.aI (e.ty.args.map Ty.pv))]
theorem Py {e:Ex} {c K:List Ex} {n0 N:Nat} (hN:N≤1000) (hc:c.length=n0+N) (hn0:n0≤1000):∀(n i:Nat),N-i=n→i≤N→∀as:List Ar,as.length=N →
   cl AP g374L0 ⟨[(1,.pv (.aI (c.map Ex.pv))),(4,.aG 4 0),(5,.pv (vI n0)),(6,.aG 6 0),(7,.pv (vI i))],[(4,zO),(6,N6 e K (.bE 0 14 N true))],[some (b_ Ar.cells as)],[0,0,0,K.length]⟩ =
     some (.exit 0,⟨[(1,.pv (.aI (c.map Ex.pv))),(4,.aG 4 0),(5,.pv (vI n0)),(6,.aG 6 0),(7,.pv (vI N)),(34,.pv (.bool false))],[(4,zO),(6,N6 e K (.bE 0 14 N true))],[some (b_ Ar.cells (as.take i++jo (as.drop i) (c.drop (n0+i))))],[0,0,0,K.length]⟩)
 | 0,i,hn,hi,as,ha=>by
   have:i=N:=by omega
   subst this;have hq:∀aY ts,bV aY ts [some (b_ Ar.cells as)]=([some (b_ Ar.cells as)],aY,ts):=(bA.one cJ).norm;rw [OW (l:=as) (by omega),List.take_of_length_le (by omega)];simp only [jo,List.append_nil];generalize b_ Ar.cells as=T at *;rw [g374L0e];simp [g374B0,N6,zO,hq]
 | n+1,i,hn,hi,as,ha=>by
   have hi:i<N:=(by omega);obtain ⟨a,hx⟩:=bD (l:=as) (i:=i) (by omega);obtain ⟨x,hy⟩:=bD (l:=c) (i:=n0+i) (by omega);have hci:n0+i<c.length:=(by omega);have ih:=Py (e:=e) (K:=K) hN hc hn0 n (i+1) (by omega) (by omega) (as.set i ⟨a.pos,a.iV,a.vars,x⟩) (by simpa using ha)
   have hset:=qA kC hx (y:=⟨a.pos,a.iV,a.vars,x⟩) (o:=3) (vs:=x.cells) (by rw [ej.len];omega) (by
     have h1:=ej.len a.body;have h2:=ej.len x;simp only [Ar.cells,List.take_succ_cons,List.take_zero,List.cons_append,List.nil_append,List.drop_succ_cons,List.drop_zero,h2];rw [List.drop_eq_nil_of_le (by simp [h1]),List.append_nil])
   rw [Ex.sH] at hset
   have hfin:as.take i++jo (as.drop i) (c.drop (n0+i))=(as.set i ⟨a.pos,a.iV,a.vars,x⟩).take (i+1)++jo ((as.set i ⟨a.pos,a.iV,a.vars,x⟩).drop (i+1)) (c.drop (n0+(i+1))):=by
     have h1:(as.set i ⟨a.pos,a.iV,a.vars,x⟩).take (i+1)=as.take i++[⟨a.pos,a.iV,a.vars,x⟩]:=by
       rw [List.set_eq_take_append_cons_drop,if_pos (by omega),List.take_append,List.take_of_length_le (by simp;omega)];have:i+1-(as.take i).length=1:=by simp;omega
       rw [this];rfl
     rw [h1,List.drop_set_of_lt (by omega),cp hx,cp hy];simp [jo,Nat.add_assoc]
   rw [hfin];generalize (as.set i ⟨a.pos,a.iV,a.vars,x⟩).take (i+1)++jo ((as.set i ⟨a.pos,a.iV,a.vars,x⟩).drop (i+1)) (c.drop (n0+(i+1)))=R at ih ⊢;have hq:∀aY ts,bV aY ts [some (b_ Ar.cells as)]=([some (b_ Ar.cells as)],aY,ts):=(bA.one cJ).norm;have hq1:∀aY ts,bV aY ts [some (b_ Ar.cells (as.set i ⟨a.pos,a.iV,a.vars,x⟩))]=([some (b_ Ar.cells (as.set i ⟨a.pos,a.iV,a.vars,x⟩))],aY,ts):=(bA.one cJ).norm;have hB:dr (b_ Ar.cells as)=false:=dw cJ;have hlen:(b_ Ar.cells as).length=N*14:=by rw [d7 kC,ha]
   have hle:i*14+3+11≤N*14:=(by omega);generalize b_ Ar.cells (as.set i ⟨a.pos,a.iV,a.vars,x⟩)=T1 at *;generalize b_ Ar.cells as=T at *;have hil:((n0:Int)+i).toNat=n0+i:=(by omega);have hpos:¬((n0:Int)+i<0):=(by omega);rw [g374L0e] at ih ⊢;simp [N6,zO,hq1] at ih hset;simp (disch:=omega) [-getElem?_pos,g374B0,N6,zO,hq,hi,hy,hci,hB,hlen,hle,hset,az,hil,hpos];rw [g374L0e];simp [hq1,ih]
theorem I8 {xs:List Ex}:jo [] xs=[]:=by cases xs<;>rfl
theorem c374 {e:Ex} (hk:e.kids.length≤1000) (ha:e.bu.length≤1000) {c:List Ex}:(aP AP).p 374 [e.pv,.aI (c.map Ex.pv)]=some [(e.s8 c).pv]:=by
 rw [aw (af:=g374) rfl rfl (by decide)];unfold Ex.s8;have hw:((e.kids.length:Int)+e.bu.length).toNat=e.kids.length+e.bu.length:=by omega
 by_cases hc:c.length=e.kids.length+e.bu.length
 · rw [if_pos hc];have hci:(c.length:Int)=(e.kids.length:Int)+e.bu.length:=by omega
   have hle:e.kids.length≤c.length:=(by omega);have hsl:=K1 hle;have hsl2:(c.take e.kids.length).length=e.kids.length:=(by simp;omega);have hb1:e.kids.length*152≤140737488355328:=(by omega);have hb2:e.bu.length*200≤140737488355328:=(by omega);have hz:e.kids.length=0↔c.take e.kids.length=[]:=(by rw [←List.length_eq_zero_iff,hsl2]);rw [←List.map_take] at hsl;by_cases hA:e.bu=[]
   · have hn:e.bu.length=0:=(by rw [hA];rfl);rw [hn] at hci;simp at hci;generalize hK:c.take e.kids.length=K at *;rw [hA,I8];by_cases hK0:K=[]
     · subst hK0;have h0:=hz.2 rfl;simp [h0] at hci;simp (disch:=omega) [g374,g374L0e,g374B0,hA,hci,LW,az,h0]
     · simp (disch:=omega) [g374,g374L0e,g374B0,hA,hci,hsl,az,hK0,hsl2,hb1]
   · have h:=Py (e:=e) (c:=c) (K:=c.take e.kids.length) ha hc hk _ 0 rfl (by omega) e.bu rfl;simp only [List.take_zero,List.drop_zero,List.nil_append,Nat.add_zero] at h;have hm:=Nt (l:=e.bu);have hl:=Ns (l:=jo e.bu (c.drop e.kids.length));have hlen:(b_ Ar.cells (jo e.bu (c.drop e.kids.length))).length=e.bu.length*14:=(by rw [d7 kC,sQ]);rw [sQ] at hl;have hq:∀aY ts,bV aY ts [some (b_ Ar.cells e.bu)]=([some (b_ Ar.cells e.bu)],aY,ts):=(bA.one cJ).norm;generalize jo e.bu (c.drop e.kids.length)=R at *;generalize b_ Ar.cells R=TR at *;generalize hK:c.take e.kids.length=K at *;rw [g374L0e] at h;generalize b_ Ar.cells e.bu=T at *;simp [N6,zO,hq] at h;simp at hl;by_cases hK0:K=[]
     · subst hK0;have h0:=hz.2 rfl;simp [h0] at h hci;simp (disch:=omega) [-getElem?_pos,g374,hA,hci,LW,az,h0,hb2,hm,hq,g374L0e,h,hlen,hl]
     · simp only [hsl2] at h;simp (disch:=omega) [-getElem?_pos,g374,hA,hci,hsl,az,hK0,hsl2,hb1,hb2,hm,hq,g374L0e,h,hlen,hl]
 · rw [if_neg hc];have hci:¬(c.length:Int)=(e.kids.length:Int)+e.bu.length:=by omega
   simp (disch:=omega) [g374,hci,az]
def Ce (cs:List p7) (s:cS):Option Nat:=dz (fun c=>decide (c.name=s)) cs
def kY:List Dt→cS→Nat→Option (Nat×Nat)
 | [],_,_=>none
 | d::r,s,i=>match Ce d.cons s with
   | some k=>some (i,k)
   | none=>kY r s (i+1)
def rF:Option (Nat×Nat)→List PV
 | some (i,k)=>[vI i,vI k,.bool true]
 | none=>[vI 0,vI 0,.bool false]
theorem LX {ds:List Dt} {s:cS} {i:Nat} {cs:List p7} (hS:Sm cs):∀(n k:Nat),cs.length-k=n→k≤cs.length →
   cl AP g190L1 ⟨[(1,.pv (.str s)),(7,.pv (vI i)),(11,.pv (.aI (ds.map Dt.pv))),(12,.pv (vI ds.length)),(13,.pv (vI i)),(19,.pv (.aI (cs.map p7.pv))),(20,.pv (vI cs.length)),(21,.pv (vI k))],[],[],[]⟩ =
     match dz (fun c=>decide (c.name=s)) (cs.drop k) with
     | some j=>some (.ret,⟨[(4,.pv (vI i)),(5,.pv (vI (k+j:Nat))),(6,.pv (.bool true))],[],[],[]⟩)
     | none=>some (.exit 2,⟨[(1,.pv (.str s)),(7,.pv (vI i)),(11,.pv (.aI (ds.map Dt.pv))),(12,.pv (vI ds.length)),(13,.pv (vI i)),(19,.pv (.aI (cs.map p7.pv))),(20,.pv (vI cs.length)),(21,.pv (vI cs.length)),(22,.pv (.bool false))],[],[],[]⟩)
 | 0,k,hn,hk=>by
   have:k=cs.length:=by omega
   subst this;rw [g190L1e];simp [g190B1,dz]
 | n+1,k,hn,hk=>by
   have hk:k<cs.length:=(by omega);obtain ⟨x,hx⟩:=bD hk;unfold Sm at hS;have ih:=LX (ds:=ds) (s:=s) (i:=i) hS n (k+1) (by omega) (by omega);rw [g190L1e] at ih ⊢;rw [cp hx];simp at ih;by_cases e:x.name=s
   · simp (disch:=omega) [-getElem?_pos,g190B1,hx,hk,e,dz]
   · simp (disch:=omega) [-getElem?_pos,g190B1,hx,hk,e,dz,az];rw [g190L1e];simp [ih];cases dz (fun c=>decide (c.name=s)) (cs.drop (k+1)) with
     | none=>rfl
     | some j=>simp;omega
theorem QX {ds:List Dt} (hS:Sm ds) (hc:∀d∈ds,Sm d.cons) (s:cS):∀(n i:Nat),ds.length-i=n→i≤ds.length →
   cl AP g190L0 ⟨[(1,.pv (.str s)),(11,.pv (.aI (ds.map Dt.pv))),(12,.pv (vI ds.length)),(13,.pv (vI i))],[],[],[]⟩ =
     match kY (ds.drop i) s i with
     | some q=>some (.ret,⟨[(4,.pv (vI q.1)),(5,.pv (vI q.2)),(6,.pv (.bool true))],[],[],[]⟩)
     | none=>some (.exit 0,⟨[(1,.pv (.str s)),(11,.pv (.aI (ds.map Dt.pv))),(12,.pv (vI ds.length)),(13,.pv (vI ds.length)),(14,.pv (.bool false))],[],[],[]⟩)
 | 0,i,hn,hi=>by
   have:i=ds.length:=by omega
   subst this;rw [g190L0e];simp [g190B0,kY]
 | n+1,i,hn,hi=>by
   have hi:i<ds.length:=(by omega);obtain ⟨d,hd⟩:=bD hi;unfold Sm at hS;have ih:=QX hS hc s n (i+1) (by omega) (by omega);have h:=LX (ds:=ds) (s:=s) (i:=i) (hc d (bt hd)) _ 0 rfl (by omega);rw [g190L1e] at h;rw [g190L0e] at ih ⊢;rw [cp hd];simp at ih h;cases e:dz (fun c=>decide (c.name=s)) d.cons with
   | some k=>
     rw [e] at h;simp at h;simp (disch:=omega) [-getElem?_pos,g190B0,hd,hi,kY,Ce,e,g190L1e,h]
   | none=>
     rw [e] at h;simp at h;simp (disch:=omega) [-getElem?_pos,g190B0,hd,hi,kY,Ce,e,g190L1e,h,az];rw [g190L0e];simp [ih]
theorem LY {ds:List Dt} {s:cS} {i:Nat} {d:Dt} (hd:ds[i]?=some d) (hS:Sm d.cons):∀(n k:Nat),d.cons.length-k=n→k≤d.cons.length →
   cl AP g191L1 ⟨[(0,.pv (.aI (ds.map Dt.pv))),(1,.pv (.str s)),(7,.pv (vI i)),(8,.pv (vI k))],[],[],[]⟩ =
     match dz (fun c=>decide (c.name=s)) (d.cons.drop k) with
     | some j=>some (.ret,⟨[(4,.pv (vI i)),(5,.pv (vI (k+j:Nat))),(6,.pv (.bool true))],[],[],[]⟩)
     | none=>some (.exit 2,⟨[(0,.pv (.aI (ds.map Dt.pv))),(1,.pv (.str s)),(7,.pv (vI i)),(8,.pv (vI d.cons.length)),(22,.pv (.bool false))],[],[],[]⟩)
 | 0,k,hn,hk=>by
   have:k=d.cons.length:=by omega
   subst this;rw [g191L1e];simp [-getElem?_pos,g191B1,dz,hd]
 | n+1,k,hn,hk=>by
   have hk:k<d.cons.length:=(by omega);obtain ⟨x,hx⟩:=bD hk;unfold Sm at hS;have ih:=LY (s:=s) hd hS n (k+1) (by omega) (by omega);rw [g191L1e] at ih ⊢;rw [cp hx];simp at ih;by_cases e:x.name=s
   · simp (disch:=omega) [-getElem?_pos,g191B1,hd,hx,hk,e,dz]
   · simp (disch:=omega) [-getElem?_pos,g191B1,hd,hx,hk,e,dz,az];rw [g191L1e];simp [ih];cases dz (fun c=>decide (c.name=s)) (d.cons.drop (k+1)) with
     | none=>rfl
     | some j=>simp;omega
theorem Pz {ds:List Dt} (hS:Sm ds) (hc:∀d∈ds,Sm d.cons) (s:cS):∀(n i:Nat),ds.length-i=n→i≤ds.length →
   cl AP g191L0 ⟨[(0,.pv (.aI (ds.map Dt.pv))),(1,.pv (.str s)),(7,.pv (vI i))],[],[],[]⟩ =
     match kY (ds.drop i) s i with
     | some q=>some (.ret,⟨[(4,.pv (vI q.1)),(5,.pv (vI q.2)),(6,.pv (.bool true))],[],[],[]⟩)
     | none=>some (.exit 0,⟨[(0,.pv (.aI (ds.map Dt.pv))),(1,.pv (.str s)),(7,.pv (vI ds.length)),(12,.pv (.bool false))],[],[],[]⟩)
 | 0,i,hn,hi=>by
   have:i=ds.length:=by omega
   subst this;rw [g191L0e];simp [g191B0,kY]
 | n+1,i,hn,hi=>by
   have hi:i<ds.length:=(by omega);obtain ⟨d,hd⟩:=bD hi;unfold Sm at hS;have ih:=Pz hS hc s n (i+1) (by omega) (by omega);have h:=LY (s:=s) hd (hc d (bt hd)) _ 0 rfl (by omega);rw [g191L1e] at h;rw [g191L0e] at ih ⊢;rw [cp hd];simp at ih h;cases e:dz (fun c=>decide (c.name=s)) d.cons with
   | some k=>
     rw [e] at h;simp at h;simp (disch:=omega) [-getElem?_pos,g191B0,hd,hi,kY,Ce,e,g191L1e,h]
   | none=>
     rw [e] at h;simp at h;simp (disch:=omega) [-getElem?_pos,g191B0,hd,hi,kY,Ce,e,g191L1e,h,az];rw [g191L0e];simp [ih]
theorem c191 {ds:List Dt} (hS:Sm ds) (hc:∀d∈ds,Sm d.cons) {s:cS}:(aP AP).p 191 [.aI (ds.map Dt.pv),.str s]=some (rF (kY ds s 0)):=by
 have h:=Pz hS hc s _ 0 rfl (by omega);rw [aw (af:=g191) rfl rfl (by decide)];rw [g191L0e] at h;simp at h;cases e:kY ds s 0 with
 | none=>rw [e] at h;simp at h;simp [g191,g191L0e,h,rF]
 | some q=>rw [e] at h;simp at h;simp [g191,g191L0e,h,rF]
theorem K2 {cs:List p7} {s:cS} {k:Nat} (h:Ce cs s=some k):∃c,cs[k]?=some c∧c.name=s:=by
 unfold Ce at h;induction cs generalizing k with
 | nil=>simp [dz] at h
 | cons a r ih=>
   simp only [dz] at h;split at h
   · rename_i e;cases h;exact ⟨a,rfl,by simpa using e⟩
   · simp only [Option.map_eq_some_iff] at h;obtain ⟨j,hj,rfl⟩:=h;obtain ⟨c,h1,h2⟩:=ih hj;exact ⟨c,by simpa using h1,h2⟩
theorem wz {s:cS}:∀{ds:List Dt} {n:Nat} {q:Nat×Nat},kY ds s n=some q→n≤q.1∧∃d c,ds[q.1-n]?=some d∧d.cons[q.2]?=some c∧c.name=s
 | [],n,q,h=>by simp [kY] at h
 | d::r,n,q,h=>by
   simp only [kY] at h;split at h
   · rename_i k e;cases h;obtain ⟨c,h1,h2⟩:=K2 e;exact ⟨Nat.le_refl _,d,c,by simp,h1,h2⟩
   · obtain ⟨h1,d',c,h2,h3,h4⟩:=wz h;refine ⟨by omega,d',c,?_,h3,h4⟩;rw [show q.1-n=(q.1-(n+1))+1 from by omega];simpa using h2
abbrev QY:=Int×Int
def fP (f:QY):PV:=.agg [vI f.1,vI f.2]
@[simp] theorem H7 (f:QY):fP f=.agg [vI f.1,vI f.2]:=rfl
abbrev m2 (f:QY):List AV:=[.pv (vI f.1),.pv (vI f.2)]
inductive Ex.LZ (P:Ex→Prop):Ex→Prop
 | mk {e:Ex}:P e→(∀x∈e.ch,Ex.LZ P x)→Ex.LZ P e
theorem Ex.LZ.h {P:Ex→Prop} {e:Ex} (h:e.LZ P):P e:=by cases h;assumption
theorem Ex.LZ.c {P:Ex→Prop} {e:Ex} (h:e.LZ P):∀x∈e.ch,x.LZ P:=by cases h;assumption
inductive Ex.zc:Nat→Ex→Prop
 | mk {n:Nat} {e:Ex}:(∀x∈e.ch,Ex.zc n x)→Ex.zc (n+1) e
structure zd (e:Ex):Prop where
 ok:e.Ok
 one:e.One
 cw:e.LZ fun x=>x.ty.Cw
theorem zd.c {e x:Ex} (h:zd e) (hx:x∈e.ch):zd x:=⟨h.ok.c x hx,h.one.c x hx,h.cw.c x hx⟩
inductive Lk:Ex→Ex→Prop
 | mk {e f:Ex}:f.kind=e.kind→f.name=e.name→f.num=e.num→f.ty=e.ty→f.kids.length=e.kids.length→f.bu.map (fun a=>(a.iV,a.vars))=e.bu.map (fun a=>(a.iV,a.vars)) →
     (∀(i:Nat) (x y:Ex),e.ch[i]?=some x→f.ch[i]?=some y→Lk x y)→Lk e f
def oh (b:Nat):List AV:=[.pv (vI 0),.pv (vI 0),.pv (.str []),.pv (vI 0),.own [] b,.own [] (b+1),.pv (vI 0),.pv (.str []),.pv (vI 0),.pv (vI 0),.own [] (b+2)]
theorem lU:∀{as:List Ar} {xs:List Ex},xs.length=as.length→(jo as xs).map eA.body=xs
 | [],[],_=>rfl
 | [],_::_,h=>by simp at h
 | _::_,[],h=>by simp at h
 | a::as,x::xs,h=>by simp only [jo,List.map_cons,lU (as:=as) (xs:=xs) (by simpa using h)]
theorem wA:∀{as:List Ar} {xs:List Ex},(jo as xs).map (fun a=>(a.iV,a.vars))=as.map (fun a=>(a.iV,a.vars))
 | [],xs=>by cases xs<;>rfl
 | a::as,[]=>rfl
 | a::as,x::xs=>by simp only [jo,List.map_cons,wA (as:=as) (xs:=xs)]
theorem Cf {e:Ex} {c:List Ex} (h:c.length=e.kids.length+e.bu.length):(e.s8 c).ch=c:=by
 unfold Ex.s8;rw [if_pos h];simp only [Ex.ch];rw [lU (by simp;omega),List.take_append_drop]
theorem uE {sz n:Nat} {ag:Bool}:J6 sz n ag none=none:=rfl
theorem ze {cs:List AV}:vJ cs none=.agg cs:=rfl
theorem C8 {o:Option (List PV)}:nT none o=none:=rfl
theorem C9 {p:PV}:nT (some p) none=none:=rfl
theorem c145j {e:Ex} {X:Sh}:(aP AP).i 145 [.pv e.pv] X []=(aP AP).i 145 [.agg (e.Jz (.pv (.aI (e.bu.map Ar.pv))))] X []:=by
 rw [aR (af:=g145) rfl (by simp [g145]),aR (af:=g145) rfl (by simp [g145])];simp [g145]
theorem c372 {s:d8} {S:List Int} (hs:s.sl.length≤1000000) (ha:Gs s.sl) (hO:∀x∈s.sl,x.ty.Ok) (hS:∀x∈s.sl,∀w,iq x.ty w→w∈S) (hf:S.length<1099511627776) {t:Ty} (ht:t.Ok) (hw:∀w,iq t w→w∈S) :
   ∃out,(aP AP).p 372 [s.pv,.aI [t.pv]]=some [.aI (out.map vI)]∧kX S out∧∀v,RT s.sl t v→¬o5 s.sl v→v∈out:=by
 obtain ⟨rk,hr⟩:=ha;obtain ⟨N,hN⟩:=iq.bound rk t
 obtain ⟨dn',out,P⟩:=Ip hr hO hS N t ht hN hw (List.replicate s.sl.length false) [] (by simp) (sA hf) (by
   intro j hj;exfalso;by_cases q:j<s.sl.length
   · simp [List.getElem?_replicate,q] at hj
   · simp [List.getElem?_replicate,q] at hj)
 refine ⟨out,?_,P.F9,P.all⟩;have e:=P.sM;have hb:bT (List.replicate s.sl.length false)=List.replicate s.sl.length (.pv (.bool false)):=by simp [bT]
 have hp:=lT (dn:=List.replicate s.sl.length false);have hp':=lT (dn:=dn');unfold Np at e;rw [hb] at e hp;have b1:(s.sl.length:Int)≤9223372036854775807:=by omega
 have b2:(s.sl.length:Int)≤140737488355328:=by omega
 have hn:=hp.norm;have hn':=hp'.norm;have hh:=hp.sh;have hh':=hp'.sh;have hm:=hp.mp;generalize bT dn'=T' at *
 have hfl:(List.replicate s.sl.length [AV.pv (.bool false)]).flatten=List.replicate s.sl.length (.pv (.bool false)):=by
   generalize s.sl.length=n;induction n with
   | zero=>rfl
   | succ n ih=>rw [List.replicate_succ,List.flatten_cons,ih,List.replicate_succ];rfl
 generalize List.replicate s.sl.length (AV.pv (.bool false))=T at *;simp [fX] at e;rw [aw (af:=g372) rfl rfl (by decide)];simp (disch:=omega) [g372,b1,b2,hn,hn',hh,hh',hm,hfl,g372L0e,g372B0,e,az,uE,C8,C9,rV]
theorem oi {k:Int} {t:Ty}:(t.fe k).length≤t.nodes.length:=by
 refine Ty.eU (p:=fun t=>(t.fe k).length≤t.nodes.length) ?_ t;intro t ih;rw [Ty.lN,Ty.bh];split
 · simp
 · have key:∀l:List Ty,(∀a∈l,(a.fe k).length≤a.nodes.length)→(l.flatMap (Ty.fe k)).length≤(l.flatMap Ty.nodes).length:=by
     intro l;induction l with
     | nil=>intro _;simp
     | cons a r ihr=>
       intro h;have h1:=h a (by simp);have h2:=ihr fun b hb=>h b (by simp [hb])
       simp only [List.flatMap_cons,List.length_append];omega
   have:=key t.args ih;simp only [List.length_cons];omega
theorem lV {k:Int} {t:Ty}:∀x∈t.fe k,x.args=[]:=by
 refine Ty.eU (p:=fun t=>∀x∈t.fe k,x.args=[]) ?_ t;intro t ih x hx;rw [Ty.lN] at hx;split at hx
 · rename_i q;simp at hx;subst hx;exact List.length_eq_zero_iff.1 q.2
 · simp only [List.mem_flatMap] at hx;obtain ⟨a,ha,hx⟩:=hx;exact ih a ha x hx
theorem c59t {u:Ty} (hu:u.Ok) (hn:u.nodes.length≤4000):∃r:List Ty,(aP AP).p 59 [.aI [u.pv]]=some [.aI (r.map Ty.pv)]∧Sm r:=by
 have hl:=oi (k:=3) (t:=u);obtain ⟨r,e,h,_⟩:=c59 (S:=u.fe 3) (by omega) (fun x hx=>da (lV x hx)) (l:=[u]) (by simp [Sm]) (by simpa using hu) (by simp);exact ⟨r,e,h⟩
structure Inv (n M:Nat) (S:List Int) (s:d8):Prop where
 len:s.sl.length=n
 JB:s.tr.length+(n+2)*ub s.sl≤M
 ok:∀x∈s.sl,x.ty.Ok
 mq:∀x∈s.sl,∀w,iq x.ty w→w∈S
 I9:Gs s.sl
 wf:∀x∈s.sl,x.ty.Kw
theorem mem_set {α:Type} {l:List α} {k:Nat} {x y:α} (h:y∈l.set k x):y=x∨y∈l:=by
 rcases List.mem_or_eq_of_mem_set h with h | h
 · exact .inr h
 · exact .inl h
theorem cE {s:d8} {i:Nat} {o x:Sl}:(gV s i o x).sl=s.sl.set i x:=rfl
theorem mr {s:d8} {i:Nat} {o x:Sl}:(gV s i o x).tr.length=s.tr.length+1:=by simp [gV]
theorem wB {s:List Sl} {k:Nat} {o:Sl} (hk:s[k]?=some o) (h:¬o5 s (k:Int)):o.bd=false:=by
 cases e:o.bd with
 | false=>rfl
 | true=>exact absurd ⟨k,o,rfl,hk,e⟩ h
theorem I_ {n M:Nat} {S:List Int} {s:d8} (I:Inv n M S s) {i j:Nat} {l h l' h':Sl} (hl:s.sl[i]?=some l) (hh:s.sl[j]?=some h) (hij:i≠j) (fi:¬o5 s.sl (i:Int)) (fj:¬o5 s.sl (j:Int))
   (hl1:l'.bd=l.bd) (hl2:l'.ty=l.ty) (hh1:h'.bd=true) (hh2:h'.ty=cv i) (hi:(i:Int)∈S) :
   Inv n M S (gV (gV s i l l') j h h')∧ub (gV (gV s i l l') j h h').sl<ub s.sl:=by
 have hj':(gV s i l l').sl[j]?=some h:=by
   rw [cE,List.getElem?_set,if_neg hij,hh]
 have u1:=qE hl hl1;have u2:=wy hj' (wB hh fj) hh1;rw [cE] at u2;have hp:=I.JB;refine ⟨⟨by simp [gV,I.len],?_,?_,?_,?_,?_⟩,?_⟩
 · rw [mr,mr];simp only [cE];have:(n+2)*ub s.sl=(n+2)*ub ((s.sl.set i l').set j h')+(n+2):=by rw [←u1,←u2,Nat.mul_add,Nat.mul_one]
   omega
 · intro x hx;simp only [cE] at hx;rcases mem_set hx with rfl | hx
   · rw [hh2];exact da rfl
   · rcases mem_set hx with rfl | hx
     · rw [hl2];exact I.ok l (bt hl)
     · exact I.ok x hx
 · intro x hx w ho;simp only [cE] at hx;rcases mem_set hx with rfl | hx
   · rw [hh2] at ho;rw [jC (t:=cv i) rfl ho];exact hi
   · rcases mem_set hx with rfl | hx
     · rw [hl2] at ho;exact I.mq l (bt hl) w ho
     · exact I.mq x hx w ho
 · simp only [cE];refine za (y_ I.I9 hl hl1 hl2) ?_;intro v ho hv;rw [hh2] at ho;have e:=jC (t:=cv i) rfl ho;have e2:v=(i:Int):=e;subst e2
   have fi':¬o5 (s.sl.set i l') (i:Int):=by
     rintro ⟨k,x,q,hx,hb⟩
     have:k=i:=by omega
     subst this;have hlt:k<s.sl.length:=by obtain ⟨h,_⟩:=List.getElem?_eq_some_iff.1 hl;exact h
     rw [List.getElem?_set,if_pos rfl,if_pos hlt] at hx;cases hx;rw [hl1,wB hl fi] at hb;cases hb
   have:=sP hv fi';omega
 · intro x hx;simp only [cE] at hx;rcases mem_set hx with rfl | hx
   · rw [hh2];exact ⟨by simp [cv],by simp [cv],by simp [cv]⟩
   · rcases mem_set hx with rfl | hx
     · rw [hl2];exact I.wf l (bt hl)
     · exact I.wf x hx
 · simp only [cE];omega
theorem Inv.JC {n M:Nat} {S:List Int} {s:d8} (I:Inv n M S s):s.Ok n (M+10):=⟨by rw [I.len];omega,by have:=I.JB;have:0≤(n+2)*ub s.sl:=Nat.zero_le _;omega,I.ok⟩
theorem Inv.QZ {n M:Nat} {S:List Int} {s:d8} (I:Inv n M S s) {i:Nat} {o x:Sl} (hx:x.ty.Ok):(gV s i o x).Ok n (M+10):=⟨by rw [cE,List.length_set,I.len];omega,by rw [mr];have:=I.JB;have:0≤(n+2)*ub s.sl:=Nat.zero_le _;omega,by
 intro y hy;rw [cE] at hy;rcases mem_set hy with rfl | hy
 · exact hx
 · exact I.ok y hy⟩
theorem c397 {n M:Nat} {S:List Int} {s:d8} (I:Inv n M S s) (hn:n≤1000000) (hM:M≤100000000) {x y:Ty} {i j:Nat} (hxi:x.id=i) (hyj:y.id=j) (hi:i<n) (hj:j<n) (fi:¬o5 s.sl (i:Int)) (fj:¬o5 s.sl (j:Int)) (hiS:(i:Int)∈S) (hjS:(j:Int)∈S) :
   ∃s',(aP AP).p 397 [s.pv,x.pv,y.pv]=some [s'.pv]∧Inv n M S s'∧(s'=s∨ub s'.sl<ub s.sl):=by
 by_cases hij:i=j
 · refine ⟨s,?_,I,.inl rfl⟩;have h2:x.id=y.id:=by rw [hxi,hyj,hij]
   rw [aw (af:=g397) rfl rfl (by decide)];simp [g397,h2]
 · have hne:¬(i:Int)=j:=(by omega);obtain ⟨a,ha⟩:=bD (l:=s.sl) (i:=min i j) (by rw [I.len];omega);obtain ⟨b,hb⟩:=bD (l:=s.sl) (i:=max i j) (by rw [I.len];omega);have hab:min i j≠max i j:=by omega
   have fa:¬o5 s.sl ((min i j:Nat):Int):=by
     by_cases q:i≤j
     · rw [Nat.min_eq_left q];exact fi
     · rw [Nat.min_eq_right (by omega)];exact fj
   have fb:¬o5 s.sl ((max i j:Nat):Int):=by
     by_cases q:i≤j
     · rw [Nat.max_eq_right q];exact fj
     · rw [Nat.max_eq_left (by omega)];exact fi
   have haS:((min i j:Nat):Int)∈S:=by
     by_cases q:i≤j
     · rw [Nat.min_eq_left q];exact hiS
     · rw [Nat.min_eq_right (by omega)];exact hjS
   have hmin:(if j<i then (j:Int) else (i:Int))=((min i j:Nat):Int):=by split<;>omega
   have hmax:(if i<j then (j:Int) else (i:Int))=((max i j:Nat):Int):=by split<;>omega
   have hlo:min i j<s.sl.length:=(by rw [I.len];omega);have hhi:max i j<s.sl.length:=(by rw [I.len];omega);generalize min i j=p at *;generalize max i j=q at *;have k0:=c63 (n:=p);let a':Sl:=⟨a.bd,a.ty,if b.home<a.home then b.home else a.home,a.base || b.base⟩;let b':Sl:=⟨true,cv p,b.home,b.base⟩;have aO:a'.ty.Ok:=I.ok a (bt ha);have k1:=c393 I.JC (by omega) (by omega) ha a';have hb1:(gV s p a a').sl[q]?=some b:=(by rw [cE,List.getElem?_set,if_neg hab,hb]);have k2:=c393 (I.QZ (i:=p) (o:=a) aO) (by omega) (by omega) hb1 b';obtain ⟨J,hu⟩:=I_ I (l':=a') (h':=b') ha hb hab fa fb rfl rfl rfl rfl haS;refine ⟨gV (gV s p a a') q b b',?_,J,.inr hu⟩;generalize gV (gV s p a a') q b b'=s2 at *;generalize gV s p a a'=s1 at *;simp [a',b',cv] at k0 k1 k2;rw [aw (af:=g397) rfl rfl (by decide)];cases hab1:a.base
   · simp [hab1] at k1;simp (disch:=omega) [-getElem?_pos,g397,hxi,hyj,hne,hmin,hmax,ha,hb,hlo,hhi,k0,k1,k2,hab1]
   · simp [hab1] at k1;simp (disch:=omega) [-getElem?_pos,g397,hxi,hyj,hne,hmin,hmax,ha,hb,hlo,hhi,k0,k1,k2,hab1]
def zS:List AV:=[.own [] 0,.own [] 1]
def o7 (v:Sl):List AV:=[.pv (.bool v.bd),.pv (vI v.ty.kind),.pv (.str v.ty.name),.pv (vI v.ty.id),.pv (vI v.ty.home),.pv (.aI (v.ty.args.map Ty.pv)),.pv (vI v.home),.pv (.bool v.base)]
def Ja (s:d8) (q:aN):Option (bH×St):=some (.ret,⟨[(6,.aG 6 0),(7,.pv (vI 13))],[(6,sC s)],[],q⟩)
theorem L0 {s:d8} {i:Nat} {t:Ty} {v:Sl} {out:List Int} {r:List Ty} (hr:Sm r):∀(n k:Nat),r.length-k=n→k≤r.length →
   (∃q,cl AP g398L0 ⟨[(1,.pv (vI i)),(3,.aG 3 0),(5,.aG 5 0),(6,.aG 6 0),(8,.aG 8 0),(9,.pv (.aI (out.map vI))),(15,.pv (.aI (r.map Ty.pv))),(16,.pv (vI k))],[(3,sC s),(5,tC t),(6,zS),(8,o7 v)],[],[0,0]⟩=Ja s q) ∨
   cl AP g398L0 ⟨[(1,.pv (vI i)),(3,.aG 3 0),(5,.aG 5 0),(6,.aG 6 0),(8,.aG 8 0),(9,.pv (.aI (out.map vI))),(15,.pv (.aI (r.map Ty.pv))),(16,.pv (vI k))],[(3,sC s),(5,tC t),(6,zS),(8,o7 v)],[],[0,0]⟩ =
     some (.exit 0,⟨[(1,.pv (vI i)),(3,.aG 3 0),(5,.aG 5 0),(6,.aG 6 0),(8,.aG 8 0),(9,.pv (.aI (out.map vI))),(15,.pv (.aI (r.map Ty.pv))),(16,.pv (vI r.length)),(57,.pv (.bool false))],[(3,sC s),(5,tC t),(6,zS),(8,o7 v)],[],[0,0]⟩)
 | 0,k,hn,hk=>by
   have:k=r.length:=by omega
   subst this;refine .inr ?_;rw [g398L0e];simp [g398B0,sC,tC,zS,o7]
 | n+1,k,hn,hk=>by
   have hk:k<r.length:=(by omega);obtain ⟨x,hx⟩:=bD hk;unfold Sm at hr;by_cases hg:v.home<x.home
   · refine .inl ?_;rw [g398L0e];simp (disch:=omega) [-getElem?_pos,g398B0,sC,tC,zS,o7,Ja,hx,hk,hg]
   · have ih:=L0 (s:=s) (i:=i) (t:=t) (v:=v) (out:=out) hr n (k+1) (by omega) (by omega)
     have e1:cl AP g398L0 ⟨[(1,.pv (vI i)),(3,.aG 3 0),(5,.aG 5 0),(6,.aG 6 0),(8,.aG 8 0),(9,.pv (.aI (out.map vI))),(15,.pv (.aI (r.map Ty.pv))),(16,.pv (vI k))],[(3,sC s),(5,tC t),(6,zS),(8,o7 v)],[],[0,0]⟩=cl AP g398L0 ⟨[(1,.pv (vI i)),(3,.aG 3 0),(5,.aG 5 0),(6,.aG 6 0),(8,.aG 8 0),(9,.pv (.aI (out.map vI))),(15,.pv (.aI (r.map Ty.pv))),(16,.pv (vI (k+1:Nat)))],[(3,sC s),(5,tC t),(6,zS),(8,o7 v)],[],[0,0]⟩:=by
       conv=>lhs;rw [g398L0e]
       simp (disch:=omega) [-getElem?_pos,g398B0,sC,tC,zS,o7,hx,hk,hg,az]
     rw [e1];exact ih
theorem L1 {s:d8} {i:Nat} {t:Ty} {v:Sl} {out:List Int} (hr:Sm out):∀(n k:Nat),out.length-k=n→k≤out.length →
   (∃q,cl AP g398L1 ⟨[(1,.pv (vI i)),(3,.aG 3 0),(5,.aG 5 0),(6,.aG 6 0),(8,.aG 8 0),(9,.pv (.aI (out.map vI))),(17,.pv (vI k))],[(3,sC s),(5,tC t),(6,zS),(8,o7 v)],[],[0,0]⟩=Ja s q) ∨
   cl AP g398L1 ⟨[(1,.pv (vI i)),(3,.aG 3 0),(5,.aG 5 0),(6,.aG 6 0),(8,.aG 8 0),(9,.pv (.aI (out.map vI))),(17,.pv (vI k))],[(3,sC s),(5,tC t),(6,zS),(8,o7 v)],[],[0,0]⟩ =
     some (.exit 2,⟨[(1,.pv (vI i)),(3,.aG 3 0),(5,.aG 5 0),(6,.aG 6 0),(8,.aG 8 0),(9,.pv (.aI (out.map vI))),(17,.pv (vI out.length)),(72,.pv (.bool false))],[(3,sC s),(5,tC t),(6,zS),(8,o7 v)],[],[0,0]⟩)
 | 0,k,hn,hk=>by
   have:k=out.length:=by omega
   subst this;refine .inr ?_;rw [g398L1e];simp [g398B1,sC,tC,zS,o7]
 | n+1,k,hn,hk=>by
   have hk:k<out.length:=(by omega);obtain ⟨x,hx⟩:=bD hk;unfold Sm at hr;by_cases hg:(s.sl.length:Int)≤x∧v.home<0
   · obtain ⟨g1,g2⟩:=hg;refine .inl ?_;rw [g398L1e];simp (disch:=omega) [-getElem?_pos,g398B1,sC,tC,zS,o7,Ja,hx,hk,g1,g2]
   · have ih:=L1 (s:=s) (i:=i) (t:=t) (v:=v) (out:=out) hr n (k+1) (by omega) (by omega)
     have e1:cl AP g398L1 ⟨[(1,.pv (vI i)),(3,.aG 3 0),(5,.aG 5 0),(6,.aG 6 0),(8,.aG 8 0),(9,.pv (.aI (out.map vI))),(17,.pv (vI k))],[(3,sC s),(5,tC t),(6,zS),(8,o7 v)],[],[0,0]⟩=cl AP g398L1 ⟨[(1,.pv (vI i)),(3,.aG 3 0),(5,.aG 5 0),(6,.aG 6 0),(8,.aG 8 0),(9,.pv (.aI (out.map vI))),(17,.pv (vI (k+1:Nat)))],[(3,sC s),(5,tC t),(6,zS),(8,o7 v)],[],[0,0]⟩:=by
       conv=>lhs;rw [g398L1e]
       by_cases g1:(s.sl.length:Int)≤x
       · have g2:¬v.home<0:=fun h=>hg ⟨g1,h⟩
         simp (disch:=omega) [-getElem?_pos,g398B1,sC,tC,zS,o7,hx,hk,g1,g2,az]
       · simp (disch:=omega) [-getElem?_pos,g398B1,sC,tC,zS,o7,hx,hk,g1,az]
     rw [e1];exact ih
structure Kp (s s':d8) (c:Nat):Prop where
 len:s'.sl.length=s.sl.length
 tr:s'.tr.length≤s.tr.length+c
 Ga:∀(k:Nat) o',s'.sl[k]?=some o'→∃o,s.sl[k]?=some o∧o'.bd=o.bd∧o'.ty=o.ty
 ub:ub s'.sl=ub s.sl
theorem Kp.F' {s s':d8} {c:Nat} (h:Kp s s' c) {i v:Int} (e:Edge s'.sl i v):Edge s.sl i v:=by
 obtain ⟨k,x,rfl,hx,hb,ho⟩:=e;obtain ⟨o,hk,h1,h2⟩:=h.Ga k x hx;exact ⟨k,o,rfl,hk,by rw [←h1];exact hb,by rw [←h2];exact ho⟩
theorem Kp.set {s s':d8} {c:Nat} (h:Kp s s' c) {k:Nat} {o x:Sl} (ho:s'.sl[k]?=some o) (hb:x.bd=o.bd) (ht:x.ty=o.ty):Kp s (gV s' k o x) (c+1) where
 len:=by rw [cE,List.length_set,h.len]
 tr:=by rw [mr];have:=h.tr;omega
 Ga:=by
   intro j o' hj;rw [cE,List.getElem?_set] at hj;by_cases e:k=j
   · subst e;have hl:k<s'.sl.length:=by obtain ⟨h,_⟩:=List.getElem?_eq_some_iff.1 ho;exact h
     rw [if_pos rfl,if_pos hl] at hj;cases hj;obtain ⟨p,h1,h2,h3⟩:=h.Ga k o ho;exact ⟨p,h1,by rw [hb,h2],by rw [ht,h3]⟩
   · rw [if_neg e] at hj;exact h.Ga j o' hj
 ub:=by rw [cE,qE ho hb,h.ub]
theorem Kp.refl {s:d8}:Kp s s 0:=⟨rfl,by omega,fun k o h=>⟨o,h,rfl,rfl⟩,rfl⟩
theorem Kp.gW {s s':d8} {c d:Nat} (h:Kp s s' c) (hd:c≤d):Kp s s' d:=⟨h.len,by have:=h.tr;omega,h.Ga,h.ub⟩
def nh (n:Nat) (l:List Int):Nat:=(l.filter fun w:Int=>decide (w<(n:Int))).length
theorem C_ {n:Nat} {l:List Int} (hd:l.Nodup) (h0:∀w∈l,0≤w):nh n l≤n:=by
 have h1:(l.filter fun w=>decide (w<(n:Int))).Nodup:=hd.filter _
 have h2:∀x∈(l.filter fun w=>decide (w<(n:Int))),x∈(List.range n).map (fun k:Nat=>(k:Int)):=by
   intro x hx;simp at hx;simp;exact ⟨x.toNat,by have:=h0 x hx.1;omega,by have:=h0 x hx.1;omega⟩
 have:=gH h1 h2;simpa [nh] using this
theorem Kp.JC {n M:Nat} {S:List Int} {s s':d8} {c:Nat} (I:Inv n M S s) (h:Kp s s' c) (hc:c≤n):s'.Ok n (M+n+10):=⟨by rw [h.len,I.len];omega,by have:=h.tr;have:=I.JB;have:0≤(n+2)*Lw.ub s.sl:=Nat.zero_le _;omega,by
 intro x hx;obtain ⟨k,hk⟩:=List.mem_iff_getElem?.1 hx;obtain ⟨o,ho,_,e⟩:=h.Ga k x hk;rw [e];exact I.ok o (bt ho)⟩
theorem C' {N M:Nat} {S:List Int} {s:d8} (I:Inv N M S s) (hN:N≤1000000) (hM:M≤100000000) {i:Nat} {t:Ty} {v:Sl} {out:List Int} (hr:Sm out) (hd:out.Nodup) (h0:∀w∈out,0≤w):∀(n k:Nat),out.length-k=n→k≤out.length→∀s':d8,Kp s s' (nh N (out.take k))→∃s2,Kp s s2 (nh N out) ∧
   cl AP g398L2 ⟨[(1,.pv (vI i)),(3,.aG 3 0),(5,.aG 5 0),(6,.aG 6 0),(8,.aG 8 0),(9,.pv (.aI (out.map vI))),(18,.pv (vI k))],[(3,sC s'),(5,tC t),(6,zS),(8,o7 v)],[],[0,0]⟩ =
     some (.exit 4,⟨[(1,.pv (vI i)),(3,.aG 3 0),(5,.aG 5 0),(6,.aG 6 0),(8,.aG 8 0),(9,.pv (.aI (out.map vI))),(18,.pv (vI out.length)),(92,.pv (.bool false))],[(3,sC s2),(5,tC t),(6,zS),(8,o7 v)],[],[0,0]⟩)
 | 0,k,hn,hk,s',hK=>by
   have:k=out.length:=by omega
   subst this;refine ⟨s',by simpa using hK,?_⟩;rw [g398L2e];simp [g398B2,sC,tC,zS,o7]
 | n+1,k,hn,hk,s',hK=>by
   have hk:k<out.length:=(by omega);obtain ⟨x,hx⟩:=bD hk;have hx0:=h0 x (bt hx);have hl:=hK.len;rw [I.len] at hl;have htk:out.take (k+1)=out.take k++[x]:=(by rw [List.take_add_one,hx];rfl);have hsub:nh N (out.take k)≤N:=C_ (hd.sublist (List.take_sublist _ _)) (fun w hw=>h0 w (List.mem_of_mem_take hw));have hs:=hr;unfold Sm at hr;by_cases hg:x<(N:Int)
   · obtain ⟨j,rfl⟩:∃j:Nat,x=j:=⟨x.toNat,by omega⟩;have hj:j<s'.sl.length:=by omega
     obtain ⟨o,ho⟩:=bD hj
     have hcnt:nh N (out.take (k+1))=nh N (out.take k)+1:=by
       rw [htk];simp [nh,hg]
     by_cases hh:v.home<o.home
     · have c:=c393 (hK.JC I hsub) hN (by omega) ho ⟨o.bd,o.ty,v.home,o.base⟩;have hK2:=hK.set (x:=⟨o.bd,o.ty,v.home,o.base⟩) ho rfl rfl;rw [←hcnt] at hK2;obtain ⟨s2,h2,e⟩:=C' (i:=i) (t:=t) (v:=v) I hN hM hs hd h0 n (k+1) (by omega) (by omega) _ hK2;refine ⟨s2,h2,?_⟩;generalize gV s' j o ⟨o.bd,o.ty,v.home,o.base⟩=s1 at *;rw [g398L2e] at e ⊢;simp [sC,tC,zS,o7] at e;simp at c;simp (disch:=omega) [-getElem?_pos,g398B2,sC,tC,zS,o7,hx,hk,hj,ho,hh,c,az];rw [g398L2e];simp [e]
     · have hK2:Kp s s' (nh N (out.take (k+1))):=hK.gW (by omega);obtain ⟨s2,h2,e⟩:=C' (i:=i) (t:=t) (v:=v) I hN hM hs hd h0 n (k+1) (by omega) (by omega) s' hK2;refine ⟨s2,h2,?_⟩;rw [g398L2e] at e ⊢;simp [sC,tC,zS,o7] at e;simp (disch:=omega) [-getElem?_pos,g398B2,sC,tC,zS,o7,hx,hk,hj,ho,hh,az];rw [g398L2e];simp [e]
   · have hcnt:nh N (out.take (k+1))=nh N (out.take k):=by
       rw [htk];simp [nh,hg]
     have hK2:Kp s s' (nh N (out.take (k+1))):=(by rw [hcnt];exact hK);obtain ⟨s2,h2,e⟩:=C' (i:=i) (t:=t) (v:=v) I hN hM hs hd h0 n (k+1) (by omega) (by omega) s' hK2;refine ⟨s2,h2,?_⟩;have hg':¬x<(s'.sl.length:Int):=(by omega);rw [g398L2e] at e ⊢;simp [sC,tC,zS,o7] at e;simp (disch:=omega) [-getElem?_pos,g398B2,sC,tC,zS,o7,hx,hk,hg',az];rw [g398L2e];simp [e]
def UR (n M:Nat) (S:List Int) (s s':d8) (e:Int):Prop:=e=0→Inv n M S s'∧(s'=s∨ub s'.sl<ub s.sl)
theorem zg {n M:Nat} {S:List Int} {s s2:d8} (I:Inv n M S s) {i:Nat} {v:Sl} {t:Ty} (hv:s.sl[i]?=some v) (fi:¬o5 s.sl (i:Int)) {c:Nat} (hK:Kp s s2 c) (hc:c≤n) {o:Sl} (ho:s2.sl[i]?=some o) (ht:t.Ok) (hwf:t.Kw) (hw:∀w,iq t w→w∈S) (hnr:¬RT s.sl t i) {x:Sl} (hb:x.bd=true) (hx:x.ty=t) :
   Inv n M S (gV s2 i o x)∧ub (gV s2 i o x).sl<ub s.sl:=by
 have hob:o.bd=false:=by
   obtain ⟨o2,h1,h2,_⟩:=hK.Ga i o ho;rw [hv] at h1;cases h1;rw [h2];exact wB hv fi
 have u2:=wy ho hob hb;have hu:=hK.ub;have hp:=I.JB;have hl:=I.len;refine ⟨⟨by rw [cE,List.length_set,hK.len,I.len],?_,?_,?_,?_,?_⟩,?_⟩
 · rw [mr,cE];have:(n+2)*ub s.sl=(n+2)*ub (s2.sl.set i x)+(n+2):=by rw [←hu,←u2,Nat.mul_add,Nat.mul_one]
   have:=hK.tr;omega
 · intro y hy;rw [cE] at hy;rcases mem_set hy with rfl | hy
   · rw [hx];exact ht
   · obtain ⟨k,hk⟩:=List.mem_iff_getElem?.1 hy;obtain ⟨p,h1,_,h3⟩:=hK.Ga k y hk;rw [h3];exact I.ok p (bt h1)
 · intro y hy w hw2;rw [cE] at hy;rcases mem_set hy with rfl | hy
   · rw [hx] at hw2;exact hw w hw2
   · obtain ⟨k,hk⟩:=List.mem_iff_getElem?.1 hy;obtain ⟨p,h1,_,h3⟩:=hK.Ga k y hk;rw [h3] at hw2;exact I.mq p (bt h1) w hw2
 · rw [cE];refine za (I.I9.of fun a b=>hK.F') ?_;intro w ho2 hr;rw [hx] at ho2;refine hnr ⟨w,ho2,?_⟩
   have key:∀{a b:Int},C7 s2.sl a b→C7 s.sl a b:=by
     intro a b h;induction h with
     | refl=>exact .refl _
     | step e _ ih=>exact .step (hK.F' e) ih
   exact key hr
 · intro y hy;rw [cE] at hy;rcases mem_set hy with rfl | hy
   · rw [hx];exact hwf
   · obtain ⟨k,hk⟩:=List.mem_iff_getElem?.1 hy;obtain ⟨p,h1,_,h3⟩:=hK.Ga k y hk;rw [h3];exact I.wf p (bt h1)
 · rw [cE];omega
theorem c398 {n M:Nat} {S:List Int} {s:d8} (I:Inv n M S s) (hn:n≤1000000) (hM:M≤100000000) (hf:S.length<1099511627776) (hS0:∀w∈S,0≤w) {i:Nat} (hi:i<n) (fi:¬o5 s.sl (i:Int)) {t:Ty} (ht:t.Ok) (hwf:t.Kw) (hw:∀w,iq t w→w∈S) :
   ∃s' e,(aP AP).p 398 [s.pv,vI i,t.pv]=some [s'.pv,vI e]∧UR n M S s s' e:=by
 have hl:=I.len;have his:i<s.sl.length:=by omega
 obtain ⟨v,hv⟩:=bD his;obtain ⟨out,k1,hc,hall⟩:=c372 (by omega) I.I9 I.ok I.mq hf ht hw;have hsm:=hc.len;have k2:=c95 hsm (y:=(i:Int));obtain ⟨a,b,ar,k3,_⟩:=c194g ht;have hsl:Sm s.sl:=by unfold Sm;omega
 obtain ⟨u,bb,k4,hu,hun⟩:=c358 hsl I.ok ht;obtain ⟨r,k5,hr⟩:=c59t hu hun;have A:=L0 (s:=s) (i:=i) (t:=t) (v:=v) (out:=out) hr _ 0 rfl (by omega);have B:=L1 (s:=s) (i:=i) (t:=t) (v:=v) (out:=out) hsm _ 0 rfl (by omega);have h0:∀w∈out,0≤w:=fun w hw=>hS0 w (hc.sub w hw)
 obtain ⟨s2,hK,C⟩:=C' (i:=i) (t:=t) (v:=v) I hn hM hsm hc.nodup h0 _ 0 rfl (by omega) s (by simpa [nh] using Kp.refl);have hcn:nh n out≤n:=C_ hc.nodup h0;have hi2:i<s2.sl.length:=by rw [hK.len];exact his
 obtain ⟨o,ho⟩:=bD hi2;let x:Sl:=⟨true,t,v.home,v.base⟩;have k6:=c393 (hK.JC I hcn) hn (by omega) ho x;by_cases q1:(i:Int)∈out
 · rw [decide_eq_true q1] at k2;refine ⟨s,12,?_,by intro h;cases h⟩;rw [aw (af:=g398) rfl rfl (by decide)];simp at k1;simp (disch:=omega) [-getElem?_pos,g398,his,hv,k1,k2]
 · rw [decide_eq_false q1] at k2;have hnr:¬RT s.sl t i:=fun h=>q1 (hall i h fi)
   have J:=zg I (x:=x) hv fi hK hcn ho ht hwf hw hnr rfl rfl;generalize gV s2 i o x=s3 at *;simp [x] at k6;simp at k1 k3 k4 k5;rw [g398L0e] at A;rw [g398L1e] at B;rw [g398L2e] at C;simp [sC,tC,zS,o7,Ja] at A B C;by_cases q2:ar=true∧v.base=true
   · obtain ⟨q3,q4⟩:=q2;refine ⟨s,14,?_,by intro h;cases h⟩;rw [aw (af:=g398) rfl rfl (by decide)];simp (disch:=omega) [-getElem?_pos,g398,his,hv,k1,k2,k3,q3,q4]
   · rcases A with ⟨q,A⟩ | A
     · refine ⟨s,13,?_,by intro h;cases h⟩;rw [aw (af:=g398) rfl rfl (by decide)];cases ar with
       | true=>
         have q4:v.base=false:=by cases e:v.base with | false=>rfl | true=>exact absurd ⟨rfl,e⟩ q2
         simp [q4] at A;simp (disch:=omega) [-getElem?_pos,g398,his,hv,k1,k2,k3,k4,k5,q4,g398L0e,A]
       | false=>simp (disch:=omega) [-getElem?_pos,g398,his,hv,k1,k2,k3,k4,k5,g398L0e,A]
     · rcases B with ⟨q,B⟩ | B
       · refine ⟨s,13,?_,by intro h;cases h⟩;rw [aw (af:=g398) rfl rfl (by decide)];cases ar with
         | true=>
           have q4:v.base=false:=by cases e:v.base with | false=>rfl | true=>exact absurd ⟨rfl,e⟩ q2
           simp [q4] at A B;simp (disch:=omega) [-getElem?_pos,g398,his,hv,k1,k2,k3,k4,k5,q4,g398L0e,A,g398L1e,B]
         | false=>simp (disch:=omega) [-getElem?_pos,g398,his,hv,k1,k2,k3,k4,k5,g398L0e,A,g398L1e,B]
       · refine ⟨s3,0,?_,fun _=>⟨J.1,.inr J.2⟩⟩;rw [aw (af:=g398) rfl rfl (by decide)];cases ar with
         | true=>
           have q4:v.base=false:=by cases e:v.base with | false=>rfl | true=>exact absurd ⟨rfl,e⟩ q2
           simp [q4] at A B C k6;simp (disch:=omega) [-getElem?_pos,g398,his,hv,k1,k2,k3,k4,k5,q4,g398L0e,A,g398L1e,B,g398L2e,C,k6]
         | false=>simp (disch:=omega) [-getElem?_pos,g398,his,hv,k1,k2,k3,k4,k5,g398L0e,A,g398L1e,B,g398L2e,C,k6]
theorem zh {s:List Sl} {rk:Int→Nat} (hr:∀i v,Edge s i v→rk v<rk i):∀(m:Nat) (t:Ty),iD s (wk s m t)≠none→∃(i:Nat) (l:List Nat),t.kind=1∧t.id=i∧l.length=m∧(i::l).Pairwise (fun a b:Nat=>rk (b:Int)<rk (a:Int))∧∀a∈i::l,a<s.length
 | 0,t,h=>by
   cases hb:iD s t with
   | none=>exact absurd hb h
   | some x=>
     obtain ⟨k,i,hi,hx,_⟩:=gA hb;have hl:i<s.length:=by obtain ⟨h,_⟩:=List.getElem?_eq_some_iff.1 hx;exact h
     exact ⟨i,[],k,hi,rfl,by simp,by simpa using hl⟩
 | m+1,t,h=>by
   cases hb:iD s t with
   | none=>
     have:wk s (m+1) t=t:=by simp [wk,hb]
     rw [this] at h;exact absurd hb h
   | some x=>
     obtain ⟨k,i,hi,hx,hbd⟩:=gA hb;have hl:i<s.length:=by obtain ⟨h,_⟩:=List.getElem?_eq_some_iff.1 hx;exact h
     have e:wk s (m+1) t=wk s m x.ty:=(by simp [wk,hb]);rw [e] at h;obtain ⟨j,l,k2,hj,hn,hp,ha⟩:=zh hr m x.ty h;have ed:Edge s (i:Int) (j:Int):=⟨i,x,rfl,hx,hbd,by rw [←hj];exact .var k2⟩;have hlt:=hr _ _ ed;refine ⟨i,j::l,k,hi,by simp [hn],?_,?_⟩
     · rw [List.pairwise_cons];refine ⟨?_,hp⟩;intro b hb;simp only [List.mem_cons] at hb;rcases hb with rfl | hb
       · exact hlt
       · have:=(List.pairwise_cons.1 hp).1 b hb;omega
     · intro a hm;simp only [List.mem_cons] at hm;rcases hm with rfl | hm
       · exact hl
       · exact ha a (by simpa using hm)
theorem sR {s:List Sl} (h:Gs s) {t:Ty}:iD s (kE s t)=none:=by
 obtain ⟨rk,hr⟩:=h;cases hb:iD s (kE s t) with
 | none=>rfl
 | some x=>
   exfalso;obtain ⟨i,l,_,_,hl,hp,ha⟩:=zh hr (s.length+1) t (by unfold kE at hb;rw [hb];simp);have hd:(i::l).Nodup:=hp.imp (fun {a b} h e=>by rw [e] at h;omega);have:=gH hd (S:=List.range s.length) (fun a h=>by simpa using ha a h);simp at this;omega
theorem kF {s:List Sl} {S:List Int} (hs:∀x∈s,∀w,iq x.ty w→w∈S):∀{m:Nat} {t:Ty},(∀w,iq t w→w∈S)→∀w,iq (wk s m t) w→w∈S
 | 0,t,h=>h
 | m+1,t,h=>by
   unfold wk;split
   · rename_i x hx;obtain ⟨_,i,_,hi,_⟩:=gA hx;exact kF hs (hs x (bt hi))
   · exact h
theorem PA {n M:Nat} {S:List Int} {s:d8} {x y:Ty} (hx:x.Ok) (hxy:x.args.length=y.args.length)
   (H:∀s',Inv n M S s'→(s'=s∨ub s'.sl<ub s.sl)→∀(i:Nat) a b,x.args[i]?=some a→y.args[i]?=some b→∃s2 e,(aP AP).p 391 [s'.pv,a.pv,b.pv]=some [s2.pv,vI e]∧UR n M S s' s2 e) :
   ∀(m i:Nat),x.args.length-i=m→i≤x.args.length→∀(s':d8) (e:Int),UR n M S s s' e→∃(s2:d8) (e2:Int) (i2:Nat),
   cl AP g391L0 ⟨[(3,.aG 3 0),(6,.aG 6 0),(8,.aG 8 0),(9,.aG 9 0),(10,.pv (vI e)),(11,.pv (vI i))],[(3,sC s'),(6,zS),(8,tC x),(9,tC y)],[],[0,0]⟩ =
     some (.exit 1,⟨[(3,.aG 3 0),(6,.aG 6 0),(8,.aG 8 0),(9,.aG 9 0),(10,.pv (vI e2)),(11,.pv (vI i2)),(109,.pv (.bool false))],[(3,sC s2),(6,zS),(8,tC x),(9,tC y)],[],[0,0]⟩)∧UR n M S s s2 e2
 | 0,i,hm,hi,s',e,h=>by
   have:i=x.args.length:=by omega
   subst this;refine ⟨s',e,x.args.length,?_,h⟩;rw [g391L0e];simp [g391B0,sC,tC,zS]
 | m+1,i,hm,hi,s',e,h=>by
   have hi:i<x.args.length:=(by omega);obtain ⟨a,ha⟩:=bD hi;have hiy:i<y.args.length:=(by omega);obtain ⟨b,hb⟩:=bD hiy;have hsm:=hx.sm;unfold Sm at hsm;by_cases he:e=0
   · obtain ⟨I,hu⟩:=h he;obtain ⟨s1,e1,c,h1⟩:=H s' I hu i a b ha hb
     have h2:UR n M S s s1 e1:=fun q=>by
       obtain ⟨J,ju⟩:=h1 q;refine ⟨J,?_⟩;rcases ju with rfl | ju
       · exact hu
       · rcases hu with rfl | hu
         · exact .inr ju
         · exact .inr (by omega)
     obtain ⟨s2,e2,i2,eq,h3⟩:=PA hx hxy H m (i+1) (by omega) (by omega) s1 e1 h2;refine ⟨s2,e2,i2,?_,h3⟩;rw [g391L0e] at eq ⊢;simp [sC,tC,zS] at eq;simp at c;simp (disch:=omega) [-getElem?_pos,g391B0,sC,tC,zS,hi,hiy,ha,hb,he,c,az];rw [g391L0e];simp [eq]
   · refine ⟨s',e,i,?_,h⟩;rw [g391L0e];simp (disch:=omega) [-getElem?_pos,g391B0,sC,tC,zS,hi,he]
theorem ni {s:List Sl} {t:Ty} (h:mL s t=true):t.kind=1∧∃i:Nat,t.id=i∧i<s.length:=by
 simp [mL] at h;exact ⟨h.1,t.id.toNat,by omega,by omega⟩
theorem oj {s:List Sl} (hs:∀x∈s,x.ty.Kw):∀{m:Nat} {t:Ty},t.Kw→(wk s m t).Kw
 | 0,t,h=>h
 | m+1,t,h=>by
   unfold wk;split
   · rename_i x hx;obtain ⟨_,i,_,hi,_⟩:=gA hx;exact oj hs (hs x (bt hi))
   · exact h
theorem PB {n M:Nat} {S:List Int} {s:d8} (I:Inv n M S s) (hn:n≤1000000) (hM:M≤100000000) (hf:S.length<1099511627776) (hS0:∀w∈S,0≤w) {a b:Ty} (ha:a.Ok) (hb:b.Ok) (wa:a.Kw) (wb:b.Kw) (oa:∀w,iq a w→w∈S) (ob:∀w,iq b w→w∈S) {r1:Nat} (k1:(aP AP).p 355 [s.pv,a.pv,vI (200:Nat)]=some [vI r1])
   (H:r1≤200→∀s',Inv n M S s'→(s'=s∨ub s'.sl<ub s.sl)→∀(i:Nat) x y,(kE s.sl a).args[i]?=some x→(kE s.sl b).args[i]?=some y→∃s2 e,(aP AP).p 391 [s'.pv,x.pv,y.pv]=some [s2.pv,vI e]∧UR n M S s' s2 e) :
   ∃s' e,(aP AP).p 391 [s.pv,a.pv,b.pv]=some [s'.pv,vI e]∧UR n M S s s' e:=by
 have hl:=I.len;have hsm:Sm s.sl:=by unfold Sm;omega
 obtain ⟨r2,k2,_,_,_⟩:=c355 hsm I.ok (m:=200) (by omega) hb;have k3:=c386 hsm (t:=a);have k4:=c386 hsm (t:=b);have xf:=sR I.I9 (t:=a);have yf:=sR I.I9 (t:=b);have xO:(kE s.sl a).Ok:=lS I.ok ha;have yO:(kE s.sl b).Ok:=lS I.ok hb;have xo:∀w,iq (kE s.sl a) w→w∈S:=kF I.mq oa;have yo:∀w,iq (kE s.sl b) w→w∈S:=kF I.mq ob
 change (aP AP).p 386 [s.pv,a.pv]=some [(kE s.sl a).pv] at k3
 change (aP AP).p 386 [s.pv,b.pv]=some [(kE s.sl b).pv] at k4
 have xw:(kE s.sl a).Kw:=oj I.wf wa;have yw:(kE s.sl b).Kw:=oj I.wf wb;generalize kE s.sl a=x at *;generalize kE s.sl b=y at *;have k5:=c396 (s:=s) (t:=x);have k6:=c396 (s:=s) (t:=y);simp at k1 k2 k3 k4;by_cases h1:200<r1
 · refine ⟨s,15,?_,by intro h;cases h⟩;have h1':(200:Int)<r1:=by omega
   rw [aw (af:=g391) rfl rfl (by decide)];simp [g391,k1,h1']
 · have h1':¬(200:Int)<r1:=(by omega);have H:=H (by omega);by_cases h2:200<r2
   · refine ⟨s,15,?_,by intro h;cases h⟩;have h2':(200:Int)<r2:=by omega
     rw [aw (af:=g391) rfl rfl (by decide)];simp [g391,k1,k2,h1',h2']
   · have h2':¬(200:Int)<r2:=(by omega);cases sx:mL s.sl x with
     | true=>
       obtain ⟨xk,i,xi,hi⟩:=ni sx;have fi:¬o5 s.sl (i:Int):=by rw [←xi];exact jl xk xf
       rw [sx] at k5;cases sy:mL s.sl y with
       | true=>
         obtain ⟨yk,j,yj,hj⟩:=ni sy;have fj:¬o5 s.sl (j:Int):=by rw [←yj];exact jl yk yf
         rw [sy] at k6;obtain ⟨s',c,J⟩:=c397 I hn hM xi yj (by omega) (by omega) fi fj (by rw [←xi];exact xo _ (.var xk)) (by rw [←yj];exact yo _ (.var yk));refine ⟨s',0,?_,fun _=>J⟩;simp at k5 k6 c;rw [aw (af:=g391) rfl rfl (by decide)];simp [g391,k1,k2,k3,k4,k5,k6,h1',h2',c]
       | false=>
         rw [sy] at k6;obtain ⟨s',e,c,J⟩:=c398 I hn hM hf hS0 (by omega) fi yO yw yo;refine ⟨s',e,?_,J⟩;simp [xi] at k3 k5 k6 c;rw [aw (af:=g391) rfl rfl (by decide)];simp [g391,k1,k2,k3,k4,k5,k6,h1',h2',xi,c]
     | false=>
       rw [sx] at k5;cases sy:mL s.sl y with
       | true=>
         obtain ⟨yk,j,yj,hj⟩:=ni sy;have fj:¬o5 s.sl (j:Int):=by rw [←yj];exact jl yk yf
         rw [sy] at k6;obtain ⟨s',e,c,J⟩:=c398 I hn hM hf hS0 (by omega) fj xO xw xo;refine ⟨s',e,?_,J⟩;simp [yj] at k4 k5 k6 c;rw [aw (af:=g391) rfl rfl (by decide)];simp [g391,k1,k2,k3,k4,k5,k6,h1',h2',yj,c]
       | false=>
         rw [sy] at k6;simp at k5 k6;by_cases q:x.kind=y.kind∧x.name=y.name∧x.id=y.id∧x.home=y.home∧x.args.length=y.args.length
         · obtain ⟨q1,q2,q3,q4,q5⟩:=q;obtain ⟨s2,e2,i2,eq,U⟩:=PA xO q5 H _ 0 rfl (by omega) s 0 (fun _=>⟨I,.inl rfl⟩);refine ⟨s2,e2,?_,U⟩;rw [g391L0e] at eq;simp [sC,tC,zS] at eq;rw [aw (af:=g391) rfl rfl (by decide)];simp [g391,k1,k2,k3,k4,k5,k6,h1',h2'];simp only [q1,q2,q3,q4,q5] at *;simp [g391L0e,eq]
         · refine ⟨s,11,?_,by intro h;cases h⟩;rw [aw (af:=g391) rfl rfl (by decide)];by_cases q1:x.kind=y.kind
           · have p1:=eq_true q1;by_cases q2:x.name=y.name
             · have p2:=eq_true q2;by_cases q3:x.id=y.id
               · have p3:=eq_true q3;by_cases q4:x.home=y.home
                 · have p4:=eq_true q4;have q5:¬x.args.length=y.args.length:=fun e=>q ⟨q1,q2,q3,q4,e⟩
                   have q6:¬(x.args.length:Int)=y.args.length:=(by omega);clear q q1 q2 q3 q4;simp [g391,k1,k2,k3,k4,k5,k6,h1',h2',p1,p2,p3,p4,q5,q6]
                 · clear q q1 q2 q3;simp [g391,k1,k2,k3,k4,k5,k6,h1',h2',p1,p2,p3,q4]
               · clear q q1 q2;simp [g391,k1,k2,k3,k4,k5,k6,h1',h2',p1,p2,q3]
             · clear q q1;simp [g391,k1,k2,k3,k4,k5,k6,h1',h2',p1,q2]
           · simp [g391,k1,k2,k3,k4,k5,k6,h1',h2',q1]
theorem qF {S:List Int} {t:Ty} (hw:t.Kw) (h:∀w,iq t w→w∈S):∀z∈t.args,∀w,iq z w→w∈S:=by
 intro z hz w ho;by_cases k:t.kind=1
 · rw [hw.var k] at hz;cases hz
 · exact h w (.arg k hz ho)
def Nu (n M:Nat) (S:List Int) (s:d8):Prop:=∀a b:Ty,a.Ok→b.Ok→a.Kw→b.Kw→(∀w,iq a w→w∈S)→(∀w,iq b w→w∈S)→∃s2 e,(aP AP).p 391 [s.pv,a.pv,b.pv]=some [s2.pv,vI e]∧UR n M S s s2 e
theorem c391r {n M:Nat} {S:List Int} {s:d8} (I:Inv n M S s) (hn:n≤1000000) (hM:M≤100000000) (hf:S.length<1099511627776) (hS0:∀w∈S,0≤w)
   (IH:∀s':d8,ub s'.sl<ub s.sl→Inv n M S s'→Nu n M S s') (r:Nat) :
   ∀a b:Ty,Tr s.sl a r→a.Ok→b.Ok→a.Kw→b.Kw→(∀w,iq a w→w∈S)→(∀w,iq b w→w∈S)→∃s2 e,(aP AP).p 391 [s.pv,a.pv,b.pv]=some [s2.pv,vI e]∧UR n M S s s2 e:=by
 induction r using Nat.strongRecOn with
 | ind r ih=>
   intro a b ht ha hb wa wb oa ob;have hl:=I.len;have hsm:Sm s.sl:=by unfold Sm;omega
   obtain ⟨r1,k1,_,_,_⟩:=c355 hsm I.ok (m:=200) (by omega) ha;obtain ⟨ns,hT,hr⟩:=ht.inv;have xO:(kE s.sl a).Ok:=lS I.ok ha;have yO:(kE s.sl b).Ok:=lS I.ok hb;have xw:(kE s.sl a).Kw:=oj I.wf wa;have yw:(kE s.sl b).Kw:=oj I.wf wb;have xo:=qF xw (kF I.mq oa:∀w,iq (kE s.sl a) w→w∈S);have yo:=qF yw (kF I.mq ob:∀w,iq (kE s.sl b) w→w∈S);refine PB I hn hM hf hS0 ha hb wa wb oa ob k1 ?_;intro _ s' I' hu i x y hx hy;have hi:i<(kE s.sl a).args.length:=by obtain ⟨h,_⟩:=List.getElem?_eq_some_iff.1 hx;exact h
   have mx:=bt hx;have my:=bt hy;rcases hu with rfl | hu
   · obtain ⟨m,hm⟩:=bD (l:=ns) (i:=i) (by rw [hT.1];exact hi);have:=wx hm;exact ih m (by omega) x y (hT.2 i x m hx hm) (xO.g_ x mx) (yO.g_ y my) (xw.g_ x mx) (yw.g_ y my) (xo x mx) (yo y my)
   · exact IH s' hu I' x y (xO.g_ x mx) (yO.g_ y my) (xw.g_ x mx) (yw.g_ y my) (xo x mx) (yo y my)
theorem c391 {n M:Nat} {S:List Int} (hn:n≤1000000) (hM:M≤100000000) (hf:S.length<1099511627776) (hS0:∀w∈S,0≤w) (u:Nat):∀s:d8,ub s.sl=u→Inv n M S s→Nu n M S s:=by
 induction u using Nat.strongRecOn with
 | ind u IH=>
   intro s hu I a b ha hb wa wb oa ob;have hl:=I.len;have hsm:Sm s.sl:=by unfold Sm;omega
   have IH':∀s':d8,ub s'.sl<ub s.sl→Inv n M S s'→Nu n M S s':=fun s' h I'=>IH _ (by omega) s' rfl I'
   obtain ⟨r1,k1,_,_,ht⟩:=c355 hsm I.ok (m:=200) (by omega) ha;have xO:(kE s.sl a).Ok:=lS I.ok ha;have yO:(kE s.sl b).Ok:=lS I.ok hb;have xw:(kE s.sl a).Kw:=oj I.wf wa;have yw:(kE s.sl b).Kw:=oj I.wf wb;have xo:=qF xw (kF I.mq oa:∀w,iq (kE s.sl a) w→w∈S);have yo:=qF yw (kF I.mq ob:∀w,iq (kE s.sl b) w→w∈S);refine PB I hn hM hf hS0 ha hb wa wb oa ob k1 ?_;intro h200 s' I' hu i x y hx hy;have hi:i<(kE s.sl a).args.length:=by obtain ⟨h,_⟩:=List.getElem?_eq_some_iff.1 hx;exact h
   have mx:=bt hx;have my:=bt hy;rcases hu with rfl | hu
   · obtain ⟨ns,hT,hr⟩:=(ht h200).inv;obtain ⟨m,hm⟩:=bD (l:=ns) (i:=i) (by rw [hT.1];exact hi);exact c391r I' hn hM hf hS0 IH' m x y (hT.2 i x m hx hm) (xO.g_ x mx) (yO.g_ y my) (xw.g_ x mx) (yw.g_ y my) (xo x mx) (yo y my)
   · exact IH' s' hu I' x y (xO.g_ x mx) (yO.g_ y my) (xw.g_ x mx) (yw.g_ y my) (xo x mx) (yo y my)
structure Fit (S:List Int) (t:Ty):Prop where
 ok:t.Ok
 wf:t.Kw
 mq:∀w,iq t w→w∈S
structure Q0 (n M:Nat) (S:List Int):Prop where
 n:n≤1000000
 m:M≤100000000
 F1:S.length<1099511627776
 nn:∀w∈S,0≤w
theorem c385 {n M:Nat} {S:List Int} (N:Q0 n M S) {s:d8} (I:Inv n M S s) {a b:Ty} (fa:Fit S a) (fb:Fit S b):∃s' e,(aP AP).p 385 [s.pv,a.pv,b.pv]=some [s'.pv,vI e]∧Inv n M S s':=by
 obtain ⟨s',e,c,U⟩:=c391 N.n N.m N.F1 N.nn _ s rfl I a b fa.ok fb.ok fa.wf fb.wf fa.mq fb.mq;simp at c;by_cases he:e=0
 · refine ⟨s',0,?_,(U he).1⟩;subst he;rw [aw (af:=g385) rfl rfl (by decide)];simp [g385,c]
 · refine ⟨s,e,?_,I⟩;rw [aw (af:=g385) rfl rfl (by decide)];simp [g385,c,he]
theorem Jb {n M:Nat} {S:List Int} {s:d8} (I:Inv n M S s) {i:Nat} {o x:Sl} (ho:s.sl[i]?=some o) (hb:x.bd=o.bd) (ht:x.ty=o.ty):Inv n (M+1) S (gV s i o x) where
 len:=by rw [cE,List.length_set,I.len]
 JB:=by rw [mr,cE,qE ho hb];have:=I.JB;omega
 ok:=by
   intro y hy;rw [cE] at hy;rcases mem_set hy with rfl | hy
   · rw [ht];exact I.ok o (bt ho)
   · exact I.ok y hy
 mq:=by
   intro y hy;rw [cE] at hy;rcases mem_set hy with rfl | hy
   · rw [ht];exact I.mq o (bt ho)
   · exact I.mq y hy
 I9:=by rw [cE];exact y_ I.I9 ho hb ht
 wf:=by
   intro y hy;rw [cE] at hy;rcases mem_set hy with rfl | hy
   · rw [ht];exact I.wf o (bt ho)
   · exact I.wf y hy
theorem Inv.gW {n M M':Nat} {S S':List Int} {s:d8} (I:Inv n M S s) (h:M≤M') (hS:∀w∈S,w∈S'):Inv n M' S' s:=⟨I.len,by have:=I.JB;omega,I.ok,fun x hx w ho=>hS w (I.mq x hx w ho),I.I9,I.wf⟩
theorem c394 {n M:Nat} {S:List Int} (N:Q0 n M S) (hS:∀w∈S,w<n) {s:d8} (I:Inv n M S s) {t:Ty} (ft:Fit S t):∃s',(aP AP).p 394 [s.pv,t.pv]=some [s'.pv]∧Inv n (M+1) S s':=by
 have hl:=I.len;have hn:=N.n;have hM:=N.m;have hsm:Sm s.sl:=by unfold Sm;omega
 have k3:=c386 hsm (t:=t);have xo:∀w,iq (wk s.sl (s.sl.length+1) t) w→w∈S:=kF I.mq ft.mq;generalize wk s.sl (s.sl.length+1) t=x at *;by_cases k:x.kind=1
 · have ho:=xo _ (.var k);have h0:=N.nn _ ho;have h1:=hS _ ho;obtain ⟨i,hi⟩:∃i:Nat,x.id=i:=⟨x.id.toNat,by omega⟩;have hil:i<s.sl.length:=(by omega);obtain ⟨o,hoo⟩:=bD hil;have c:=c393 I.JC hn (by omega) hoo ⟨o.bd,o.ty,o.home,true⟩;refine ⟨_,?_,Jb I hoo (x:=⟨o.bd,o.ty,o.home,true⟩) rfl rfl⟩;generalize gV s i o ⟨o.bd,o.ty,o.home,true⟩=s1 at *;simp [k,hi] at k3;simp at c;rw [aw (af:=g394) rfl rfl (by decide)];simp (disch:=omega) [-getElem?_pos,g394,k3,hil,hoo,c]
 · refine ⟨s,?_,I.gW (by omega) (fun _ h=>h)⟩;simp at k3;rw [aw (af:=g394) rfl rfl (by decide)];simp [g394,k3,k]
def eK (n:Nat):List Int:=(List.range n).map fun k:Nat=>(k:Int)
theorem eN {n:Nat} {w:Int}:w∈eK n↔0≤w∧w<n:=by
 simp only [eK,List.mem_map,List.mem_range];constructor
 · rintro ⟨k,h,rfl⟩;omega
 · intro h;exact ⟨w.toNat,by omega,by omega⟩
theorem Nv {n M:Nat} (hn:n≤1000000) (hM:M≤100000000):Q0 n M (eK n):=⟨hn,hM,by simp [eK];omega,fun w h=>(eN.1 h).1⟩
theorem uF {n M:Nat} {s:d8} (I:Inv n M (eK n) s) (home:Int) (b:Bool) {M':Nat} (hM:M+ub s.sl+n+4≤M'):Inv (n+1) M' (eK (n+1)) (dB s home b) where
 len:=by simp [dB,I.len]
 JB:=by
   have:=I.JB;have hu:ub (dB s home b).sl=ub s.sl+1:=by simp [dB,ub,List.countP_append]
   have ht:(dB s home b).tr.length=s.tr.length+1:=(by simp [dB]);rw [hu,ht];have:(n+1+2)*(ub s.sl+1)=(n+2)*ub s.sl+ub s.sl+n+3:=(by rw [Nat.mul_add,Nat.add_right_comm n 1 2,Nat.add_mul (n+2) 1];omega);omega
 ok:=by
   intro x hx;simp [dB] at hx;rcases hx with hx | rfl
   · exact I.ok x hx
   · exact da rfl
 mq:=by
   intro x hx w ho;simp [dB] at hx;rcases hx with hx | rfl
   · have:=eN.1 (I.mq x hx w ho);exact eN.2 (by omega)
   · cases ho with
     | var q=>simp [bW] at q
     | arg _ ha _=>simp [bW] at ha
 I9:=I0 I.I9 rfl
 wf:=by
   intro x hx;simp [dB] at hx;rcases hx with hx | rfl
   · exact I.wf x hx
   · exact ⟨by simp [bW],by simp [bW],by simp [bW]⟩
mutual
def Ty.lW (l:List cS):Ty→Ty
 | ⟨k,n,i,h,as⟩=>if k=5∧0≤og l n then cU (og l n) else ⟨k,n,i,h,Ty.Jc l as⟩
def Ty.Jc (l:List cS):List Ty→List Ty
 | []=>[]
 | a::r=>a.lW l::Ty.Jc l r
end
theorem Ty.zi (l:List cS):∀as:List Ty,Ty.Jc l as=as.map (Ty.lW l)
 | []=>by simp [Ty.Jc]
 | a::r=>by simp [Ty.Jc,Ty.zi l r]
theorem Ty.wC (l:List cS) (t:Ty):t.lW l=if t.kind=5∧0≤og l t.name then cU (og l t.name) else ⟨t.kind,t.name,t.id,t.home,t.args.map (Ty.lW l)⟩:=by
 cases t;simp only [Ty.lW,Ty.zi]
theorem PC {l:List cS} {t:Ty} (hS:Sm t.args) (h:∀x∈t.args,(aP AP).p 198 [x.pv,.aI (l.map .str)]=some [(x.lW l).pv]):∀(n i:Nat),t.args.length-i=n→i≤t.args.length→∀acc:List Ty,acc=(t.args.take i).map (Ty.lW l) →
   cl AP g198L0 ⟨[(1,.pv (.aI (l.map .str))),(2,.aG 2 0),(4,.aG 4 0),(6,.aG 6 0),(7,.pv (vI i))],
     [(2,M_ t),(4,[.pv (vI 0),.pv (.str []),.pv (vI 0),.pv (vI 0),.own [] 0]),(6,[.pv (vI t.kind),.pv (.str t.name),.pv (vI t.id),.pv (vI t.home),.own (acc.map Ty.pv) 1])],[],[0,acc.length]⟩ =
     some (.exit 0,⟨[(1,.pv (.aI (l.map .str))),(2,.aG 2 0),(4,.aG 4 0),(6,.aG 6 0),(7,.pv (vI t.args.length)),(26,.pv (.bool false))],
     [(2,M_ t),(4,[.pv (vI 0),.pv (.str []),.pv (vI 0),.pv (vI 0),.own [] 0]),(6,[.pv (vI t.kind),.pv (.str t.name),.pv (vI t.id),.pv (vI t.home),.own ((t.args.map (Ty.lW l)).map Ty.pv) 1])],[],[0,t.args.length]⟩)
 | 0,i,hn,hi,acc,ha=>by
   have:i=t.args.length:=by omega
   subst this;subst ha;rw [g198L0e];simp [g198B0]
 | n+1,i,hn,hi,acc,ha=>by
   have hi:i<t.args.length:=(by omega);obtain ⟨x,hx⟩:=bD hi;unfold Sm at hS;have hb:(acc.length+1)*64≤140737488355328:=by subst ha;simp;omega
   have hc:=h x (bt hx);have ih:=PC hS h n (i+1) (by omega) (by omega) (acc++[x.lW l]) (by rw [List.take_add_one,hx,ha];simp);rw [g198L0e] at ih ⊢;simp at ih hc;simp (disch:=omega) [-getElem?_pos,g198B0,hx,hi,hc,hb,az];rw [g198L0e];simp [ih]
theorem c198 {l:List cS} (hl:Sm l) {t:Ty} (hO:t.Ok) (hC:t.Cw):(aP AP).p 198 [t.pv,.aI (l.map .str)]=some [(t.lW l).pv]:=by
 revert hO hC
 refine Ty.eU (p:=fun t=>t.Ok→t.Cw→(aP AP).p 198 [t.pv,.aI (l.map .str)]=some [(t.lW l).pv]) ?_ t;intro t ih hO hC;have k1:=c216 hl (y:=t.name);have k2:=c72 (n:=og l t.name);have h:=PC hO.sm (fun x hx=>ih x hx (hO.g_ x hx) (hC.g_ x hx)) t.args.length 0 (by omega) (by omega) [] (by simp);rw [aw (af:=g198) rfl rfl (by decide),Ty.wC];rw [g198L0e] at h;simp at k2 h;by_cases e1:t.kind=5
 · have ea:=hC.bare (by rw [e1];decide);by_cases e2:0≤og l t.name
   · simp [g198,k1,e1,e2,k2,cU]
   · simp [g198,k1,e1,e2,ea]
 · simp [g198,e1,g198L0e,h]
def eZ (out:List cS) (x:cS):List cS:=if x∈out then out else out++[x]
structure jD (S out:List cS):Prop where
 nodup:out.Nodup
 sub:∀x∈out,x∈S
 F1:S.length<1099511627776
theorem jD.len {S out:List cS} (h:jD S out):Sm out:=by
 have:=gH h.nodup h.sub;have:=h.F1;unfold Sm;omega
theorem jD.put {S out:List cS} (h:jD S out) {x:cS} (hx:x∈S):jD S (eZ out x):=by
 unfold eZ;split
 · exact h
 · rename_i e;refine ⟨?_,?_,h.F1⟩
   · rw [List.nodup_append];refine ⟨h.nodup,by simp,?_⟩;intro a ha b hb;simp at hb;subst hb;intro e';subst e';exact e ha
   · intro y hy;simp at hy;rcases hy with hy | rfl
     · exact h.sub y hy
     · exact hx
theorem jD.fold {S:List cS}:∀{l:List cS} {out:List cS},jD S out→(∀x∈l,x∈S)→jD S (l.foldl eZ out)
 | [],_,h,_=>h
 | x::r,out,h,hx=>by
   simp only [List.foldl_cons];exact jD.fold (h.put (hx x (by simp))) (fun y hy=>hx y (by simp [hy]))
theorem uG:∀{l:List cS} {out:List cS} {x:cS},x∈out→x∈l.foldl eZ out
 | [],_,_,h=>h
 | y::r,out,x,h=>by
   simp only [List.foldl_cons];apply uG;unfold eZ;split
   · exact h
   · simp [h]
mutual
def Ty.gq:Ty→List cS
 | ⟨k,n,_,_,as⟩=>(if k=5 then [n] else [])++Ty.zj as
def Ty.zj:List Ty→List cS
 | []=>[]
 | a::r=>a.gq++Ty.zj r
end
theorem Ty.uH:∀l:List Ty,Ty.zj l=l.flatMap Ty.gq
 | []=>by simp [Ty.zj]
 | a::r=>by simp [Ty.zj,Ty.uH r]
theorem Ty.Da (t:Ty):t.gq=(if t.kind=5 then [t.name] else [])++t.args.flatMap Ty.gq:=by
 cases t;simp only [Ty.gq,Ty.uH]
def d_ (t:Ty):List cS:=t.gq.foldl eZ []
theorem PD {S:List cS} {t:Ty} (hS:Sm t.args) (h:∀x∈t.args,∀out,jD S out→(aP AP).i 222 [.own (out.map .str) 0,.pv x.pv] [] [out.length]=some ([.own ((x.gq.foldl eZ out).map .str) 0],[],[(x.gq.foldl eZ out).length]))
   (hk:∀y∈t.args.flatMap Ty.gq,y∈S):∀(n i:Nat),t.args.length-i=n→i≤t.args.length→∀out,jD S out →
   cl AP g222L0 ⟨[(0,.own (out.map .str) 0),(3,.aG 3 0),(5,.pv (vI i))],[(3,M_ t)],[],[out.length]⟩ =
     some (.exit 0,⟨[(0,.own ((((t.args.drop i).flatMap Ty.gq).foldl eZ out).map .str) 0),(3,.aG 3 0),(5,.pv (vI t.args.length)),(25,.pv (.bool false))],[(3,M_ t)],[],[(((t.args.drop i).flatMap Ty.gq).foldl eZ out).length]⟩)
 | 0,i,hn,hi,out,hc=>by
   have:i=t.args.length:=by omega
   subst this;rw [g222L0e];simp [g222B0]
 | n+1,i,hn,hi,out,hc=>by
   have hi:i<t.args.length:=(by omega);obtain ⟨x,hx⟩:=bD hi;unfold Sm at hS;have hkx:∀y∈x.gq,y∈S:=fun y hy=>hk y (by simp only [List.mem_flatMap];exact ⟨x,bt hx,hy⟩)
   have k:=h x (bt hx) out hc;have ih:=PD (t:=t) (by unfold Sm;exact hS) h hk n (i+1) (by omega) (by omega) _ (hc.fold hkx);rw [g222L0e] at ih ⊢;rw [cp hx];simp at k ih;simp (disch:=omega) [-getElem?_pos,g222B0,hx,hi,k,az];rw [g222L0e];simp [ih]
theorem c222 {S:List cS} {t:Ty} (hO:t.Ok) (hk:∀y∈t.gq,y∈S):∀out,jD S out →
   (aP AP).i 222 [.own (out.map .str) 0,.pv t.pv] [] [out.length]=some ([.own ((t.gq.foldl eZ out).map .str) 0],[],[(t.gq.foldl eZ out).length]):=by
 revert hO hk
 refine Ty.eU (p:=fun t=>t.Ok→(∀y∈t.gq,y∈S)→∀out,jD S out →
   (aP AP).i 222 [.own (out.map .str) 0,.pv t.pv] [] [out.length]=some ([.own ((t.gq.foldl eZ out).map .str) 0],[],[(t.gq.foldl eZ out).length])) ?_ t
 intro t ih hO hk out hc;rw [Ty.Da] at hk ⊢;have hkb:∀y∈(if t.kind=5 then [t.name] else []),y∈S:=fun y hy=>hk y (List.mem_append_left _ hy)
 have hka:∀y∈t.args.flatMap Ty.gq,y∈S:=fun y hy=>hk y (List.mem_append_right _ hy)
 have h:=PD (S:=S) hO.sm (fun x hx out hc=>ih x hx (hO.g_ x hx) (fun y hy=>hka y (by simp only [List.mem_flatMap];exact ⟨x,hx,hy⟩)) out hc) hka _ 0 rfl (by omega) _ (hc.fold hkb);have hl:=hc.len;have k:=c216 hl (y:=t.name);have k2:=IJ (s:=out) (y:=t.name);unfold Sm at hl;have hb:(out.length+1)*16≤140737488355328:=by omega
 have hh:bC 1 (out.map PV.str)=true:=by cases out<;>simp
 rw [aR (af:=g222) rfl (by simp [g222]),List.foldl_append];rw [g222L0e] at h;by_cases e1:t.kind=5
 · by_cases e2:t.name∈out
   · simp [e2] at k2;have k3:¬og out t.name<0:=by omega
     simp [e1,eZ,e2] at h;simp [g222,e1,k,k3,g222L0e,h,eZ,e2]
   · simp [e2] at k2;simp [e1,eZ,e2] at h;simp [g222,e1,k,k2,g222L0e,h,eZ,e2,hb,hh]
 · simp [e1] at h;simp [g222,e1,g222L0e,h]
theorem c196 {S:List cS} (hS:S.length<1099511627776) {t:Ty} (hO:t.Ok) (hk:∀y∈t.gq,y∈S):(aP AP).p 196 [t.pv]=some [.aI ((d_ t).map .str)]:=by
 have k:=c222 hO hk [] ⟨by simp,by simp,hS⟩;rw [aw (af:=g196) rfl rfl (by decide)];unfold d_;simp at k;simp [g196,k]
structure Small (ds:List Dt):Prop where
 num:Sm ds
 par:∀d∈ds,Sm d.params
 iV:∀d∈ds,Sm d.cons
 Rw:Sm (ds.flatMap Dt.cons)
 Rh:∀d∈ds,∀c∈d.cons,Sm c.fields∧(∀x∈c.fields,x.Ok)∧∀x∈c.fields,x.Cw
theorem K3 {l:List Dt} {b:Nat} (h:∀d∈l,d.cons.length≤b):(l.flatMap Dt.cons).length≤l.length*b:=by
 induction l with
 | nil=>simp
 | cons a r ih=>
   have h1:=h a (by simp);have h2:=ih (fun x hx=>h x (by simp [hx]));simp only [List.flatMap_cons,List.length_append,List.length_cons,Nat.add_mul];omega
def zk (a b:Ty):Ty:=⟨4,[45,62],0,0,[a,b]⟩
def qj (n:Nat):List Ty:=(List.range n).map fun i:Nat=>cU i
theorem om {n:Nat}:(qj n).length=n:=by simp [qj]
theorem Gb {n:Nat}:qj (n+1)=qj n++[cU n]:=by simp [qj,List.range_succ]
def Q1 (d:Dt):List AV:=[.pv (vI d.pos),.pv (.str d.name),.pv (.aI (d.params.map .str)),.pv (.aI (d.cons.map p7.pv))]
@[simp] theorem Q2 (d:Dt):Q1 d=[.pv (vI d.pos),.pv (.str d.name),.pv (.aI (d.params.map .str)),.pv (.aI (d.cons.map p7.pv))]:=rfl
def Jd (d:Dt):Ty:=⟨4,d.name,0,0,qj d.params.length⟩
theorem PE {d:Dt} (hS:Sm d.params):∀(n i:Nat),d.params.length-i=n→i≤d.params.length →
   cl AP g221L0 ⟨[(1,.aG 1 0),(2,.aG 2 0),(3,.own ((qj i).map Ty.pv) 0),(4,.pv (vI i))],[(1,Q1 d),(2,[.pv (vI 0),.pv (.str []),.pv (vI 0),.pv (vI 0),.own [] 1])],[],[i,0]⟩ =
     some (.exit 0,⟨[(1,.aG 1 0),(2,.aG 2 0),(3,.own ((qj d.params.length).map Ty.pv) 0),(4,.pv (vI d.params.length)),(9,.pv (.bool false))],[(1,Q1 d),(2,[.pv (vI 0),.pv (.str []),.pv (vI 0),.pv (vI 0),.own [] 1])],[],[d.params.length,0]⟩)
 | 0,i,hn,hi=>by
   have:i=d.params.length:=by omega
   subst this;have hl:=om (n:=d.params.length);rw [g221L0e];simp [g221B0,hl]
 | n+1,i,hn,hi=>by
   have hi:i<d.params.length:=(by omega);unfold Sm at hS;have hl:=om (n:=i);have hl2:=om (n:=i+1);have hb:(i+1)*64≤140737488355328:=(by omega);have k:=c72 (n:=i);have ih:=PE hS n (i+1) (by omega) (by omega);rw [g221L0e] at ih ⊢;rw [Gb] at ih;simp [cU,hl] at ih k;simp (disch:=omega) [-getElem?_pos,g221B0,hi,k,hl,hb,az];rw [g221L0e];simp [ih,hl]
theorem c221 {d:Dt} (hS:Sm d.params):(aP AP).p 221 [d.pv]=some [(Jd d).pv]:=by
 have h:=PE hS _ 0 rfl (by omega);have hl:=om (n:=d.params.length);have k:=c62 (s:=d.name) (l:=qj d.params.length) (by unfold Sm at hS ⊢;omega);rw [aw (af:=g221) rfl rfl (by decide)];rw [g221L0e] at h;simp [qj] at h;simp [qj] at k;simp [g221,g221L0e,h,k,Jd,qj]
def Cg (ps:List cS) (fs:List Ty) (t:Ty):Ty:=fs.foldr (fun f t=>zk (f.lW ps) t) t
theorem Gc {ps:List cS} {fs:List Ty} {k:Nat} {x t:Ty} (h:fs[k]?=some x):Cg ps (fs.take (k+1)) t=Cg ps (fs.take k) (zk (x.lW ps) t):=by
 rw [List.take_add_one,h];simp [Cg]
def p9 (ds:List Dt) (s:cS):Option Sc:=(kY ds s 0).bind fun q=>(ds[q.1]?).bind fun d=>(d.cons[q.2]?).map fun c=>⟨d.params.length,Cg d.params c.fields (Jd d)⟩
theorem PF {ds:List Dt} {i:Nat} {d:Dt} (hd:ds[i]?=some d) (hp:Sm d.params) {fs:List Ty} (hS:Sm fs) (hO:∀x∈fs,x.Ok) (hC:∀x∈fs,x.Cw):∀(k:Nat),k≤fs.length→∀t:Ty,
   cl AP g193L0 ⟨[(0,.pv (.aI (ds.map Dt.pv))),(4,.aG 4 0),(6,.pv (vI i)),(9,.aG 9 0),(10,.pv (.aI (fs.map Ty.pv))),(11,.pv (vI ((k:Int)-1)))],
     [(4,[.pv (vI 0),.pv (vI 0),.pv (.str []),.pv (vI 0),.pv (vI 0),.own [] 0]),(9,M_ t)],[],[0]⟩ =
   some (.exit 0,⟨[(0,.pv (.aI (ds.map Dt.pv))),(4,.aG 4 0),(6,.pv (vI i)),(9,.aG 9 0),(10,.pv (.aI (fs.map Ty.pv))),(11,.pv (vI (-1))),(40,.pv (.bool false))],
     [(4,[.pv (vI 0),.pv (vI 0),.pv (.str []),.pv (vI 0),.pv (vI 0),.own [] 0]),(9,M_ (Cg d.params (fs.take k) t))],[],[0]⟩)
 | 0,hk,t=>by
   rw [g193L0e];simp [g193B0,Cg]
 | k+1,hk,t=>by
   obtain ⟨x,hx⟩:=bD (l:=fs) (i:=k) (by omega);unfold Sm at hS;have ih:=PF hd hp (fs:=fs) (by unfold Sm;exact hS) hO hC k (by omega) (zk (x.lW d.params) t);have e1:((k+1:Nat):Int)-1=k:=by omega
   have q1:=c198 hp (hO x (bt hx)) (hC x (bt hx));have q2:=c69 (a:=x.lW d.params) (b:=t);rw [g193L0e,e1,Gc hx];simp [zk] at ih q1 q2;simp (disch:=omega) [-getElem?_pos,g193B0,hd,hx,q1,q2,az,ih,zk]
theorem c193 {ds:List Dt} (hS:Sm ds) (hc:∀d∈ds,Sm d.cons) (hp:∀d∈ds,Sm d.params) (hf:∀d∈ds,∀c∈d.cons,Sm c.fields∧(∀x∈c.fields,x.Ok)∧∀x∈c.fields,x.Cw) {s:cS} :
   (aP AP).p 193 [.aI (ds.map Dt.pv),.str s]=some (KR (p9 ds s)):=by
 have k:=c191 hS hc (s:=s);rw [aw (af:=g193) rfl rfl (by decide)];cases e:kY ds s 0 with
 | none=>
   rw [e] at k;simp [rF] at k;simp [g193,k,p9,e,KR,lL]
 | some q=>
   rw [e] at k;obtain ⟨_,d,c,hd,hcc,_⟩:=wz e;simp only [Nat.sub_zero] at hd;obtain ⟨f1,f2,f3⟩:=hf d (bt hd) c (bt hcc);have k2:=c221 (hp d (bt hd));have h:=PF hd (hp d (bt hd)) f1 f2 f3 c.fields.length (Nat.le_refl _) (Jd d);rw [List.take_length] at h;rw [g193L0e] at h;unfold Sm at f1;simp [rF] at k;simp at k2 h;simp (disch:=omega) [-getElem?_pos,g193,k,hd,hcc,k2,p9,e,KR,az,g193L0e,h]
def Od:List cS→List cS→Bool
 | _,[]=>false
 | pre,s::r=>decide (s∈pre) || Od (pre++[s]) r
def Rx (a b:List (PV×PV)):Sh:=[some [.fF a],some [.fF b]]
@[simp] theorem Q3 (a b:List (PV×PV)):Rx a b=[some [.fF a],some [.fF b]]:=rfl
def Q4 (c:p7):List AV:=[.pv (vI c.pos),.pv (.str c.name),.pv (.aI (c.fields.map Ty.pv))]
@[simp] theorem Qy (c:p7):Q4 c=[.pv (vI c.pos),.pv (.str c.name),.pv (.aI (c.fields.map Ty.pv))]:=rfl
theorem Ci {l:List cS} {t:Ty} (h:t.Ok):(t.lW l).Ok:=by
 revert h
 refine Ty.eU (p:=fun t=>t.Ok→(t.lW l).Ok) ?_ t;intro t ih h;rw [Ty.wC];split
 · exact da rfl
 · refine ⟨by have:=h.sm;unfold Sm at this ⊢;simpa using this,?_⟩;intro x hx;simp only [List.mem_map] at hx;obtain ⟨y,hy,rfl⟩:=hx;exact ih y hy (h.g_ y hy)
def fieldsOf (ds:List Dt) (s:cS) (as:List Ty):Option (List Ty):=(kY ds s 0).bind fun q=>(ds[q.1]?).bind fun d=>(d.cons[q.2]?).bind fun c=>if as.length=d.params.length then some (c.fields.map fun f=>(f.lW d.params).ml as) else none
def PG (o:Option (List Ty)):List PV:=[.aI ((o.getD []).map Ty.pv),.bool o.isSome]
theorem PH {ds:List Dt} {i:Nat} {d:Dt} (hd:ds[i]?=some d) (hp:Sm d.params) {as:List Ty} (ha:Sm as) {fs:List Ty} (hS:Sm fs) (hO:∀x∈fs,x.Ok) (hC:∀x∈fs,x.Cw):∀(n j:Nat),fs.length-j=n→j≤fs.length→∀acc:List Ty,acc=(fs.take j).map (fun f=>(f.lW d.params).ml as) →
   cl AP g207L0 ⟨[(0,.pv (.aI (ds.map Dt.pv))),(2,.pv (.aI (as.map Ty.pv))),(8,.pv (vI i)),(11,.own (acc.map Ty.pv) 0),(12,.pv (.aI (fs.map Ty.pv))),(13,.pv (vI j))],[],[],[acc.length]⟩ =
     some (.exit 0,⟨[(0,.pv (.aI (ds.map Dt.pv))),(2,.pv (.aI (as.map Ty.pv))),(8,.pv (vI i)),(11,.own ((fs.map (fun f=>(f.lW d.params).ml as)).map Ty.pv) 0),(12,.pv (.aI (fs.map Ty.pv))),(13,.pv (vI fs.length)),(46,.pv (.bool false))],[],[],[fs.length]⟩)
 | 0,j,hn,hj,acc,hacc=>by
   have:j=fs.length:=by omega
   subst this;subst hacc;rw [g207L0e];simp [g207B0]
 | n+1,j,hn,hj,acc,hacc=>by
   have hj:j<fs.length:=(by omega);obtain ⟨x,hx⟩:=bD hj;have q1:=c198 hp (hO x (bt hx)) (hC x (bt hx));have q2:=c48 ha (t:=x.lW d.params) (Ci (hO x (bt hx)));unfold Sm at hS;have hb:(acc.length+1)*64≤140737488355328:=by subst hacc;simp;omega
   have ih:=PH hd hp ha (fs:=fs) (by unfold Sm;exact hS) hO hC n (j+1) (by omega) (by omega) (acc++[(x.lW d.params).ml as]) (by rw [List.take_add_one,hx,hacc];simp);generalize x.lW d.params=u at q1 q2 ih;generalize u.ml as=v at q2 ih;rw [g207L0e] at ih ⊢;simp at ih q1 q2;simp (disch:=omega) [-getElem?_pos,g207B0,hd,hx,hj,q1,q2,hb,az];rw [g207L0e];simp [ih]
theorem c207 {ds:List Dt} (h:Small ds) {as:List Ty} (ha:Sm as) {s:cS}:(aP AP).p 207 [.aI (ds.map Dt.pv),.str s,.aI (as.map Ty.pv)]=some (PG (fieldsOf ds s as)):=by
 have k:=c191 h.num h.iV (s:=s);rw [aw (af:=g207) rfl rfl (by decide)];cases e:kY ds s 0 with
 | none=>
   rw [e] at k;simp [rF] at k;simp [g207,k,fieldsOf,e,PG]
 | some q=>
   rw [e] at k;obtain ⟨_,d,c,hd,hc,_⟩:=wz e;simp only [Nat.sub_zero] at hd;obtain ⟨f1,f2,f3⟩:=h.Rh d (bt hd) c (bt hc);have hl:=PH hd (h.par d (bt hd)) ha f1 f2 f3 _ 0 rfl (by omega) [] rfl;rw [g207L0e] at hl;simp [rF] at k;by_cases e2:as.length=d.params.length
   · simp at hl;simp (disch:=omega) [-getElem?_pos,g207,k,hd,hc,fieldsOf,e,PG,e2,g207L0e,hl]
   · have e3:¬(as.length:Int)=d.params.length:=(by omega);simp (disch:=omega) [-getElem?_pos,g207,k,hd,hc,fieldsOf,e,PG,e2,e3]
theorem zm {S:List Ty} (hf:S.length<1099511627776) {l:List Ty} (hG:∀t∈l,Good S t):Sm (vars l):=by
 have c0:kX (S.map Ty.id) []:=sA (by simpa using hf);refine (c0.fold (l:=l.flatMap Ty.nodes) ?_).len;intro x hx hk;simp only [List.mem_flatMap] at hx;obtain ⟨t,ht,hx⟩:=hx;exact List.mem_map_of_mem ((hG t ht).sub x (uD (hG t ht).wf x hx hk))
mutual
def Ty.jI (k:Int):Ty→Bool
 | ⟨q,_,_,_,as⟩=>decide (q=k) || Ty.zn k as
def Ty.zn (k:Int):List Ty→Bool
 | []=>false
 | a::r=>a.jI k || Ty.zn k r
end
theorem Ty.uI (k:Int):∀l:List Ty,Ty.zn k l=l.any (Ty.jI k)
 | []=>by simp [Ty.zn]
 | a::r=>by simp [Ty.zn,Ty.uI k r]
theorem Ty.Db (k:Int) (t:Ty):t.jI k=(decide (t.kind=k) || t.args.any (Ty.jI k)):=by
 cases t;simp only [Ty.jI,Ty.uI]
theorem PI {t:Ty} {k:Int} (hS:Sm t.args) (h:∀x∈t.args,(aP AP).p 351 [x.pv,vI k]=some [.bool (x.jI k)]):∀(n i:Nat),t.args.length-i=n→i≤t.args.length →
   cl AP g351L0 ⟨[(1,.pv (vI k)),(2,.aG 2 0),(5,.pv (vI i))],[(2,[.pv (vI t.kind),.pv (.str t.name),.pv (vI t.id),.pv (vI t.home),.pv (.aI (t.args.map Ty.pv))])],[],[]⟩ =
     if (t.args.drop i).any (Ty.jI k)=true then some (.ret,⟨[(4,.pv (.bool true))],[],[],[]⟩)
     else some (.exit 0,⟨[(1,.pv (vI k)),(2,.aG 2 0),(5,.pv (vI t.args.length)),(14,.pv (.bool false))],[(2,[.pv (vI t.kind),.pv (.str t.name),.pv (vI t.id),.pv (vI t.home),.pv (.aI (t.args.map Ty.pv))])],[],[]⟩)
 | 0,i,hn,hi=>by
   have:i=t.args.length:=by omega
   subst this;rw [g351L0e];simp [g351B0]
 | n+1,i,hn,hi=>by
   have hi:i<t.args.length:=(by omega);obtain ⟨x,hx⟩:=bD hi;unfold Sm at hS;have c:=h x (bt hx);have ih:=PI hS h n (i+1) (by omega) (by omega);rw [g351L0e] at ih ⊢;rw [cp hx,List.any_cons];cases e:x.jI k with
   | true=>
     rw [e] at c;simp at c;simp (disch:=omega) [-getElem?_pos,g351B0,hx,hi,c]
   | false=>
     rw [e] at c;simp at c;rw [Bool.false_or,←ih];simp (disch:=omega) [-getElem?_pos,g351B0,hx,hi,c,az];rw [g351L0e];simp [g351B0]
theorem c351 {t:Ty} {k:Int} (hO:t.Ok):(aP AP).p 351 [t.pv,vI k]=some [.bool (t.jI k)]:=by
 revert hO
 refine Ty.eU (p:=fun t=>t.Ok→(aP AP).p 351 [t.pv,vI k]=some [.bool (t.jI k)]) ?_ t;intro t ih hO;have h:=PI (k:=k) hO.sm (fun x hx=>ih x hx (hO.g_ x hx)) _ 0 rfl (by omega);rw [aw (af:=g351) rfl rfl (by decide),Ty.Db];rw [g351L0e] at h;by_cases e:t.kind=k
 · simp [g351,e]
 · cases e':t.args.any (Ty.jI k) with
   | true=>simp only [List.drop_zero,e'] at h;simp at h;simp [g351,e,g351L0e,h]
   | false=>simp only [List.drop_zero,e'] at h;simp at h;simp [g351,e,g351L0e,h]
def vr (x:Ty):List Int:=if x.kind=1 then [x.id] else []
def kG (h:Int):Nat→List Ty
 | 0=>[]
 | n+1=>kG h n++[kz h n]
theorem lX (h:Int):∀n,(kG h n).length=n
 | 0=>rfl
 | n+1=>by simp [kG,lX h n]
theorem PJ {T:Ty} {h:Int} {nm:List cS} {q:List AV} (hq7:q=T.cl) (hS:nm.length<1000000000):∀(n i:Nat),nm.length-i=n→i≤nm.length →
   cl AP g327L0 ⟨[(1,.pv (vI h)),(4,.aG 4 0),(5,.aG 5 0),(6,.pv (.aI (nm.map .str))),(7,.aG 7 0),(8,.own ((kG h i).map Ty.pv) 0),(9,.pv (vI i))],
     [(4,[.pv (vI 0),.pv (.str []),.pv (vI 0),.pv (vI 0),.own [] 1]),(5,[.pv (vI 0),.pv (vI 0),.pv (.str []),.pv (vI 0),.pv (vI 0),.own [] 2]),(7,q)],[],[i,0,0]⟩ =
     some (.exit 0,⟨[(1,.pv (vI h)),(4,.aG 4 0),(5,.aG 5 0),(6,.pv (.aI (nm.map .str))),(7,.aG 7 0),(8,.own ((kG h nm.length).map Ty.pv) 0),(9,.pv (vI nm.length)),(18,.pv (.bool false))],
     [(4,[.pv (vI 0),.pv (.str []),.pv (vI 0),.pv (vI 0),.own [] 1]),(5,[.pv (vI 0),.pv (vI 0),.pv (.str []),.pv (vI 0),.pv (vI 0),.own [] 2]),(7,q)],[],[nm.length,0,0]⟩)
 | 0,i,hn,hi=>by
   have:i=nm.length:=by omega
   subst this;have hl:=lX h nm.length;subst hq7;generalize kG h nm.length=R at *;rw [g327L0e];simp [g327B0,hl,Ty.cl]
 | n+1,i,hn,hi=>by
   have hi:i<nm.length:=(by omega);have ih:=PJ (h:=h) hq7 hS n (i+1) (by omega) (by omega);have k:=c71 (n:=h) (m:=i);have hl:=lX h i;have hb:(i+1)*64≤140737488355328:=(by omega);have hr:(kG h (i+1)).map Ty.pv=(kG h i).map Ty.pv++[(kz h i).pv]:=(by simp [kG]);rw [hr] at ih;subst hq7;generalize kG h i=R at *;rw [g327L0e] at ih ⊢;simp [hl,Ty.cl,kz] at ih k;simp (disch:=omega) [-getElem?_pos,g327B0,hi,hl,k,hb,Ty.cl,az];rw [g327L0e];simp [hl,ih]
theorem c327 {S:List cS} (hf:S.length<1000000000) {t:Ty} (hO:t.Ok) (hC:t.Cw) (hk:∀y∈t.gq,y∈S) {h:Int}:(aP AP).p 327 [t.pv,vI h]=some [((t.lW (d_ t)).ml (kG h (d_ t).length)).pv,(As.mk (d_ t).length (t.lW (d_ t))).pv]:=by
 have hcn:=jD.fold (S:=S) (l:=t.gq) (out:=[]) ⟨by simp,by simp,by omega⟩ hk
 have hnl:(d_ t).length<1000000000:=by
   have:=gH hcn.nodup hcn.sub;unfold d_;omega
 have k1:=c196 (S:=S) (by omega) hO hk;have k2:=c198 (l:=d_ t) (by unfold Sm;omega) hO hC;have hbO:=Ci (l:=d_ t) hO;have k3:=c48 (s:=kG h (d_ t).length) (by unfold Sm;rw [lX];omega) hbO;generalize d_ t=nm at *;generalize t.lW nm=T at *;have h4:=PJ (h:=h) (T:=T) (nm:=nm) rfl hnl _ 0 rfl (by omega);generalize kG h nm.length=R at *;generalize T.ml R=U at *;rw [g327L0e] at h4;simp [kG,Ty.cl] at h4;simp at k1 k2 k3;rw [aw (af:=g327) rfl rfl (by decide)];simp [g327,k1,k2,g327L0e,h4,k3]
theorem c325 {S:List cS} (hf:S.length<1000000000) {t:Ty} (hO:t.Ok) (hC:t.Cw) (hk:∀y∈t.gq,y∈S):(aP AP).p 325 [t.pv]=some [((t.lW (d_ t)).ml (kG 98 (d_ t).length)).pv]:=by
 have k:=c327 hf hO hC hk (h:=98);generalize (t.lW (d_ t)).ml (kG 98 (d_ t).length)=U at *;simp at k;rw [aw (af:=g325) rfl rfl (by decide)];simp [g325,k]
theorem PK {vs:List Int} (hv:Sm vs) {t:Ty}:∀(n i:Nat),vs.length-i=n→i≤vs.length→∀acc:List As,acc.length≤i →
   cl AP g363L0 ⟨[(1,.aG 1 0),(2,.aG 2 0),(3,.pv (.aI (vs.map vI))),(4,.own (acc.map As.pv) 0),(5,.pv (vI i))],[(1,tC t),(2,zC 1)],[],[acc.length,0]⟩ =
     some (.exit 0,⟨[(1,.aG 1 0),(2,.aG 2 0),(3,.pv (.aI (vs.map vI))),(4,.own ((acc++(vs.drop i).map fun v=>As.mk v bB).map As.pv) 0),(5,.pv (vI vs.length)),(12,.pv (.bool false))],[(1,tC t),(2,zC 1)],[],[(acc++(vs.drop i).map fun v=>(⟨v,bB⟩:As)).length,0]⟩)
 | 0,i,hn,hi,acc,ha=>by
   have:i=vs.length:=by omega
   subst this;rw [g363L0e];simp [g363B0,tC,zC]
 | n+1,i,hn,hi,acc,ha=>by
   have hi:i<vs.length:=(by omega);obtain ⟨x,hx⟩:=bD hi;unfold Sm at hv;have hb:(acc.length+1)*72≤140737488355328:=(by omega);have k:=c34;have ih:=PK (t:=t) hv n (i+1) (by omega) (by omega) (acc++[⟨x,bB⟩]) (by simp;omega);rw [g363L0e] at ih ⊢;rw [cp hx];simp [tC,zC,bB] at ih k;simp (disch:=omega) [-getElem?_pos,g363B0,tC,zC,bB,hx,hi,k,az,hb];rw [g363L0e];simp [ih]
theorem c363 {S:List Ty} (hf:S.length<1099511627776) (hSo:∀x∈S,x.Ok) {t:Ty} (hG:Good S t):(aP AP).p 363 [t.pv]=some [(t.sub ((vars [t]).map fun v=>As.mk v bB)).pv]:=by
 have k1:=Cb hf hSo (l:=[t]) (by simp [Sm]) (by simpa using hG);have hv:=zm hf (l:=[t]) (by simpa using hG);have h:=PK (t:=t) hv _ 0 rfl (by omega) [] (by simp);have k2:=c46 (s:=(vars [t]).map fun v=>As.mk v bB) (by unfold Sm at *;simpa using hv) hG.ok;generalize vars [t]=vs at *;rw [g363L0e] at h;simp [tC,zC] at h;simp at k1 k2;rw [aw (af:=g363) rfl rfl (by decide)];simp [g363,k1,k2,g363L0e,h]
def gz (k:Nat):List AV:=[.pv (vI 0),.pv (vI 0),.pv (.str []),.pv (vI 0),.pv (vI 0),.own [] k]
end Go.Ab.Lw
