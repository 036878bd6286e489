import Derived.Test.YtcjggpmnbcfedaaGreatDoorCodeA
import Derived.Test.YtcjggpmnbcfedaaGreatDoorAbBridge
import Derived.Test.YtcjggpmnbcfedaaGreatDoorAbForce
import Derived.KernelRfl
/-
  The program's data.
  The makers: what their functions Ji.
  The makers: what their functions Ji.
  The data declarations that programs are made of: what the reader makes of their text.
  The makers: data declarations, chosen by bits.
  The makers: types and substitutions off the tape.
  Types and substitutions: what replaces variables.
  Types: rebuilding with new leaves.
  Types and substitutions: the program's replacing, finding, composing.
  Substitutions: composing; equality of types and of substitutions.
  Chapter 13: the plain laws, and the law that composition composes.
  Chapter 13: equality of substitutions; the laws SubstAssociates and SubstEqual.
  Functions of package slices over any elements.
  Ranges over a slice backward.
  Which types are valid.
  Contexts: their entries; looking names up.
  What the pure data of a parameter looks PN.
  Chapter 3: what its laws make; the laws TypesValid and TypesEqual.
  The variables of types, by the program and by the reference.
  The reference's variables of types; they are the program's.
  Contexts: schemes, adding, hidden entries; what law 19 makes.
  Law 19 makes contexts; the law EnvironLooks.
  The maker of types over any list of data types.
  Correct types in declarations.
  Expressions.
  Raw expressions: what the maker gives.
  The maker of raw expressions.
  slices.DeleteFunc over an array of texts that may be written.
  Arrays of structs in shared memory: their cells one behind the other.
  Expressions: children, the part at a path, and the names that are bound.
  Chapter 3: opening.
  Contexts: their free variables; the law EnvironSeen.
  Types by the kinds of their nodes.
  How many nodes an expression has; expressions whose texts are known.
  Texts of types, by the program (over any table of functions that knows the package show) and by the reference.
  The maker of raw expressions: cases; all depths.
  Texts of expressions: the parts.
  Texts of expressions.
  Texts of expressions: all of them.
  The reference's store of type variables: what it looks PN, bound variables, walks.
  The reference's store: sizes and resolved types.
  The reference's store: resolving, new variables, changes.
  Chapter 13: valid and idempotent substitutions.
  The reference's store: a slot is set.
  The reference's unifier: arrows, rigid constants, variables of a store, joining.
  The reference's store: acyclic stores.
  The reference's store: a finder LA.
  The reference's store: a finder finds every variable that is reached and not bound.
  Expressions: other children.
  The names that are visible at a path.
  Chapter 9: where a constructor is.
  Scopes: the errors of a case itself, by the reference.
  Scopes: the first error of an expression.
  Positions are numbered.
  The reference's store: the variables of a type.
  The reference's unifier: joining two variables.
  The reference's unifier: joining two variables, the walk.
  The reference's unifier: binding a variable, the loops.
  The reference's unifier: binding a variable.
  The reference's unifier: binding a variable, the walk.
  The reference's unifier: ends of walks, the loop over the arguments.
  The reference's unifier.
  The reference's unifier, from outside; marking a variable.
  The search's reference: a variable is marked; new variables bl a store fit.
  Chapter 9: written type variables become quantified ones.
  Chapter 9: the names of written type variables.
  Chapter 9: what its laws make.
  Chapter 9: declarations off the tape.
  Chapter 9: the scheme of a constructor.
  Chapter 9: the first error of a list of declarations, by the program.
  The law DeclareFinds.
  The law DeclareFields.
  The law EnvironSeen.
  Valid schemes: the program's and the reference's answers are one.
  Closing and mono, by the program.
  Signatures of the reference.
  The maker of programs: small parts, 2.
  The maker of programs: the scheme of a let.
  The maker of programs: does an expression have a part of a kind?
  The search's reference: canonical variables.
  The search's reference: a scheme under a substitution; the beginning of a store.
  The search's reference: the beginning of a store, new variables.
  The search's reference: the beginning of a store.
  The search's reference: an element, its new variables.
  The reference's store: kinds of resolved types; a variable becomes an arrow.
-/
set_option linter.unusedVariables false
set_option linter.unusedSimpArgs false
set_option linter.unnecessarySimpa false
set_option maxRecDepth 100000
set_option maxHeartbeats 8000000
namespace Go.Ab.Lw
structure Ty where
 kind:Int
 name:List UInt8
 id:Int
 home:Int
 args:List Ty
 deriving Inhabited
noncomputable instance:DecidableEq Ty:=fun _ _=>Classical.propDecidable _
mutual
def Ty.pv:Ty→PV
 | ⟨k,n,i,h,as⟩=>.agg [.int .i64 k,.str n,.int .i64 i,.int .i64 h,.aE (Ty.dO as)]
def Ty.dO:List Ty→List PV
 | []=>[]
 | a::r=>a.pv::Ty.dO r
end
theorem Ty.o_:∀l:List Ty,Ty.dO l=l.map Ty.pv
 | []=>by simp [Ty.dO]
 | a::r=>by simp [Ty.dO,Ty.o_ r]
@[simp] theorem Ty.mg (t:Ty):t.pv=.agg [.int .i64 t.kind,.str t.name,.int .i64 t.id,.int .i64 t.home,.aE (t.args.map Ty.pv)]:=by
 cases t;simp only [Ty.pv,Ty.o_]
theorem Ty.gg {p:Ty→Prop} (h:∀t:Ty,(∀x∈t.args,p x)→p t):∀t,p t
 | ⟨k,n,i,hm,as⟩=>h _ (fun x _hx=>Ty.gg h x)
termination_by t=>SizeOf.sizeOf t
decreasing_by have:=_root_.List.sizeOf_lt_of_mem _hx;simp at *;omega
structure nc where
 pos:Int
 name:List UInt8
 fields:List Ty
 deriving Inhabited
structure Dt where
 pos:Int
 name:List UInt8
 params:List (List UInt8)
 cons:List nc
 deriving Inhabited
def nc.pv (c:nc):PV:=.agg [.int .i64 c.pos,.str c.name,.aE (c.fields.map Ty.pv)]
def Dt.pv (d:Dt):PV:=.agg [.int .i64 d.pos,.str d.name,.aE (d.params.map .str),.aE (d.cons.map nc.pv)]
@[simp] theorem nc.mg (c:nc):c.pv=.agg [.int .i64 c.pos,.str c.name,.aE (c.fields.map Ty.pv)]:=rfl
@[simp] theorem Dt.mg (d:Dt):d.pv=.agg [.int .i64 d.pos,.str d.name,.aE (d.params.map .str),.aE (d.cons.map nc.pv)]:=rfl
structure As where
 id:Int
 ty:Ty
 deriving Inhabited
def As.pv (a:As):PV:=.agg [.int .i64 a.id,.int .i64 a.ty.kind,.str a.ty.name,.int .i64 a.ty.id,.int .i64 a.ty.home,.aE (a.ty.args.map Ty.pv)]
@[simp] theorem As.mg (a:As):a.pv=.agg [.int .i64 a.id,.int .i64 a.ty.kind,.str a.ty.name,.int .i64 a.ty.id,.int .i64 a.ty.home,.aE (a.ty.args.map Ty.pv)]:=rfl
@[simp] theorem As.eta (t:As):As.mk t.id t.ty=t:=rfl
abbrev vI (n:Int):PV:=.int .i64 n
def tp (L:List Int) (i:Int):Sh:=[some [.pv (.aE (L.map vI)),.pv (vI i)]]
@[simp] theorem Uj (L:List Int) (i:Int):tp L i=[some [.pv (.aE (L.map vI)),.pv (vI i)]]:=rfl
def Sm {α:Type} (l:List α):Prop:=l.length<1099511627776
def UB {α:Type} (l:List α):Prop:=l.length≤9223372036854775807
@[simp] theorem TH (n:Nat):((n:Int)<0)↔False:=by simp
@[simp] theorem Tj (n:Nat):((n:Int)+1<0)↔False:=by simp;omega
theorem cX {α:Type} {l:List α} {i:Nat} {x:α} (h:l[i]?=some x):l.drop i=x::l.drop (i+1):=by
 obtain ⟨hi,rfl⟩:=List.getElem?_eq_some_iff.1 h
 exact List.drop_eq_getElem_cons hi
theorem bM {α:Type} {l:List α} {i:Nat} (h:i<l.length):∃x,l[i]?=some x:=⟨_,List.getElem?_eq_getElem h⟩
theorem bA {α:Type} {l:List α} {i:Nat} {x:α} (h:l[i]?=some x):x∈l:=List.mem_of_getElem? h
theorem RS {α:Type} {l:List α} {i:Nat} (h:l.length≤i):l.drop i=[]:=List.drop_eq_nil_of_le h
end Go.Ab.Lw
namespace Go.Ab.Lw
open Ev
theorem c26 {n m:Int} (h1:1≤m) (h2:m<4611686018427387904):∃r,(aL AP).p 26 [vI n,vI m]=some [vI r]∧0≤r∧r<m:=by
 rw [ah (af:=g26) rfl rfl (by decide)]
 have a1:=Int.tmod_lt_of_pos n (show 0<m by omega)
 have a2:=Int.lt_tmod_of_pos n (show 0<m by omega)
 have e1:¬m<1:=by omega
 have e2:¬m=0:=by omega
 by_cases h:n.tmod m<0
 · refine ⟨n.tmod m+m,?_,by omega,by omega⟩
   simp (disch:=omega) [g26,e1,e2,h,az]
 · refine ⟨n.tmod m,?_,by omega,by omega⟩
   simp [g26,e1,e2,h]
theorem c63 {n:Int}:(aL AP).p 63 [vI n]=some [(Ty.mk 1 [] n 0 []).pv]:=by
 rw [ah (af:=g63) rfl rfl (by decide)]
 simp [g63]
theorem c71 {n m:Int}:(aL AP).p 71 [vI n,vI m]=some [(Ty.mk 3 [] m n []).pv]:=by
 rw [ah (af:=g71) rfl rfl (by decide)]
 simp [g71]
theorem c72 {n:Int}:(aL AP).p 72 [vI n]=some [(Ty.mk 2 [] n 0 []).pv]:=by
 rw [ah (af:=g72) rfl rfl (by decide)]
 simp [g72]
theorem c62 {s:List UInt8} {l:List Ty} (h:Sm l):(aL AP).p 62 [.str s,.aE (l.map Ty.pv)]=some [(Ty.mk 4 s 0 0 l).pv]:=by
 unfold Sm at h
 rw [ah (af:=g62) rfl rfl (by decide)]
 cases l with
 | nil=>simp [g62]
 | cons a r=>
   have:(r.length+1)*64≤140737488355328:=by simp at h;omega
   simp [g62,this]
theorem c34:(aL AP).p 34 []=some [(Ty.mk 4 [73,110,116] 0 0 []).pv]:=by
 rw [ah (af:=g34) rfl rfl (by decide)]
 have h:=c62 (s:=[73,110,116]) (l:=[]) (by simp [Sm])
 simp at h
 simp [g34,h]
theorem c69 {a b:Ty}:(aL AP).p 69 [a.pv,b.pv]=some [(Ty.mk 4 [45,62] 0 0 [a,b]).pv]:=by
 rw [ah (af:=g69) rfl rfl (by decide)]
 have h:=c62 (s:=[45,62]) (l:=[a,b]) (by simp [Sm])
 simp at h
 simp [g69,h]
theorem c15 {l:List Int}:(aL AP).p 15 [.aE (l.map vI)]=some [.bool (decide (l.length≤60))]:=by
 rw [ah (af:=g15) rfl rfl (by decide)]
 simp [g15]
 omega
end Go.Ab.Lw
namespace Go.Ab.Lw
open Ev
def ct (n:Int):Ty:=⟨1,[],n,0,[]⟩
def lf (h n:Int):Ty:=⟨3,[],n,h,[]⟩
def cV (n:Int):Ty:=⟨2,[],n,0,[]⟩
def bu:Ty:=⟨4,[73,110,116],0,0,[]⟩
end Go.Ab.Lw
namespace Go.Ab.Lw
def RU:List UInt8:=[100,97,116,97,32,66,111,111,108,32,61,32,84,114,117,101,32,124,32,70,97,108,115,101,59,32,100,97,116,97,32,79,112,116,105,111,110,32,97,32,61,32,78,111,110,101,32,124,32,83,111,109,101,32,97,59,32,100,97,116,97,32,76,105,115,116,32,97,32,61,32,78,105,108,32,124,32,67,111,110,115,32,97,32,40,76,105,115,116,32,97,41,59,100,97,116,97,32,80,97,105,114,32,97,32,98,32,61,32,80,97,105,114,32,97,32,98,59,32,100,97,116,97,32,78,97,116,32,61,32,90,101,114,111,32,124,32,83,117,99,99,32,78,97,116,59,32,100,97,116,97,32,70,117,110,32,97,32,98,32,61,32,70,117,110,32,40,97,32,45,62,32,98,41,59,32,100,97,116,97,32,84,119,111,32,97,32,61,32,66,111,116,104,32,97,32,97,32,124,32,79,110,101,32,40,79,112,116,105,111,110,32,97,41,59]
def OX:List PV:=[.aE [.agg [.int .i64 4,.str [100,97,116,97],.int .i64 0],.agg [.int .i64 2,.str [66,111,111,108],.int .i64 5],.agg [.int .i64 5,.str [61],.int .i64 10],.agg [.int .i64 2,.str [84,114,117,101],.int .i64 12],.agg [.int .i64 5,.str [124],.int .i64 17],.agg [.int .i64 2,.str [70,97,108,115,101],.int .i64 19],.agg [.int .i64 5,.str [59],.int .i64 24],.agg [.int .i64 4,.str [100,97,116,97],.int .i64 26],.agg [.int .i64 2,.str [79,112,116,105,111,110],.int .i64 31],.agg [.int .i64 1,.str [97],.int .i64 38],.agg [.int .i64 5,.str [61],.int .i64 40],.agg [.int .i64 2,.str [78,111,110,101],.int .i64 42],.agg [.int .i64 5,.str [124],.int .i64 47],.agg [.int .i64 2,.str [83,111,109,101],.int .i64 49],.agg [.int .i64 1,.str [97],.int .i64 54],.agg [.int .i64 5,.str [59],.int .i64 55],.agg [.int .i64 4,.str [100,97,116,97],.int .i64 57],.agg [.int .i64 2,.str [76,105,115,116],.int .i64 62],.agg [.int .i64 1,.str [97],.int .i64 67],.agg [.int .i64 5,.str [61],.int .i64 69],.agg [.int .i64 2,.str [78,105,108],.int .i64 71],.agg [.int .i64 5,.str [124],.int .i64 75],.agg [.int .i64 2,.str [67,111,110,115],.int .i64 77],.agg [.int .i64 1,.str [97],.int .i64 82],.agg [.int .i64 5,.str [40],.int .i64 84],.agg [.int .i64 2,.str [76,105,115,116],.int .i64 85],.agg [.int .i64 1,.str [97],.int .i64 90],.agg [.int .i64 5,.str [41],.int .i64 91],.agg [.int .i64 5,.str [59],.int .i64 92],.agg [.int .i64 4,.str [100,97,116,97],.int .i64 93],.agg [.int .i64 2,.str [80,97,105,114],.int .i64 98],.agg [.int .i64 1,.str [97],.int .i64 103],.agg [.int .i64 1,.str [98],.int .i64 105],.agg [.int .i64 5,.str [61],.int .i64 107],.agg [.int .i64 2,.str [80,97,105,114],.int .i64 109],.agg [.int .i64 1,.str [97],.int .i64 114],.agg [.int .i64 1,.str [98],.int .i64 116],.agg [.int .i64 5,.str [59],.int .i64 117],.agg [.int .i64 4,.str [100,97,116,97],.int .i64 119],.agg [.int .i64 2,.str [78,97,116],.int .i64 124],.agg [.int .i64 5,.str [61],.int .i64 128],.agg [.int .i64 2,.str [90,101,114,111],.int .i64 130],.agg [.int .i64 5,.str [124],.int .i64 135],.agg [.int .i64 2,.str [83,117,99,99],.int .i64 137],.agg [.int .i64 2,.str [78,97,116],.int .i64 142],.agg [.int .i64 5,.str [59],.int .i64 145],.agg [.int .i64 4,.str [100,97,116,97],.int .i64 147],.agg [.int .i64 2,.str [70,117,110],.int .i64 152],.agg [.int .i64 1,.str [97],.int .i64 156],.agg [.int .i64 1,.str [98],.int .i64 158],.agg [.int .i64 5,.str [61],.int .i64 160],.agg [.int .i64 2,.str [70,117,110],.int .i64 162],.agg [.int .i64 5,.str [40],.int .i64 166],.agg [.int .i64 1,.str [97],.int .i64 167],.agg [.int .i64 5,.str [45,62],.int .i64 169],.agg [.int .i64 1,.str [98],.int .i64 172],.agg [.int .i64 5,.str [41],.int .i64 173],.agg [.int .i64 5,.str [59],.int .i64 174],.agg [.int .i64 4,.str [100,97,116,97],.int .i64 176],.agg [.int .i64 2,.str [84,119,111],.int .i64 181],.agg [.int .i64 1,.str [97],.int .i64 185],.agg [.int .i64 5,.str [61],.int .i64 187],.agg [.int .i64 2,.str [66,111,116,104],.int .i64 189],.agg [.int .i64 1,.str [97],.int .i64 194],.agg [.int .i64 1,.str [97],.int .i64 196],.agg [.int .i64 5,.str [124],.int .i64 198],.agg [.int .i64 2,.str [79,110,101],.int .i64 200],.agg [.int .i64 5,.str [40],.int .i64 204],.agg [.int .i64 2,.str [79,112,116,105,111,110],.int .i64 205],.agg [.int .i64 1,.str [97],.int .i64 212],.agg [.int .i64 5,.str [41],.int .i64 213],.agg [.int .i64 5,.str [59],.int .i64 214]],.agg [.int .i64 0,.int .i64 0]]
def bU:List Dt:=[⟨0,[66,111,111,108],[],[⟨12,[84,114,117,101],[]⟩,⟨19,[70,97,108,115,101],[]⟩]⟩,
 ⟨26,[79,112,116,105,111,110],[[97]],[⟨42,[78,111,110,101],[]⟩,⟨49,[83,111,109,101],[⟨5,[97],0,0,[]⟩]⟩]⟩,
 ⟨57,[76,105,115,116],[[97]],[⟨71,[78,105,108],[]⟩,⟨77,[67,111,110,115],[⟨5,[97],0,0,[]⟩,⟨4,[76,105,115,116],0,0,[⟨5,[97],0,0,[]⟩]⟩]⟩]⟩,
 ⟨93,[80,97,105,114],[[97],[98]],[⟨109,[80,97,105,114],[⟨5,[97],0,0,[]⟩,⟨5,[98],0,0,[]⟩]⟩]⟩,
 ⟨119,[78,97,116],[],[⟨130,[90,101,114,111],[]⟩,⟨137,[83,117,99,99],[⟨4,[78,97,116],0,0,[]⟩]⟩]⟩,
 ⟨147,[70,117,110],[[97],[98]],[⟨162,[70,117,110],[⟨4,[45,62],0,0,[⟨5,[97],0,0,[]⟩,⟨5,[98],0,0,[]⟩]⟩]⟩]⟩,
 ⟨176,[84,119,111],[[97]],[⟨189,[66,111,116,104],[⟨5,[97],0,0,[]⟩,⟨5,[97],0,0,[]⟩]⟩,⟨200,[79,110,101],[⟨4,[79,112,116,105,111,110],0,0,[⟨5,[97],0,0,[]⟩]⟩]⟩]⟩]
theorem RV:(aL AP).p 118 [.str RU]=some OX:=Fc.NT (k:=400) (n:=20) (by kernel_rfl)
def Uk (g:Nat) (x:List PV):Option (List PV):=match g,x with
 | 118,[.str s]=>if s=RU then some OX else none
 | _,_=>none
theorem Qg:∀g x r,Uk g x=some r→(aL AP).p g x=some r:=by
 intro g x r h
 unfold Uk at h
 split at h
 · split at h
   · rename_i e;subst e;cases h;exact RV
   · cases h
 · cases h
theorem c79:(aL AP).p 79 []=some [.aE (bU.map Dt.pv)]:=Fc.RF (k:=400) (n:=40) Qg (by kernel_rfl)
end Go.Ab.Lw
namespace Go.Ab.Lw
open Ev
@[simp] theorem Q0 {l:List Dt}:bF 4 (l.map Dt.pv)=true:=by cases l<;>simp
@[simp] theorem Q1 {l:List Ty}:bF 5 (l.map Ty.pv)=true:=by cases l<;>simp
@[simp] theorem Q2 {l:List As}:bF 6 (l.map As.pv)=true:=by cases l<;>simp
theorem LB {n:Int} (h1:0≤n) (h2:n<18446744073709551616):IntKind.u64.wrap n=n:=by
 simp [IntKind.wrap,IntKind.bits,IntKind.signed]
 omega
def RW (bits:Int) (ds:List Dt):Option (bo×St):=
 some (.exit 0,⟨[(0,.pv (vI bits)),(3,.pv (.aE (bU.map Dt.pv))),(4,.own (ds.map Dt.pv) 0),(5,.pv (vI 7)),(24,.pv (.bool false))],[],[],[ds.length]⟩)
theorem Tl (bits:Int):∀(n i:Nat),7-i=n→i≤7→∀acc:List Dt,(∀d∈acc,d∈bU)→acc.length≤1+i →
   ∃ds:List Dt,cl AP g32L0 ⟨[(0,.pv (vI bits)),(3,.pv (.aE (bU.map Dt.pv))),(4,.own (acc.map Dt.pv) 0),(5,.pv (vI i))],[],[],[acc.length]⟩=RW bits ds ∧
     (∀d∈ds,d∈bU)∧ds.length≤8
 | 0,i,hn,hi,acc,ha,hl=>by
   have:i=7:=by omega
   subst this
   refine ⟨acc,?_,ha,by omega⟩
   rw [g32L0e]
   have h7:bU.length=7:=rfl
   simp [g32B0,h7,RW]
 | n+1,i,hn,hi,acc,ha,hl=>by
   have h7:bU.length=7:=rfl
   have hi:i<7:=by omega
   obtain ⟨x,hx⟩:=bM (l:=bU) (i:=i) (by omega)
   have hb:(acc.length+1)*72≤140737488355328:=by omega
   obtain ⟨d1,e1,m1,l1⟩:=Tl bits n (i+1) (by omega) (by omega) (acc++[x]) (by
     intro d hd;simp at hd;rcases hd with hd | rfl
     · exact ha d hd
     · exact bA hx) (by simp;omega)
   obtain ⟨d2,e2,m2,l2⟩:=Tl bits n (i+1) (by omega) (by omega) acc ha (by omega)
   simp at e1 e2
   have hi':(i:Int)<7:=by omega
   have key:∀S,S=cl AP g32L0 ⟨[(0,.pv (vI bits)),(3,.pv (.aE (bU.map Dt.pv))),(4,.own (acc.map Dt.pv) 0),(5,.pv (vI i))],[],[],[acc.length]⟩→S=RW bits d1∨S=RW bits d2:=by
     intro S hS
     rw [g32L0e] at hS
     simp (disch:=omega) [-getElem?_pos,g32B0,h7,hi',hx,az,LB,hb,e1,e2] at hS
     subst hS
     (repeat' split)<;>simp
   rcases key _ rfl with h | h
   · exact ⟨d1,h,m1,l1⟩
   · exact ⟨d2,h,m2,l2⟩
theorem c32 (bits:Int):∃ds:List Dt,(aL AP).p 32 [vI bits]=some [.aE (ds.map Dt.pv)]∧(∀d∈ds,d∈bU)∧ds.length≤8:=by
 have hp:=c79
 have h7:bU.length=7:=rfl
 obtain ⟨x,hx⟩:=bM (l:=bU) (i:=1) (by decide)
 obtain ⟨d1,e1,m1,l1⟩:=Tl bits 7 0 rfl (by omega) [x] (by intro d hd;simp at hd;subst hd;exact bA hx) (by simp)
 obtain ⟨d2,e2,m2,l2⟩:=Tl bits 7 0 rfl (by omega) [] (by simp) (by simp)
 rw [g32L0e] at e1 e2
 simp at e1 e2
 have key:∀S,S=(aL AP).p 32 [vI bits]→S=some [.aE (d1.map Dt.pv)]∨S=some [.aE (d2.map Dt.pv)]:=by
   intro S hS
   rw [ah (af:=g32) rfl rfl (by decide)] at hS
   simp [-getElem?_pos,g32,hp,g32L0e,hx,e1,e2,RW] at hS
   subst hS
   (repeat' split)<;>simp
 rcases key _ rfl with h | h
 · exact ⟨d1,h,m1,l1⟩
 · exact ⟨d2,h,m2,l2⟩
end Go.Ab.Lw
namespace Go.Ab.Lw
open Ev
inductive Made (lv:Ty→Prop):Ty→Prop
 | leaf {t:Ty}:lv t→Made lv t
 | int:Made lv bu
 | gU {d:Dt} {args:List Ty}:d∈bU→args.length=d.params.length→(∀x∈args,Made lv x)→Made lv ⟨4,d.name,0,0,args⟩
 | arrow {a b:Ty}:Made lv a→Made lv b→Made lv ⟨4,[45,62],0,0,[a,b]⟩
def Ty.av (t:Ty):AV:=.agg [.pv (vI t.kind),.pv (.str t.name),.pv (vI t.id),.pv (vI t.home),.pv (.aE (t.args.map Ty.pv))]
@[simp] theorem Ty.Ul (t:Ty):t.av=.agg [.pv (vI t.kind),.pv (.str t.name),.pv (vI t.id),.pv (vI t.home),.pv (.aE (t.args.map Ty.pv))]:=rfl
def uK (L:List Int) (ds:List Dt) (lv:List Ty) (dep:Nat):Prop:=∀i:Nat,i≤L.length→∃(t:Ty) (j:Nat),
 (aL AP).i 27 [.aZ 0 0,.pv (.aE (ds.map Dt.pv)),.pv (.aE (lv.map Ty.pv)),.pv (vI dep)] (tp L i) []=some ([t.av],tp L j,[])∧Made (·∈lv) t∧j≤L.length
theorem nY {r:Int} {n:Nat} (h0:0≤r) (h1:r<n):∃m:Nat,r=m∧m<n:=⟨r.toNat,by omega,by omega⟩
end Go.Ab.Lw
namespace Go.Ab.Lw
open Ev
inductive Ty.Ok:Ty→Prop
 | mk {t:Ty}:Sm t.args→(∀x∈t.args,Ty.Ok x)→Ty.Ok t
theorem Ty.Ok.sm {t:Ty} (h:t.Ok):Sm t.args:=by cases h;assumption
theorem Ty.Ok.iv {t:Ty} (h:t.Ok):∀x∈t.args,x.Ok:=by cases h;assumption
inductive Ty.Wf:Ty→Prop
 | mk {t:Ty}:(t.kind=1→t.args=[])→(∀x∈t.args,Ty.Wf x)→Ty.Wf t
theorem Ty.Wf.var {t:Ty} (h:t.Wf):t.kind=1→t.args=[]:=by cases h;assumption
theorem Ty.Wf.iv {t:Ty} (h:t.Wf):∀x∈t.args,x.Wf:=by cases h;assumption
def lg:List As→Int→Option Ty
 | [],_=>none
 | a::r,id=>if a.id=id then some a.ty else lg r id
mutual
def Ty.sub (s:List As):Ty→Ty
 | ⟨k,n,i,h,as⟩=>if k=1 then (lg s i).getD ⟨k,n,i,h,as⟩ else ⟨k,n,i,h,Ty.LC s as⟩
def Ty.LC (s:List As):List Ty→List Ty
 | []=>[]
 | a::r=>a.sub s::Ty.LC s r
end
theorem Ty.Al (s:List As):∀l:List Ty,Ty.LC s l=l.map (Ty.sub s)
 | []=>by simp [Ty.LC]
 | a::r=>by simp [Ty.LC,Ty.Al s r]
theorem Ty.sub_eq (s:List As) (t:Ty):t.sub s=if t.kind=1 then (lg s t.id).getD t else ⟨t.kind,t.name,t.id,t.home,t.args.map (Ty.sub s)⟩:=by
 cases t;simp only [Ty.sub,Ty.Al]
def LD (s:List As) (t:Ty):Option Ty→Option (bo×St)
 | some a=>some (.ret,⟨[(4,.aB 4 0)],[(4,[.pv (vI a.kind),.pv (.str a.name),.pv (vI a.id),.pv (vI a.home),.pv (.aE (a.args.map Ty.pv))])],[],[0]⟩)
 | none=>some (.exit 0,⟨[(1,.pv (.aE (s.map As.pv))),(2,.aB 2 0),(4,.aB 4 0),(5,.pv (vI s.length)),(14,.pv (.bool false))],
     [(2,[.pv (vI t.kind),.pv (.str t.name),.pv (vI t.id),.pv (vI t.home),.pv (.aE (t.args.map Ty.pv))]),(4,[.pv (vI 0),.pv (.str []),.pv (vI 0),.pv (vI 0),.own [] 0])],[],[0]⟩)
theorem RX {s:List As} (hS:Sm s) (t:Ty):∀(n i:Nat),s.length-i=n→i≤s.length →
   cl AP g46L0 ⟨[(1,.pv (.aE (s.map As.pv))),(2,.aB 2 0),(4,.aB 4 0),(5,.pv (vI i))],
     [(2,[.pv (vI t.kind),.pv (.str t.name),.pv (vI t.id),.pv (vI t.home),.pv (.aE (t.args.map Ty.pv))]),(4,[.pv (vI 0),.pv (.str []),.pv (vI 0),.pv (vI 0),.own [] 0])],[],[0]⟩=LD s t (lg (s.drop i) t.id)
 | 0,i,hn,hi=>by
   have:i=s.length:=by omega
   subst this
   rw [g46L0e]
   simp [g46B0,lg,LD]
 | n+1,i,hn,hi=>by
   have hi:i<s.length:=by omega
   obtain ⟨x,hx⟩:=bM hi
   unfold Sm at hS
   have ih:=RX hS t n (i+1) (by omega) (by omega)
   simp at ih
   rw [g46L0e,cX hx]
   by_cases e:x.id=t.id
   · simp (disch:=omega) [-getElem?_pos,g46B0,hx,hi,e,lg,LD]
   · simp (disch:=omega) [-getElem?_pos,g46B0,hx,hi,e,lg,az,ih]
theorem RY {s:List As} {t:Ty} (hS:Sm t.args) (h:∀x∈t.args,(aL AP).p 46 [x.pv,.aE (s.map As.pv)]=some [(x.sub s).pv]):∀(n i:Nat),t.args.length-i=n→i≤t.args.length→∀acc:List Ty,acc=(t.args.take i).map (Ty.sub s) →
   cl AP g46L1 ⟨[(1,.pv (.aE (s.map As.pv))),(2,.aB 2 0),(4,.aB 4 0),(6,.aB 6 0),(7,.pv (vI i))],
     [(2,[.pv (vI t.kind),.pv (.str t.name),.pv (vI t.id),.pv (vI t.home),.pv (.aE (t.args.map Ty.pv))]),(4,[.pv (vI 0),.pv (.str []),.pv (vI 0),.pv (vI 0),.own [] 0]),
       (6,[.pv (vI t.kind),.pv (.str t.name),.pv (vI t.id),.pv (vI t.home),.own (acc.map Ty.pv) 1])],[],[0,acc.length]⟩ =
     some (.exit 2,⟨[(1,.pv (.aE (s.map As.pv))),(2,.aB 2 0),(4,.aB 4 0),(6,.aB 6 0),(7,.pv (vI t.args.length)),(37,.pv (.bool false))],
     [(2,[.pv (vI t.kind),.pv (.str t.name),.pv (vI t.id),.pv (vI t.home),.pv (.aE (t.args.map Ty.pv))]),(4,[.pv (vI 0),.pv (.str []),.pv (vI 0),.pv (vI 0),.own [] 0]),
       (6,[.pv (vI t.kind),.pv (.str t.name),.pv (vI t.id),.pv (vI t.home),.own ((t.args.map (Ty.sub s)).map Ty.pv) 1])],[],[0,t.args.length]⟩)
 | 0,i,hn,hi,acc,ha=>by
   have:i=t.args.length:=by omega
   subst this
   subst ha
   rw [g46L1e]
   simp [g46B1]
 | n+1,i,hn,hi,acc,ha=>by
   have hi:i<t.args.length:=by omega
   obtain ⟨x,hx⟩:=bM hi
   unfold Sm at hS
   have hb:(acc.length+1)*64≤140737488355328:=by subst ha;simp;omega
   have hc:=h x (bA hx)
   have ih:=RY hS h n (i+1) (by omega) (by omega) (acc++[x.sub s]) (by rw [List.take_add_one,hx,ha];simp)
   rw [g46L1e] at ih ⊢
   simp at ih hc
   simp (disch:=omega) [-getElem?_pos,g46B1,hx,hi,hc,hb,az]
   rw [g46L1e]
   simp [ih]
theorem c46 {s:List As} (hS:Sm s) {t:Ty} (hO:t.Ok):(aL AP).p 46 [t.pv,.aE (s.map As.pv)]=some [(t.sub s).pv]:=by
 revert hO
 refine Ty.gg (p:=fun t=>t.Ok→(aL AP).p 46 [t.pv,.aE (s.map As.pv)]=some [(t.sub s).pv]) ?_ t
 intro t ih hO
 rw [ah (af:=g46) rfl rfl (by decide)]
 by_cases hk:t.kind=1
 · have h:=RX hS t _ 0 rfl (by omega)
   rw [g46L0e] at h
   simp at h
   cases hf:lg s t.id with
   | none=>
     rw [hf] at h
     simp [LD,hk] at h
     simp [g46,hk,g46L0e,h,Ty.sub_eq,hf]
   | some a=>
     rw [hf] at h
     simp [LD,hk] at h
     simp [g46,hk,g46L0e,h,Ty.sub_eq,hf]
 · have h:=RY (s:=s) hO.sm (fun x hx=>ih x hx (hO.iv x hx)) _ 0 rfl (by omega) [] (by simp)
   rw [g46L1e] at h
   simp at h
   simp [g46,hk,g46L1e,h,Ty.sub_eq]
end Go.Ab.Lw
namespace Go.Ab.Lw
open Ev
def bN (sh:Sh):Prop:=∀cs,some cs∈sh→∀v∈cs,∃p,v=AV.pv p
theorem tE {aQ ts:aH}:∀{cs:List AV},(∀v∈cs,∃p,v=AV.pv p)→bI aQ ts cs=(cs,aQ,ts)
 | [],_=>rfl
 | v::r,h=>by
   obtain ⟨p,rfl⟩:=h v (by simp)
   simp only [sT,ze,tE (cs:=r) (fun v hv=>h v (by simp [hv]))]
theorem bN.norm:∀{sh:Sh},bN sh→∀aQ ts,cf aQ ts sh=(sh,aQ,ts)
 | [],_,_,_=>rfl
 | none::sh,h,aQ,ts=>by
   simp only [sU,bN.norm (sh:=sh) (fun cs hc=>h cs (by simp [hc]))]
 | some cs::sh,h,aQ,ts=>by
   simp only [sV,tE (h cs (by simp)),bN.norm (sh:=sh) (fun cs hc=>h cs (by simp [hc]))]
theorem p7 {n:Nat}:∀{cs:List AV},(∀v∈cs,∃p,v=AV.pv p)→cs.map (cM n)=cs
 | [],_=>rfl
 | v::r,h=>by
   obtain ⟨p,rfl⟩:=h v (by simp)
   simp only [List.map_cons,vg,p7 (cs:=r) (fun v hv=>h v (by simp [hv]))]
theorem bN.shift:∀{sh:Sh},bN sh→∀n,ix n sh=sh
 | [],_,_=>rfl
 | none::sh,h,n=>by
   simp only [qO,bN.shift (sh:=sh) (fun cs hc=>h cs (by simp [hc]))]
 | some cs::sh,h,n=>by
   simp only [qP,p7 (h cs (by simp)),bN.shift (sh:=sh) (fun cs hc=>h cs (by simp [hc]))]
theorem bN.app {a b:Sh} (ha:bN a) (hb:bN b):bN (a++b):=by
 intro cs hc
 simp only [List.mem_append] at hc
 rcases hc with hc | hc
 · exact ha cs hc
 · exact hb cs hc
theorem bN.one {cs:List AV} (h:∀v∈cs,∃p,v=AV.pv p):bN [some cs]:=by
 intro cs' hc
 simp at hc
 subst hc
 exact h
def Ty.cl (t:Ty):List AV:=[.pv (vI t.kind),.pv (.str t.name),.pv (vI t.id),.pv (vI t.home),.pv (.aE (t.args.map Ty.pv))]
def Tm:List AV:=[.pv (vI 0),.pv (.str []),.pv (vI 0),.pv (vI 0),.pv (.aE [])]
def kh (d:List Ty) (m:Nat):List AV:=d.flatMap Ty.cl++(List.replicate m Tm).flatten
theorem LF {d:List Ty}:(d.flatMap Ty.cl).length=d.length*5:=by
 induction d with
 | nil=>rfl
 | cons a r ih=>simp [ih,Ty.cl,Nat.add_mul]
theorem NZ {m:Nat}:((List.replicate m Tm).flatten).length=m*5:=by
 simp [Tm]
theorem Am {d:List Ty} {m:Nat}:(kh d m).length=(d.length+m)*5:=by
 simp only [kh,List.length_append,LF,NZ,Nat.add_mul]
theorem xx {d:List Ty} {m:Nat}:∀v∈kh d m,∃p,v=AV.pv p:=by
 intro v hv
 simp only [kh,List.mem_append,List.mem_flatMap,List.mem_flatten,List.mem_replicate] at hv
 rcases hv with ⟨t,_,hv⟩ | ⟨l,⟨_,rfl⟩,hv⟩
 · simp [Ty.cl] at hv
   rcases hv with rfl | rfl | rfl | rfl | rfl<;>exact ⟨_,rfl⟩
 · simp [Tm] at hv
   rcases hv with rfl | rfl | rfl | rfl | rfl<;>exact ⟨_,rfl⟩
theorem eK {l:List AV} (h:∀v∈l,∃p,v=.pv p):c_ l=false:=by
 cases l with
 | nil=>rfl
 | cons c r=>obtain ⟨p,rfl⟩:=h c (by simp);rfl
@[simp] theorem Q3 {d:List Ty} {m:Nat}:c_ (kh d m)=false:=eK xx
theorem LG {a b:List AV} {x y:List PV} (ha:fG a=some x) (hb:fG b=some y):fG (a++b)=some (x++y):=by
 induction a generalizing x with
 | nil=>simp at ha;subst ha;exact hb
 | cons v r ih=>
   simp only [pR] at ha
   simp only [List.cons_append,pR]
   cases h1:ky v with
   | none=>rw [h1] at ha;cases ha
   | some p=>
     cases h2:fG r with
     | none=>rw [h1,h2] at ha;cases ha
     | some q=>
       rw [h1,h2] at ha
       simp at ha
       subst ha
       rw [ih h2];rfl
theorem LH:∀{d:List Ty},((fG (kh d 0)).bind (fh 5 true d.length)).map PV.aE=some (.aE (d.map Ty.pv)):=by
 have key:∀d:List Ty,∃ps,fG (d.flatMap Ty.cl)=some ps∧(chunk 5 d.length ps).map PV.agg=d.map Ty.pv:=by
   intro d
   induction d with
   | nil=>exact ⟨[],rfl,rfl⟩
   | cons t r ih=>
     obtain ⟨ps,h1,h2⟩:=ih
     refine ⟨[vI t.kind,.str t.name,vI t.id,vI t.home,.aE (t.args.map Ty.pv)]++ps,?_,?_⟩
     · rw [List.flatMap_cons]
       exact LG (by simp [Ty.cl]) h1
     · simp only [List.length_cons,chunk]
       simp [h2]
 intro d
 obtain ⟨ps,h1,h2⟩:=key d
 have:kh d 0=d.flatMap Ty.cl:=by simp [kh]
 rw [this,h1]
 simp only [Option.bind_some,fh,if_true,Option.map_some,h2]
end Go.Ab.Lw
namespace Go.Ab.Lw
open Ev
theorem c22 {s:List As} (hS:Sm s) {t:Ty} (hO:t.Ok):(aL AP).p 22 [.aE (s.map As.pv),t.pv]=some [(t.sub s).pv]:=by
 have h:=c46 hS hO
 simp at h
 rw [ah (af:=g22) rfl rfl (by decide)]
 simp [g22,h]
end Go.Ab.Lw
namespace Go.Ab.Lw
open Ev
noncomputable instance:DecidableEq As:=fun _ _=>Classical.propDecidable _
theorem Um {as bs:List Ty} (hS:Sm as) (hl:as.length=bs.length) (h:∀x∈as,∀y,(aL AP).p 20 [x.pv,y.pv]=some [.bool (decide (x=y))]):∀(n i:Nat),as.length-i=n→i≤as.length →
   cl AP g57L0 ⟨[(0,.pv (.aE (as.map Ty.pv))),(1,.pv (.aE (bs.map Ty.pv))),(5,.pv (.int .i64 i))],[],[],[]⟩ =
     if as.drop i=bs.drop i then some (.exit 0,⟨[(0,.pv (.aE (as.map Ty.pv))),(1,.pv (.aE (bs.map Ty.pv))),(5,.pv (.int .i64 as.length)),(14,.pv (.bool false))],[],[],[]⟩)
     else some (.ret,⟨[(4,.pv (.bool false))],[],[],[]⟩)
 | 0,i,hn,hi=>by
   have:i=as.length:=by omega
   subst this
   rw [g57L0e]
   simp [g57B0,hl]
 | n+1,i,hn,hi=>by
   have hi:i<as.length:=by omega
   obtain ⟨x,hx⟩:=bM hi
   obtain ⟨y,hy⟩:=bM (hl ▸ hi)
   have hc:=h x (bA hx) y
   simp at hc
   rw [g57L0e,cX hx,cX hy]
   unfold Sm at hS
   have ih:=Um hS hl h n (i+1) (by omega) (by omega)
   simp at ih
   simp (disch:=omega) [-getElem?_pos,g57B0,hx,hy,hi,hc,az,ih]
   by_cases e:x=y<;>simp [e]
theorem c57 {as bs:List Ty} (hS:Sm as) (h:∀x∈as,∀y,(aL AP).p 20 [x.pv,y.pv]=some [.bool (decide (x=y))]) :
   (aL AP).p 57 [.aE (as.map Ty.pv),.aE (bs.map Ty.pv)]=some [.bool (decide (as=bs))]:=by
 rw [ah (af:=g57) rfl rfl (by decide)]
 by_cases hl:as.length=bs.length
 · have hL:=Um hS hl h _ 0 rfl (by omega)
   simp at hL
   simp [g57,hl,hL]
   by_cases e:as=bs<;>simp [e]
 · have:¬as=bs:=fun e=>hl (by rw [e])
   simp [g57,hl,this]
   omega
theorem c20 {a b:Ty} (hO:a.Ok):(aL AP).p 20 [a.pv,b.pv]=some [.bool (decide (a=b))]:=by
 revert b hO
 refine Ty.gg (p:=fun a=>∀{b:Ty},a.Ok→(aL AP).p 20 [a.pv,b.pv]=some [.bool (decide (a=b))]) ?_ a
 intro a ih b hO
 have h:=c57 (bs:=b.args) hO.sm (fun x hx y=>ih x hx (hO.iv x hx))
 rw [ah (af:=g20) rfl rfl (by decide)]
 simp [g20,h]
 cases a;cases b
 simp
 (repeat' split)<;>simp_all
end Go.Ab.Lw
namespace Go.Ab.Lw
open Ev
theorem mY:∀{s:List As} {id:Int} {t:Ty},lg s id=some t→∃a∈s,a.ty=t
 | a::r,id,t,h=>by
   simp only [lg] at h
   split at h
   · cases h;exact ⟨a,by simp,rfl⟩
   · obtain ⟨b,hb,e⟩:=mY h;exact ⟨b,by simp [hb],e⟩
theorem DY {s:List As} (hs:∀a∈s,a.ty.Ok) {t:Ty} (h:t.Ok):(t.sub s).Ok:=by
 revert h
 refine Ty.gg (p:=fun t=>t.Ok→(t.sub s).Ok) ?_ t
 intro t ih h
 rw [Ty.sub_eq]
 split
 · cases hf:lg s t.id with
   | none=>simpa using h
   | some a=>obtain ⟨b,hb,rfl⟩:=mY hf;simpa using hs b hb
 · refine ⟨by have:=h.sm;unfold Sm at *;simpa using this,?_⟩
   intro x hx
   simp at hx
   obtain ⟨y,hy,rfl⟩:=hx
   exact ih y hy (h.iv y hy)
theorem xy:∀{a b:List As} {id:Int},lg (a++b) id=(lg a id).or (lg b id)
 | [],b,id=>by simp [lg]
 | x::a,b,id=>by
   simp only [List.cons_append,lg]
   split
   · rfl
   · exact xy
end Go.Ab.Lw
namespace Go.Ab.Lw
open Ev
def gL {α:Type} (p:α→Bool):List α→Option Nat
 | []=>none
 | a::r=>if p a=true then some 0 else (gL p r).map (·+1)
theorem mZ {α:Type} {p:α→Bool}:∀{l:List α},gL p l=none↔∀x∈l,p x=false
 | []=>by simp [gL]
 | a::r=>by
   simp only [gL]
   by_cases h:p a=true
   · simp [h]
   · have h:p a=false:=by simpa using h
     simp [h,mZ]
end Go.Ab.Lw
namespace Go.Ab.Lw
open Ev
structure El {α:Type} (f:α→PV) (sz:Nat) (ag:Bool):Prop where
 len:∀x,(bq (f x)).length=sz
 of:∀x,da ag sz (bq (f x))=some (.pv (f x))
theorem El.head {α:Type} {f:α→PV} {sz:Nat} {ag:Bool} (h:El f sz ag) (l:List α):bF sz (l.map f)=true:=by
 cases l with
 | nil=>rfl
 | cons x r=>simp [bF,h.len x]
theorem p8:El vI 1 false:=⟨fun _=>rfl,fun _=>rfl⟩
theorem Qh:El PV.str 1 false:=⟨fun _=>rfl,fun _=>rfl⟩
theorem EN:El Ty.pv 5 true:=⟨fun x=>by simp,fun x=>by simp⟩
def UC {α:Type} (f:α→PV) (F:AV) (s:List α) (sh:Sh) (i:Nat):Option Nat→Option (bo×St)
 | some k=>some (.ret,⟨[(4,.pv (vI (i+k:Nat)))],[],sh,[]⟩)
 | none=>some (.exit 0,⟨[(0,.pv (.aE (s.map f))),(1,F),(7,.pv (vI s.length)),(8,.pv (vI s.length)),(9,.pv (.bool false))],[],sh,[]⟩)
def IA (o:Option Nat):Int:=match o with | some k=>k | none=>-1
theorem LI {α:Type} {p:α→Bool} {s:List α}:decide (0≤IA (gL p s))=s.any p:=by
 cases hi:gL p s with
 | none=>
   have:s.any p=false:=by rw [List.any_eq_false];intro x hx;rw [mZ.1 hi x hx];simp
   rw [this];rfl
 | some k=>
   have:s.any p=true:=by
     cases e:s.any p with
     | true=>rfl
     | false=>rw [List.any_eq_false] at e;have:=mZ.2 (fun x hx=>by simpa using e x hx);rw [hi] at this;cases this
   rw [this];simp [IA]
end Go.Ab.Lw
namespace Go.Ab.Lw
open Ev
def DZ (f:St→Option (bo×St)) (live:List Nat) (pi px sz:Nat) (ag:Bool) (env:List (Nat×AV)) (r:List (PV×Nat)):Option (bo×St)→Option (bo×St)
 | some (.normal,st')=>jj f live pi px sz ag env r st'
 | some (e,st')=>some (e,{ st' with env:=env })
 | none=>none
@[simp] theorem MB {f:St→Option (bo×St)} {live:List Nat} {pi px sz:Nat} {ag:Bool} {env:List (Nat×AV)} {r:List (PV×Nat)} {st:St}:DZ f live pi px sz ag env r (some (.normal,st))=jj f live pi px sz ag env r st:=rfl
@[simp] theorem Qi {f:St→Option (bo×St)} {live:List Nat} {pi px sz:Nat} {ag:Bool} {env e:List (Nat×AV)} {r:List (PV×Nat)} {mem:List (Nat×List AV)} {sh:Sh} {ae:aH}:DZ f live pi px sz ag env r (some (.ret,⟨e,mem,sh,ae⟩))=some (.ret,⟨env,mem,sh,ae⟩):=rfl
@[simp] theorem OY {f:St→Option (bo×St)} {live:List Nat} {pi px sz:Nat} {ag:Bool} {env e:List (Nat×AV)} {r:List (PV×Nat)} {mem:List (Nat×List AV)} {sh:Sh} {ae:aH} {id:Nat}:DZ f live pi px sz ag env r (some (.exit id,⟨e,mem,sh,ae⟩))=some (.exit id,⟨env,mem,sh,ae⟩):=rfl
@[simp] theorem Q4 {f:St→Option (bo×St)} {live:List Nat} {pi px sz:Nat} {ag:Bool} {env e:List (Nat×AV)} {mem:List (Nat×List AV)} {sh:Sh} {ae:aH}:jj f live pi px sz ag env [] ⟨e,mem,sh,ae⟩=some (.normal,⟨env,mem,sh,ae⟩):=rfl
def TI (g:St→Option (bo×St)):Option (bo×St)→Option (bo×St)
 | some (.normal,st')=>g st'
 | _=>none
@[simp] theorem OZ {g:St→Option (bo×St)} {st:St}:TI g (some (.normal,st))=g st:=rfl
end Go.Ab.Lw
namespace Go.Ab.Lw
open Ev
inductive Ty.Nm:Ty→Prop
 | mk {t:Ty}:UB t.name→(∀x∈t.args,Ty.Nm x)→Ty.Nm t
end Go.Ab.Lw
namespace Go.Ab.Lw
open Ev
abbrev Sc:=As
structure En where
 name:List UInt8
 sc:Sc
 deriving Inhabited
def En.pv (a:En):PV:=.agg [.str a.name,.int .i64 a.sc.id,.int .i64 a.sc.ty.kind,.str a.sc.ty.name,.int .i64 a.sc.ty.id,.int .i64 a.sc.ty.home,.aE (a.sc.ty.args.map Ty.pv)]
@[simp] theorem En.mg (a:En):a.pv=.agg [.str a.name,.int .i64 a.sc.id,.int .i64 a.sc.ty.kind,.str a.sc.ty.name,.int .i64 a.sc.ty.id,.int .i64 a.sc.ty.home,.aE (a.sc.ty.args.map Ty.pv)]:=rfl
@[simp] theorem En.eta (t:En):En.mk t.name t.sc=t:=rfl
theorem RZ:El En.pv 7 true:=⟨fun x=>by simp,fun x=>by simp⟩
noncomputable instance:DecidableEq En:=fun _ _=>Classical.propDecidable _
@[simp] theorem Q5 {l:List En}:bF 7 (l.map En.pv)=true:=RZ.head l
def mh:Sc:=⟨0,⟨0,[],0,0,[]⟩⟩
def EO:List En→List UInt8→Option Sc
 | [],_=>none
 | a::r,s=>match EO r s with
   | some c=>some c
   | none=>if a.name=s then some a.sc else none
theorem LJ (l:List En) (a:En) (s:List UInt8):EO (l++[a]) s=if a.name=s then some a.sc else EO l s:=by
 induction l with
 | nil=>simp [EO]
 | cons b r ih=>
   simp only [List.cons_append,EO,ih]
   by_cases h:a.name=s
   · simp [h]
   · simp [h]
def N0 (o:Option Sc):List PV:=[(o.getD mh).pv,.bool o.isSome]
theorem R0 {l:List En} (hS:Sm l) {s:List UInt8}:∀(k:Nat),k≤l.length →
   cl AP g181L0 ⟨[(0,.pv (.aE (l.map En.pv))),(1,.pv (.str s)),(4,.aB 4 0),(6,.pv (vI ((k:Int)-1)))],[(4,[.pv (vI 0),.pv (vI 0),.pv (.str []),.pv (vI 0),.pv (vI 0),.own [] 0])],[],[0]⟩ =
     match EO (l.take k) s with
     | some c=>some (.ret,⟨[(4,.aB 4 0),(5,.pv (.bool true))],[(4,[.pv (vI c.id),.pv (vI c.ty.kind),.pv (.str c.ty.name),.pv (vI c.ty.id),.pv (vI c.ty.home),.pv (.aE (c.ty.args.map Ty.pv))])],[],[0]⟩)
     | none=>some (.exit 0,⟨[(0,.pv (.aE (l.map En.pv))),(1,.pv (.str s)),(4,.aB 4 0),(6,.pv (vI (-1))),(11,.pv (.bool false))],[(4,[.pv (vI 0),.pv (vI 0),.pv (.str []),.pv (vI 0),.pv (vI 0),.own [] 0])],[],[0]⟩)
 | 0,_=>by
   rw [g181L0e]
   simp [g181B0,EO]
 | k+1,hk=>by
   obtain ⟨x,hx⟩:=bM (l:=l) (i:=k) (by omega)
   have ih:=R0 hS (s:=s) k (by omega)
   unfold Sm at hS
   have e1:((k+1:Nat):Int)-1=k:=by omega
   rw [g181L0e,e1,List.take_add_one,hx]
   simp only [Option.toList_some,LJ]
   by_cases e:x.name=s
   · simp (disch:=omega) [-getElem?_pos,g181B0,hx,e]
   · simp (disch:=omega) [-getElem?_pos,g181B0,hx,e,az]
     simpa using ih
theorem c181 {l:List En} (hS:Sm l) {s:List UInt8}:(aL AP).p 181 [.aE (l.map En.pv),.str s]=some (N0 (EO l s)):=by
 have h:=R0 hS (s:=s) l.length (Nat.le_refl _)
 unfold Sm at hS
 rw [ah (af:=g181) rfl rfl (by decide)]
 rw [List.take_length] at h
 rw [g181L0e] at h
 cases e:EO l s with
 | none=>
   rw [e] at h
   simp at h
   simp (disch:=omega) [g181,az,g181L0e,h,N0,mh]
 | some c=>
   rw [e] at h
   simp at h
   simp (disch:=omega) [g181,az,g181L0e,h,N0]
end Go.Ab.Lw
namespace Go.Ab.Lw
section
variable {P:Program} {n:Nat} {t e:TypeId} {p:PV}
theorem xz (hu:P.underlying t=some (.int .i64)) (h:vn P n t p):∃i,p=vI i:=by
 cases n with
 | zero=>simp [vn] at h
 | succ n=>simp only [vn,hu] at h;obtain ⟨i,rfl,_⟩:=h;exact ⟨i,rfl⟩
theorem LK {α:Type} {f:α→PV} (hu:P.underlying t=some (.slice e)) (he:∀(m:Nat) (q:PV),vn P m e q→∃x,q=f x) (h:vn P n t p):∃l:List α,p=.aE (l.map f):=by
 cases n with
 | zero=>simp [vn] at h
 | succ n=>
   simp only [vn,hu] at h
   obtain ⟨els,rfl,_,h⟩:=h
   have key:∀els:List PV,(∀q∈els,vn P n e q)→∃l:List α,els=l.map f:=by
     intro els
     induction els with
     | nil=>intro _;exact ⟨[],rfl⟩
     | cons q r ih=>
       intro h
       obtain ⟨x,rfl⟩:=he n q (h q (by simp))
       obtain ⟨l,rfl⟩:=ih (fun q hq=>h q (by simp [hq]))
       exact ⟨x::l,rfl⟩
   obtain ⟨l,rfl⟩:=key els h
   exact ⟨l,rfl⟩
theorem LL (hu:P.underlying t=some (.slice e)) (he:P.underlying e=some (.int .i64)) (h:vn P n t p):∃L:List Int,p=.aE (L.map vI):=
 LK hu (fun _ _ h=>xz he h) h
end
end Go.Ab.Lw
namespace Go.Ab.Lw
open Ev
def pc (s:List UInt8):Ty:=⟨5,s,0,0,[]⟩
theorem c106 {s:List UInt8}:(aL AP).p 106 [.str s]=some [(pc s).pv]:=by
 rw [ah (af:=g106) rfl rfl (by decide)]
 simp [g106,pc]
def mi:List Ty:=[pc [97],pc [98],pc [99]]
theorem c67:(aL AP).p 67 []=some [.aE (mi.map Ty.pv)]:=by
 have h1:=c106 (s:=[97]);have h2:=c106 (s:=[98]);have h3:=c106 (s:=[99])
 simp at h1 h2 h3
 rw [ah (af:=g67) rfl rfl (by decide)]
 simp [g67,h1,h2,h3,mi]
end Go.Ab.Lw
namespace Go.Ab.Lw
open Ev
theorem Un {s:List Int} (hS:Sm s) (y:Int):∀(n i:Nat),s.length-i=n→i≤s.length →
   cl AP g95L0 ⟨[(0,.pv (.aE (s.map vI))),(1,.pv (vI y)),(5,.pv (vI i))],[],[],[]⟩ =
     if y∈s.drop i then some (.ret,⟨[(4,.pv (.bool true))],[],[],[]⟩) else some (.exit 0,⟨[(0,.pv (.aE (s.map vI))),(1,.pv (vI y)),(5,.pv (vI s.length)),(9,.pv (.bool false))],[],[],[]⟩)
 | 0,i,hn,hi=>by
   have:i=s.length:=by omega
   subst this
   rw [g95L0e]
   simp [g95B0]
 | n+1,i,hn,hi=>by
   have hi:i<s.length:=by omega
   obtain ⟨x,hx⟩:=bM hi
   unfold Sm at hS
   have ih:=Un hS y n (i+1) (by omega) (by omega)
   simp at ih
   rw [g95L0e,cX hx]
   by_cases e:x=y
   · simp (disch:=omega) [-getElem?_pos,g95B0,hx,hi,e]
   · have e':¬y=x:=fun h=>e h.symm
     simp (disch:=omega) [-getElem?_pos,g95B0,hx,hi,e,e',az,ih]
theorem c95 {s:List Int} (hS:Sm s) {y:Int}:(aL AP).p 95 [.aE (s.map vI),vI y]=some [.bool (decide (y∈s))]:=by
 have h:=Un hS y _ 0 rfl (by omega)
 simp at h
 rw [ah (af:=g95) rfl rfl (by decide)]
 by_cases e:y∈s<;>simp [g95,h,e]
mutual
def Ty.nodes:Ty→List Ty
 | ⟨k,n,i,h,as⟩=>⟨k,n,i,h,as⟩::Ty.tF as
def Ty.tF:List Ty→List Ty
 | []=>[]
 | a::r=>a.nodes++Ty.tF r
end
theorem Ty.vA:∀l:List Ty,Ty.tF l=l.flatMap Ty.nodes
 | []=>by simp [Ty.tF]
 | a::r=>by simp [Ty.tF,Ty.vA r]
theorem Ty.aS (t:Ty):t.nodes=t::t.args.flatMap Ty.nodes:=by cases t;simp only [Ty.nodes,Ty.vA]
theorem gS {α:Type} [DecidableEq α]:∀{l S:List α},l.Nodup→(∀x∈l,x∈S)→l.length≤S.length
 | [],_,_,_=>by simp
 | x::r,S,hn,h=>by
   have hx:=h x (by simp)
   have hr:=gS (l:=r) (S:=S.erase x) (List.nodup_cons.1 hn).2 (fun y hy=>by
     rw [List.mem_erase_of_ne]
     · exact h y (by simp [hy])
     · rintro rfl;exact (List.nodup_cons.1 hn).1 hy)
   have:=List.length_erase_of_mem hx
   have:0<S.length:=List.length_pos_of_mem hx
   simp;omega
def eN (out:List Int) (x:Ty):List Int:=if x.kind=1∧x.id∉out then out++[x.id] else out
structure lM (S out:List Int):Prop where
 nodup:out.Nodup
 sub:∀x∈out,x∈S
 IB:S.length<1099511627776
theorem lM.len {S out:List Int} (h:lM S out):Sm out:=by
 have:=gS h.nodup h.sub
 have:=h.IB
 unfold Sm;omega
theorem lM.add {S out:List Int} (h:lM S out) {x:Ty} (hx:x.kind=1→x.id∈S):lM S (eN out x):=by
 unfold eN
 split
 · rename_i e
   refine ⟨?_,?_,h.IB⟩
   · rw [List.nodup_append]
     refine ⟨h.nodup,by simp,?_⟩
     intro a ha b hb
     simp at hb;subst hb
     rintro rfl;exact e.2 ha
   · intro y hy
     simp at hy
     rcases hy with hy | rfl
     · exact h.sub y hy
     · exact hx e.1
 · exact h
theorem lM.fold {S:List Int}:∀{l:List Ty} {out:List Int},lM S out→(∀x∈l,x.kind=1→x.id∈S)→lM S (l.foldl eN out)
 | [],_,h,_=>h
 | x::r,out,h,hx=>by
   simp only [List.foldl_cons]
   exact lM.fold (h.add (hx x (by simp))) (fun y hy=>hx y (by simp [hy]))
def vars (l:List Ty):List Int:=(l.flatMap Ty.nodes).foldl eN []
theorem tG {S:List Int} (h:S.length<1099511627776):lM S []:=⟨by simp,by simp,h⟩
end Go.Ab.Lw
namespace Go.Ab.Lw
open Ev
mutual
def Ty.ff (k:Int):Ty→List Ty
 | ⟨kd,n,i,h,as⟩=>if kd=k∧as.length=0 then [⟨kd,n,i,h,as⟩] else Ty.LM k as
def Ty.LM (k:Int):List Ty→List Ty
 | []=>[]
 | a::r=>a.ff k++Ty.LM k r
end
theorem Ty.EP (k:Int):∀l:List Ty,Ty.LM k l=l.flatMap (Ty.ff k)
 | []=>by simp [Ty.LM]
 | a::r=>by simp [Ty.LM,Ty.EP k r]
theorem Ty.mj (k:Int) (t:Ty):t.ff k=if t.kind=k∧t.args.length=0 then [t] else t.args.flatMap (Ty.ff k):=by cases t;simp only [Ty.ff,Ty.EP]
noncomputable def ig (out:List Ty) (x:Ty):List Ty:=if x∈out then out else out++[x]
structure gC (S out:List Ty):Prop where
 nodup:out.Nodup
 sub:∀x∈out,x∈S
 IB:S.length<1099511627776
 ok:∀x∈S,x.Ok
theorem gC.len {S out:List Ty} (h:gC S out):Sm out:=by
 have:=gS h.nodup h.sub
 have:=h.IB
 unfold Sm;omega
theorem gC.add {S out:List Ty} (h:gC S out) {x:Ty} (hx:x∈S):gC S (ig out x):=by
 unfold ig
 split
 · exact h
 · rename_i e
   refine ⟨?_,?_,h.IB,h.ok⟩
   · rw [List.nodup_append]
     refine ⟨h.nodup,by simp,?_⟩
     intro a ha b hb
     simp at hb;subst hb
     rintro rfl;exact e ha
   · intro y hy
     simp at hy
     rcases hy with hy | rfl
     · exact h.sub y hy
     · exact hx
theorem gC.fold {S:List Ty}:∀{l:List Ty} {out:List Ty},gC S out→(∀x∈l,x∈S)→gC S (l.foldl ig out)
 | [],_,h,_=>h
 | x::r,out,h,hx=>by
   simp only [List.foldl_cons]
   exact gC.fold (h.add (hx x (by simp))) (fun y hy=>hx y (by simp [hy]))
theorem R1 {S out:List Ty} (h:gC S out) (t:Ty):∀(n i:Nat),out.length-i=n→i≤out.length →
   cl AP g99L0 ⟨[(0,.own (out.map Ty.pv) 0),(4,.aB 4 0),(7,.pv (vI i))],[(4,[.pv (vI t.kind),.pv (.str t.name),.pv (vI t.id),.pv (vI t.home),.pv (.aE (t.args.map Ty.pv))])],[],[out.length]⟩ =
     if t∈out.drop i then some (.ret,⟨[(6,.own (out.map Ty.pv) 0)],[],[],[out.length]⟩)
     else some (.exit 0,⟨[(0,.own (out.map Ty.pv) 0),(4,.aB 4 0),(7,.pv (vI out.length)),(22,.pv (.bool false))],[(4,[.pv (vI t.kind),.pv (.str t.name),.pv (vI t.id),.pv (vI t.home),.pv (.aE (t.args.map Ty.pv))])],[],[out.length]⟩)
 | 0,i,hn,hi=>by
   have:i=out.length:=by omega
   subst this
   rw [g99L0e]
   simp [g99B0]
 | n+1,i,hn,hi=>by
   have hi:i<out.length:=by omega
   obtain ⟨x,hx⟩:=bM hi
   have hS:=h.len
   unfold Sm at hS
   have k:=c20 (b:=t) (h.ok x (h.sub x (bA hx)))
   have ih:=R1 h t n (i+1) (by omega) (by omega)
   rw [g99L0e] at ih ⊢
   rw [cX hx]
   simp at ih k
   by_cases e:x=t
   · subst e
     rw [decide_eq_true rfl] at k
     simp (disch:=omega) [-getElem?_pos,g99B0,hx,hi,k]
   · have e':¬t=x:=fun h=>e h.symm
     rw [decide_eq_false e] at k
     simp (disch:=omega) [-getElem?_pos,g99B0,hx,hi,k,e',az]
     rw [g99L0e]
     simp [ih]
theorem R2 {S:List Ty} {kd:Int} {t:Ty} (hS:Sm t.args) (h:∀x∈t.args,∀out,gC S out→(aL AP).i 99 [.own (out.map Ty.pv) 0,.pv x.pv,.pv (vI kd)] [] [out.length]=some ([.own (((x.ff kd).foldl ig out).map Ty.pv) 0],[],[((x.ff kd).foldl ig out).length]))
   (hk:∀x∈t.args.flatMap (Ty.ff kd),x∈S):∀(n i:Nat),t.args.length-i=n→i≤t.args.length→∀out,gC S out →
   cl AP g99L1 ⟨[(0,.own (out.map Ty.pv) 0),(2,.pv (vI kd)),(4,.aB 4 0),(8,.pv (vI i))],[(4,[.pv (vI t.kind),.pv (.str t.name),.pv (vI t.id),.pv (vI t.home),.pv (.aE (t.args.map Ty.pv))])],[],[out.length]⟩ =
     some (.exit 2,⟨[(0,.own ((((t.args.drop i).flatMap (Ty.ff kd)).foldl ig out).map Ty.pv) 0),(2,.pv (vI kd)),(4,.aB 4 0),(8,.pv (vI t.args.length)),(40,.pv (.bool false))],[(4,[.pv (vI t.kind),.pv (.str t.name),.pv (vI t.id),.pv (vI t.home),.pv (.aE (t.args.map Ty.pv))])],[],[(((t.args.drop i).flatMap (Ty.ff kd)).foldl ig out).length]⟩)
 | 0,i,hn,hi,out,hc=>by
   have:i=t.args.length:=by omega
   subst this
   rw [g99L1e]
   simp [g99B1]
 | n+1,i,hn,hi,out,hc=>by
   have hi:i<t.args.length:=by omega
   obtain ⟨x,hx⟩:=bM hi
   unfold Sm at hS
   have hkx:∀y∈x.ff kd,y∈S:=fun y hy=>hk y (by simp only [List.mem_flatMap];exact ⟨x,bA hx,hy⟩)
   have k:=h x (bA hx) out hc
   have ih:=R2 hS h hk n (i+1) (by omega) (by omega) _ (hc.fold hkx)
   rw [g99L1e] at ih ⊢
   rw [cX hx]
   simp at k ih
   simp (disch:=omega) [-getElem?_pos,g99B1,hx,hi,k,az]
   rw [g99L1e]
   simp [ih]
theorem c99 {S:List Ty} {kd:Int} {t:Ty} (hO:t.Ok) (hk:∀x∈t.ff kd,x∈S):∀out,gC S out →
   (aL AP).i 99 [.own (out.map Ty.pv) 0,.pv t.pv,.pv (vI kd)] [] [out.length]=some ([.own (((t.ff kd).foldl ig out).map Ty.pv) 0],[],[((t.ff kd).foldl ig out).length]):=by
 revert hO hk
 refine Ty.gg (p:=fun t=>t.Ok→(∀x∈t.ff kd,x∈S)→∀out,gC S out →
   (aL AP).i 99 [.own (out.map Ty.pv) 0,.pv t.pv,.pv (vI kd)] [] [out.length]=some ([.own (((t.ff kd).foldl ig out).map Ty.pv) 0],[],[((t.ff kd).foldl ig out).length])) ?_ t
 intro t ih hO hk out hc
 rw [Ty.mj] at hk ⊢
 have hl:=hc.len
 unfold Sm at hl
 have hb:(out.length+1)*64≤140737488355328:=by omega
 rw [aP (af:=g99) rfl (by simp [g99])]
 by_cases e:t.kind=kd∧t.args.length=0
 · rw [if_pos e] at hk ⊢
   obtain ⟨e1,e2⟩:=e
   subst e1
   have e3:t.args=[]:=by simpa using e2
   have h:=R1 hc t _ 0 rfl (by omega)
   rw [g99L0e] at h
   simp [e3] at h
   by_cases em:t∈out
   · simp [em] at h
     have ea:ig out t=out:=by simp [ig,em]
     simp [g99,e3,g99L0e,h,ea]
   · simp [em] at h
     have ea:ig out t=out++[t]:=by simp [ig,em]
     simp [g99,e3,g99L0e,h,ea,hb]
 · rw [if_neg e] at hk ⊢
   have h:=R2 (S:=S) (kd:=kd) hO.sm (fun x hx out hc=>ih x hx (hO.iv x hx) (fun y hy=>hk y (by simp only [List.mem_flatMap];exact ⟨x,hx,hy⟩)) out hc) hk _ 0 rfl (by omega) out hc
   rw [g99L1e] at h
   simp at h
   by_cases e1:t.kind=kd
   · have e2:¬t.args.length=0:=fun h=>e ⟨e1,h⟩
     have e3:¬t.args=[]:=by simpa using e2
     subst e1
     simp [g99,e2,e3,g99L1e,h]
   · simp [g99,e1,g99L1e,h]
def p9 (out:List Int) (x:Ty):List Int:=if x.id∈out then out else out++[x.id]
noncomputable def m5 (l:List Ty):List Int:=((l.flatMap (Ty.ff 1)).foldl ig []).foldl p9 []
theorem R3 {S:List Ty} {l:List Ty} (hS:Sm l) (hO:∀t∈l,t.Ok) (hk:∀x∈l.flatMap (Ty.ff 1),x∈S):∀(n i:Nat),l.length-i=n→i≤l.length→∀out,gC S out →
   cl AP g56L0 ⟨[(0,.pv (.aE (l.map Ty.pv))),(3,.own (out.map Ty.pv) 0),(4,.pv (vI i))],[],[],[out.length]⟩ =
     some (.exit 0,⟨[(0,.pv (.aE (l.map Ty.pv))),(3,.own ((((l.drop i).flatMap (Ty.ff 1)).foldl ig out).map Ty.pv) 0),(4,.pv (vI l.length)),(10,.pv (.bool false))],[],[],[(((l.drop i).flatMap (Ty.ff 1)).foldl ig out).length]⟩)
 | 0,i,hn,hi,out,hc=>by
   have:i=l.length:=by omega
   subst this
   rw [g56L0e]
   simp [g56B0]
 | n+1,i,hn,hi,out,hc=>by
   have hi:i<l.length:=by omega
   obtain ⟨x,hx⟩:=bM hi
   unfold Sm at hS
   have hkx:∀y∈x.ff 1,y∈S:=fun y hy=>hk y (by simp only [List.mem_flatMap];exact ⟨x,bA hx,hy⟩)
   have k:=c99 (kd:=1) (hO x (bA hx)) hkx out hc
   have ih:=R3 hS hO hk n (i+1) (by omega) (by omega) _ (hc.fold hkx)
   rw [g56L0e] at ih ⊢
   rw [cX hx]
   simp at k ih
   simp (disch:=omega) [-getElem?_pos,g56B0,hx,hi,k,az]
   rw [g56L0e]
   simp [ih]
theorem LN {l:List Ty} {out:List Int}:(l.foldl p9 out).length≤out.length+l.length:=by
 induction l generalizing out with
 | nil=>simp
 | cons x r ih=>
   simp only [List.foldl_cons,List.length_cons]
   have:=ih (out:=p9 out x)
   have h2:(p9 out x).length≤out.length+1:=by unfold p9;split<;>simp
   omega
theorem Qj {S l:List Ty} (hc:gC S l):∀(n i:Nat),l.length-i=n→i≤l.length→∀out:List Int,out.length≤i →
   cl AP g56L1 ⟨[(3,.own (l.map Ty.pv) 0),(5,.own (out.map vI) 1),(6,.pv (vI i))],[],[],[l.length,out.length]⟩ =
     some (.exit 2,⟨[(3,.own (l.map Ty.pv) 0),(5,.own (((l.drop i).foldl p9 out).map vI) 1),(6,.pv (vI l.length)),(22,.pv (.bool false))],[],[],[l.length,((l.drop i).foldl p9 out).length]⟩)
 | 0,i,hn,hi,out,ho=>by
   have:i=l.length:=by omega
   subst this
   rw [g56L1e]
   simp [g56B1]
 | n+1,i,hn,hi,out,ho=>by
   have hi:i<l.length:=by omega
   obtain ⟨x,hx⟩:=bM hi
   have hS:=hc.len
   unfold Sm at hS
   have k:=c95 (s:=out) (by unfold Sm;omega) (y:=x.id)
   have hb:(out.length+1)*8≤140737488355328:=by omega
   have hh:bF 1 (out.map vI)=true:=p8.head out
   rw [cX hx]
   by_cases e:x.id∈out
   · have ih:=Qj hc n (i+1) (by omega) (by omega) out (by omega)
     have ea:p9 out x=out:=by simp [p9,e]
     rw [g56L1e] at ih ⊢
     rw [decide_eq_true e] at k
     simp at ih
     simp (disch:=omega) [-getElem?_pos,g56B1,hx,hi,k,az]
     rw [g56L1e]
     simp [ih,ea]
   · have ih:=Qj hc n (i+1) (by omega) (by omega) (out++[x.id]) (by simp;omega)
     have ea:p9 out x=out++[x.id]:=by simp [p9,e]
     rw [g56L1e] at ih ⊢
     rw [decide_eq_false e] at k
     simp at ih
     simp (disch:=omega) [-getElem?_pos,g56B1,hx,hi,k,az,hb,hh]
     rw [g56L1e]
     simp [ih,ea]
theorem c56 {S:List Ty} (hf:S.length<1099511627776) (hSo:∀x∈S,x.Ok) {l:List Ty} (hS:Sm l) (hO:∀t∈l,t.Ok) (hk:∀x∈l.flatMap (Ty.ff 1),x∈S):(aL AP).p 56 [.aE (l.map Ty.pv)]=some [.aE ((m5 l).map vI)]:=by
 have c0:gC S []:=⟨by simp,by simp,hf,hSo⟩
 have h1:=R3 hS hO hk _ 0 rfl (by omega) [] c0
 have h2:=Qj (c0.fold (l:=l.flatMap (Ty.ff 1)) hk) _ 0 rfl (by omega) [] (by simp)
 rw [ah (af:=g56) rfl rfl (by decide)]
 rw [g56L0e] at h1
 rw [g56L1e] at h2
 simp at h1 h2
 simp [g56,g56L0e,h1,g56L1e,h2,m5]
theorem IC {t:Ty} (hW:t.Wf):∀out,t.nodes.foldl eN out=(t.ff 1).foldl eN out:=by
 revert hW
 refine Ty.gg (p:=fun t=>t.Wf→∀out,t.nodes.foldl eN out=(t.ff 1).foldl eN out) ?_ t
 intro t ih hW out
 have flat:∀(as:List Ty),(∀x∈as,x∈t.args)→∀out,(as.flatMap Ty.nodes).foldl eN out=(as.flatMap (Ty.ff 1)).foldl eN out:=by
   intro as
   induction as with
   | nil=>intro _ _;rfl
   | cons a r ihr=>
     intro h out
     simp only [List.flatMap_cons,List.foldl_append]
     rw [ih a (h a (by simp)) (hW.iv a (h a (by simp))),ihr (fun x hx=>h x (by simp [hx]))]
 rw [Ty.aS,Ty.mj]
 by_cases e:t.kind=1
 · have ea:=hW.var e
   simp [e,ea]
 · have:eN out t=out:=by simp [eN,e]
   simp only [List.foldl_cons,this]
   rw [if_neg (fun h=>e h.1)]
   exact flat t.args (fun _ h=>h) out
theorem LO {k:Int} {t x:Ty} (h:x∈t.ff k):x.kind=k∧x.args=[]:=by
 revert h
 refine Ty.gg (p:=fun t=>x∈t.ff k→x.kind=k∧x.args=[]) ?_ t
 intro t ih h
 rw [Ty.mj] at h
 split at h
 · rename_i e;simp at h;subst h;exact ⟨e.1,by simpa using e.2⟩
 · simp only [List.mem_flatMap] at h
   obtain ⟨y,hy,hx⟩:=h
   exact ih y hy hx
theorem LP {l:List Ty} {out:List Int} {x:Ty} (hk:x.kind=1) (h:x∈l):x.id∈l.foldl eN out:=by
 have mono:∀(l:List Ty) (out:List Int) (i:Int),i∈out→i∈l.foldl eN out:=by
   intro l
   induction l with
   | nil=>intro out i h;exact h
   | cons y r ih=>
     intro out i h
     simp only [List.foldl_cons]
     refine ih _ _ ?_
     unfold eN;split<;>simp [h]
 induction l generalizing out with
 | nil=>simp at h
 | cons y r ih=>
   simp only [List.foldl_cons]
   simp at h
   rcases h with rfl | h
   · refine mono _ _ _ ?_
     unfold eN
     split
     · simp
     · rename_i e;simp [hk] at e;exact e
   · exact ih h
theorem ID (l:List Ty) (hk:∀x∈l,x.kind=1):∀acc:List Ty,(l.foldl ig acc).foldl eN []=l.foldl eN (acc.foldl eN []):=by
 induction l with
 | nil=>intro acc;rfl
 | cons x r ih=>
   intro acc
   simp only [List.foldl_cons]
   rw [ih (fun y hy=>hk y (by simp [hy]))]
   congr 1
   unfold ig
   split
   · rename_i e
     have:=LP (out:=[]) (hk x (by simp)) e
     simp [eN,this]
   · simp
theorem IE (l:List Ty) (hk:∀x∈l,x.kind=1):∀out,l.foldl p9 out=l.foldl eN out:=by
 induction l with
 | nil=>intro out;rfl
 | cons x r ih=>
   intro out
   simp only [List.foldl_cons]
   rw [ih (fun y hy=>hk y (by simp [hy]))]
   congr 1
   unfold p9 eN
   have:=hk x (by simp)
   by_cases e:x.id∈out<;>simp [e,this]
theorem LQ {l acc:List Ty} {x:Ty} (h:x∈l.foldl ig acc):x∈acc∨x∈l:=by
 induction l generalizing acc with
 | nil=>exact .inl h
 | cons y r ih=>
   simp only [List.foldl_cons] at h
   rcases ih h with h | h
   · unfold ig at h
     split at h
     · exact .inl h
     · simp at h
       rcases h with h | rfl
       · exact .inl h
       · right;simp
   · right;simp [h]
theorem tH {l:List Ty} (hW:∀t∈l,t.Wf):m5 l=vars l:=by
 have hk:∀x∈l.flatMap (Ty.ff 1),x.kind=1:=fun x hx=>by
   simp only [List.mem_flatMap] at hx;obtain ⟨t,_,h⟩:=hx;exact (LO h).1
 unfold m5 vars
 rw [IE _ (fun x hx=>by rcases LQ hx with h | h;simp at h;exact hk x h),ID _ hk]
 have:∀(l:List Ty),(∀t∈l,t.Wf)→∀out,(l.flatMap (Ty.ff 1)).foldl eN out=(l.flatMap Ty.nodes).foldl eN out:=by
   intro l
   induction l with
   | nil=>intro _ _;rfl
   | cons a r ih=>
     intro h out
     simp only [List.flatMap_cons,List.foldl_append]
     rw [IC (h a (by simp)),ih (fun t ht=>h t (by simp [ht]))]
 exact this l hW []
end Go.Ab.Lw
namespace Go.Ab.Lw
open Ev
theorem c176 {t:Ty}:(aL AP).p 176 [t.pv]=some [(As.mk 0 t).pv]:=by
 rw [ah (af:=g176) rfl rfl (by decide)]
 simp [g176]
theorem c179 {l:List En} (hS:Sm l) {n:List UInt8} {c:Sc}:(aL AP).p 179 [.aE (l.map En.pv),.str n,c.pv]=some [.aE ((l++[En.mk n c]).map En.pv)]:=by
 unfold Sm at hS
 have hb:(l.length+1)*88≤140737488355328:=by omega
 have hb':l.length*88≤140737488355328:=by omega
 rw [ah (af:=g179) rfl rfl (by decide)]
 cases l with
 | nil=>simp [g179]
 | cons a r=>
   simp at hb hb'
   simp [g179,hb,hb']
def dX:List En→List En
 | []=>[]
 | a::r=>if (r.any fun x=>decide (x.name=a.name))=true then dX r else a::dX r
theorem TJ {sz:Nat} {l:List PV} {k:IntKind} {h:Int} (h0:0≤h) (h1:h≤l.length) (hs:bF sz l=true):db false sz true false false [.pv (.aE l),.pv (.int k h)]=some (.pv (.aE (l.drop h.toNat))):=by
 simp [db,cN,eF,h0,h1,hs]
theorem any_none {r:List En} {a:En}:(r.any fun x=>decide (x.name=a.name))=true↔∃c,EO r a.name=some c:=by
 induction r with
 | nil=>simp [EO]
 | cons b r ih=>
   simp only [List.any_cons,Bool.or_eq_true,ih,EO,decide_eq_true_eq]
   cases h:EO r a.name with
   | some c=>simp
   | none=>by_cases e:b.name=a.name<;>simp [e]
theorem ml (l:List En):∀x∈dX l,x∈l:=by
 induction l with
 | nil=>simp [dX]
 | cons a r ih=>
   intro x hx
   simp only [dX] at hx
   split at hx
   · simp [ih x hx]
   · simp at hx;rcases hx with rfl | hx
     · simp
     · simp [ih x hx]
theorem tI (l:List En):(dX l).length≤l.length:=by
 induction l with
 | nil=>simp [dX]
 | cons a r ih=>
   simp only [dX]
   split<;>simp<;>omega
def varNames:List (List UInt8):=[[120],[121],[122],[102],[103],[118,49],[118,50],[105,100]]
def dr (ids:List Int):List Int→List As→List As
 | [],acc=>acc
 | v::r,acc=>dr ids r (if v∈ids then acc++[⟨v,cV acc.length⟩] else acc)
def pd (ids:List Int) (t:Ty) (vs:List Int):Sc:=⟨(dr ids vs []).length,t.sub (dr ids vs [])⟩
theorem Qk {t:Ty} {ids vs:List Int} (hS:Sm vs) (hi:Sm ids):∀(n i:Nat),vs.length-i=n→i≤vs.length→∀acc:List As,acc.length≤i →
   cl AP g208L0 ⟨[(1,.pv (.aE (ids.map vI))),(2,.aB 2 0),(4,.aB 4 0),(5,.pv (.aE (vs.map vI))),(6,.own (acc.map As.pv) 0),(7,.pv (vI i))],[(2,[.pv (vI t.kind),.pv (.str t.name),.pv (vI t.id),.pv (vI t.home),.pv (.aE (t.args.map Ty.pv))]),(4,[.pv (vI 0),.pv (vI 0),.pv (.str []),.pv (vI 0),.pv (vI 0),.own [] 1])],[],[acc.length,0]⟩ =
     some (.exit 0,⟨[(1,.pv (.aE (ids.map vI))),(2,.aB 2 0),(4,.aB 4 0),(5,.pv (.aE (vs.map vI))),(6,.own ((dr ids (vs.drop i) acc).map As.pv) 0),(7,.pv (vI vs.length)),(14,.pv (.bool false))],[(2,[.pv (vI t.kind),.pv (.str t.name),.pv (vI t.id),.pv (vI t.home),.pv (.aE (t.args.map Ty.pv))]),(4,[.pv (vI 0),.pv (vI 0),.pv (.str []),.pv (vI 0),.pv (vI 0),.own [] 1])],[],[(dr ids (vs.drop i) acc).length,0]⟩)
 | 0,i,hn,hi',acc,ha=>by
   have:i=vs.length:=by omega
   subst this
   rw [g208L0e]
   simp [g208B0,dr]
 | n+1,i,hn,hi',acc,ha=>by
   have hi':i<vs.length:=by omega
   obtain ⟨x,hx⟩:=bM hi'
   unfold Sm at hS
   have k:=c95 hi (y:=x)
   have k2:=c72 (n:=acc.length)
   have hb:(acc.length+1)*72≤140737488355328:=by omega
   rw [cX hx]
   by_cases e:x∈ids
   · have ih:=Qk (t:=t) hS hi n (i+1) (by omega) (by omega) (acc++[⟨x,cV acc.length⟩]) (by simp;omega)
     have ea:dr ids (x::vs.drop (i+1)) acc=dr ids (vs.drop (i+1)) (acc++[⟨x,cV acc.length⟩]):=by simp [dr,e]
     rw [ea]
     rw [g208L0e] at ih ⊢
     rw [decide_eq_true e] at k
     simp [cV] at ih k2
     simp (disch:=omega) [-getElem?_pos,g208B0,hx,hi',k,k2,az,hb,cV]
     rw [g208L0e]
     simp [ih,cV]
   · have ih:=Qk (t:=t) hS hi n (i+1) (by omega) (by omega) acc (by omega)
     have ea:dr ids (x::vs.drop (i+1)) acc=dr ids (vs.drop (i+1)) acc:=by simp [dr,e]
     rw [ea]
     rw [g208L0e] at ih ⊢
     rw [decide_eq_false e] at k
     simp at ih
     simp (disch:=omega) [-getElem?_pos,g208B0,hx,hi',k,az]
     rw [g208L0e]
     simp [ih]
theorem tJ {ids:List Int}:∀(vs:List Int) (acc:List As),(dr ids vs acc).length≤acc.length+vs.length
 | [],acc=>by simp [dr]
 | v::r,acc=>by
   simp only [dr]
   have:=tJ (ids:=ids) r (if v∈ids then acc++[⟨v,cV acc.length⟩] else acc)
   split at this<;>simp at this ⊢<;>(split<;>simp_all<;>omega)
structure R4 (t:Ty):Prop where
 ok:t.Ok
 wf:t.Wf
 IB:∃S:List Ty,S.length<1099511627776∧(∀x∈S,x.Ok)∧∀x∈t.ff 1,x∈S
theorem tK {t:Ty} (h:R4 t):Sm (m5 [t]):=by
 obtain ⟨S,hf,hSo,hk⟩:=h.IB
 have c0:gC S []:=⟨by simp,by simp,hf,hSo⟩
 have:=(c0.fold (l:=[t].flatMap (Ty.ff 1)) (by simpa using hk)).len
 unfold Sm at *
 have h2:=LN (l:=([t].flatMap (Ty.ff 1)).foldl ig []) (out:=[])
 unfold m5
 simp at this h2 ⊢
 omega
theorem c208 {t:Ty} (h:R4 t) {ids:List Int} (hi:Sm ids):(aL AP).p 208 [t.pv,.aE (ids.map vI)]=some [(pd ids t (vars [t])).pv]:=by
 obtain ⟨S,hf,hSo,hk⟩:=h.IB
 have k1:=c56 hf hSo (l:=[t]) (by simp [Sm]) (by simpa using h.ok) (by simpa using hk)
 have hv:=tK h
 rw [tH (by simpa using h.wf)] at k1 hv
 have k2:=Qk (t:=t) hv hi _ 0 rfl (by omega) [] (by simp)
 have hl:=tJ (ids:=ids) (vars [t]) []
 have k3:=c46 (s:=dr ids (vars [t]) []) (by unfold Sm at hv ⊢;simp at hl;omega) h.ok
 rw [ah (af:=g208) rfl rfl (by decide)]
 rw [g208L0e] at k2
 simp at k1 k2 k3
 simp [g208,k1,g208L0e,k2,k3,pd]
end Go.Ab.Lw
namespace Go.Ab.Lw
open Ev
theorem df {t:Ty} (h:t.args=[]):t.Ok:=⟨by rw [h];simp [Sm],by rw [h];simp⟩
theorem vB {ids:List Int}:∀(vs:List Int) (acc:List As),(∀a∈acc,a.ty.Ok)→∀a∈dr ids vs acc,a.ty.Ok
 | [],acc,h=>by simpa [dr] using h
 | v::r,acc,h=>by
   simp only [dr]
   refine vB r _ ?_
   split
   · intro a ha
     simp at ha
     rcases ha with ha | rfl
     · exact h a ha
     · exact df rfl
   · exact h
theorem D0 {ids vs:List Int} {t:Ty} (h:t.Ok):(pd ids t vs).ty.Ok:=DY (vB vs [] (by simp)) h
end Go.Ab.Lw
namespace Go.Ab.Lw
open Ev
inductive ic (D:Dt→Prop) (lv:List Ty):Nat→Ty→Prop
 | leaf {n:Nat} {t:Ty}:t∈lv→ic D lv n t
 | int {n:Nat}:ic D lv n bu
 | gU {n:Nat} {d:Dt} {args:List Ty}:D d→args.length=d.params.length→(∀x∈args,ic D lv n x)→ic D lv (n+1) ⟨4,d.name,0,0,args⟩
 | arrow {n:Nat} {a b:Ty}:ic D lv n a→ic D lv n b→ic D lv (n+1) ⟨4,[45,62],0,0,[a,b]⟩
theorem ic.ok {D:Dt→Prop} (hD:∀d,D d→d.params.length≤8) {lv:List Ty} (h:∀t∈lv,t.args=[]) {n:Nat} {t:Ty} (m:ic D lv n t):t.Ok:=by
 induction m with
 | leaf hl=>exact df (h _ hl)
 | int=>exact df rfl
 | gU hd hl _ ih=>exact ⟨by have:=hD _ hd;unfold Sm;simp;omega,ih⟩
 | arrow _ _ ha hb=>exact ⟨by simp [Sm],by intro x hx;simp at hx;rcases hx with rfl | rfl<;>assumption⟩
theorem LR {f:Ty→List Ty} {b:Nat}:∀{l:List Ty},(∀x∈l,(f x).length≤b)→(l.flatMap f).length≤l.length*b
 | [],_=>by simp
 | a::r,h=>by
   have h1:=h a (by simp)
   have h2:=LR (f:=f) (b:=b) (l:=r) (fun x hx=>h x (by simp [hx]))
   simp only [List.flatMap_cons,List.length_append,List.length_cons,Nat.add_mul]
   omega
theorem ic.small {D:Dt→Prop} (hD:∀d,D d→d.params.length≤8) {lv:List Ty} (h:∀t∈lv,t.args=[]) {n:Nat} {t:Ty} (m:ic D lv n t):t.nodes.length≤9 ^ n:=by
 have one:∀n:Nat,1≤9 ^ n:=fun n=>Nat.one_le_pow n 9 (by decide)
 induction m with
 | leaf hl=>rw [Ty.aS,h _ hl];simpa using one _
 | int=>rw [Ty.aS];simpa [bu] using one _
 | @gU n d args hd hl _ ih=>
   rw [Ty.aS]
   have h1:=LR (f:=Ty.nodes) (l:=args) ih
   have h2:=hD _ hd
   have h3:=one n
   have h4:args.length*9 ^ n≤8*9 ^ n:=Nat.mul_le_mul_right _ (by omega)
   simp only [List.length_cons,Nat.pow_succ]
   omega
 | @arrow n a b _ _ ha hb=>
   rw [Ty.aS]
   have h3:=one n
   simp only [List.length_cons,List.flatMap_cons,List.flatMap_nil,List.append_nil,List.length_append,Nat.pow_succ]
   omega
end Go.Ab.Lw
namespace Go.Ab.Lw
open Ev
abbrev cm:=List UInt8
theorem R5 {s:List cm} (hS:Sm s) (y:cm):∀(n i:Nat),s.length-i=n→i≤s.length →
   cl AP g216L0 ⟨[(0,.pv (.aE (s.map .str))),(1,.pv (.str y)),(5,.pv (vI i))],[],[],[]⟩ =
     match gL (fun x=>decide (x=y)) (s.drop i) with
     | some k=>some (.ret,⟨[(4,.pv (vI (i+k:Nat)))],[],[],[]⟩)
     | none=>some (.exit 0,⟨[(0,.pv (.aE (s.map .str))),(1,.pv (.str y)),(5,.pv (vI s.length)),(9,.pv (.bool false))],[],[],[]⟩)
 | 0,i,hn,hi=>by
   have:i=s.length:=by omega
   subst this
   rw [g216L0e]
   simp [g216B0,gL]
 | n+1,i,hn,hi=>by
   have hi:i<s.length:=by omega
   obtain ⟨x,hx⟩:=bM hi
   unfold Sm at hS
   have ih:=R5 hS y n (i+1) (by omega) (by omega)
   simp at ih
   rw [g216L0e,cX hx]
   by_cases e:x=y
   · simp (disch:=omega) [-getElem?_pos,g216B0,hx,hi,e,gL]
   · simp (disch:=omega) [-getElem?_pos,g216B0,hx,hi,e,gL,az,ih]
     cases gL (fun x=>decide (x=y)) (s.drop (i+1)) with
     | none=>rfl
     | some k=>simp;omega
def pg (s:List cm) (y:cm):Int:=IA (gL (fun x=>decide (x=y)) s)
theorem c216 {s:List cm} (hS:Sm s) {y:cm}:(aL AP).p 216 [.aE (s.map .str),.str y]=some [vI (pg s y)]:=by
 unfold pg
 have h:=R5 hS y _ 0 rfl (by omega)
 simp at h
 rw [ah (af:=g216) rfl rfl (by decide)]
 cases hi:gL (fun x=>decide (x=y)) s with
 | none=>rw [hi] at h;simp at h;simp [g216,h,IA]
 | some k=>rw [hi] at h;simp at h;simp [g216,h,IA]
theorem LS {s:List cm} {y:cm}:pg s y<0↔y∉s:=by
 unfold pg
 have h:=LI (p:=fun x=>decide (x=y)) (s:=s)
 have e:s.any (fun x=>decide (x=y))=decide (y∈s):=by rw [Bool.eq_iff_iff];simp
 rw [e] at h
 by_cases hy:y∈s
 · rw [decide_eq_true hy] at h
   have h:=of_decide_eq_true h
   exact ⟨fun h'=>absurd h (Int.not_le.2 h'),fun h'=>absurd hy h'⟩
 · rw [decide_eq_false hy] at h
   have h:=of_decide_eq_false h
   exact ⟨fun _=>hy,fun _=>Int.not_le.1 h⟩
def Ql (t:Ty):List AV:=[.pv (vI t.kind),.pv (.str t.name),.pv (vI t.id),.pv (vI t.home),.pv (.aE (t.args.map Ty.pv))]
@[simp] theorem TK (t:Ty):Ql t=[.pv (vI t.kind),.pv (.str t.name),.pv (vI t.id),.pv (vI t.home),.pv (.aE (t.args.map Ty.pv))]:=rfl
inductive Ty.Cw:Ty→Prop
 | mk {t:Ty}:(t.kind≠4→t.args=[])→(∀x∈t.args,Ty.Cw x)→Ty.Cw t
theorem Ty.Cw.bare {t:Ty} (h:t.Cw):t.kind≠4→t.args=[]:=by cases h;assumption
theorem Ty.Cw.iv {t:Ty} (h:t.Cw):∀x∈t.args,x.Cw:=by cases h;assumption
end Go.Ab.Lw
namespace Go.Ab.Lw
structure iw (E:Type) where
 pos:Int
 gU:List UInt8
 vars:List (List UInt8)
 body:E
structure Ex where
 kind:Int
 pos:Int
 name:List UInt8
 num:Int
 kids:List Ex
 aY:List (iw Ex)
 ty:Ty
abbrev Ar:=iw Ex
def bO:Ty:=⟨0,[],0,0,[]⟩
instance:Inhabited Ex:=⟨⟨0,0,[],0,[],[],bO⟩⟩
instance:Inhabited Ar:=⟨⟨0,[],[],default⟩⟩
def Ty.cells (t:Ty):List PV:=[.int .i64 t.kind,.str t.name,.int .i64 t.id,.int .i64 t.home,.aE (t.args.map Ty.pv)]
mutual
def Ex.cells:Ex→List PV
 | ⟨k,p,n,m,ks,as,t⟩=>.int .i64 k::.int .i64 p::.str n::.int .i64 m::.aE (Ex.dO ks)::.aE (Ex.R6 as)::t.cells
def Ex.dO:List Ex→List PV
 | []=>[]
 | e::r=>.agg (Ex.cells e)::Ex.dO r
def Ex.R6:List (iw Ex)→List PV
 | []=>[]
 | ⟨p,c,v,b⟩::r=>.agg (.int .i64 p::.str c::.aE (v.map .str)::Ex.cells b)::Ex.R6 r
end
def Ex.pv (e:Ex):PV:=.agg e.cells
def Ar.pv (a:Ar):PV:=.agg (.int .i64 a.pos::.str a.gU::.aE (a.vars.map .str)::a.body.cells)
theorem Ex.o_:∀l:List Ex,Ex.dO l=l.map Ex.pv
 | []=>by simp [Ex.dO]
 | e::r=>by simp [Ex.dO,Ex.o_ r,Ex.pv]
theorem Ex.ER:∀l:List Ar,Ex.R6 l=l.map Ar.pv
 | []=>by simp [Ex.R6]
 | ⟨p,c,v,b⟩::r=>by simp [Ex.R6,Ex.ER r,Ar.pv]
theorem Ex.bQ (e:Ex):e.cells=[.int .i64 e.kind,.int .i64 e.pos,.str e.name,.int .i64 e.num,.aE (e.kids.map Ex.pv),.aE (e.aY.map Ar.pv),.int .i64 e.ty.kind,.str e.ty.name,.int .i64 e.ty.id,.int .i64 e.ty.home,.aE (e.ty.args.map Ty.pv)]:=by
 cases e;simp only [Ex.cells,Ex.o_,Ex.ER,Ty.cells]
@[simp] theorem Ex.mg (e:Ex):e.pv=.agg [.int .i64 e.kind,.int .i64 e.pos,.str e.name,.int .i64 e.num,.aE (e.kids.map Ex.pv),.aE (e.aY.map Ar.pv),.int .i64 e.ty.kind,.str e.ty.name,.int .i64 e.ty.id,.int .i64 e.ty.home,.aE (e.ty.args.map Ty.pv)]:=by
 rw [Ex.pv,Ex.bQ]
@[simp] theorem Ar.mg (a:Ar):a.pv=.agg [.int .i64 a.pos,.str a.gU,.aE (a.vars.map .str),.int .i64 a.body.kind,.int .i64 a.body.pos,.str a.body.name,.int .i64 a.body.num,.aE (a.body.kids.map Ex.pv),.aE (a.body.aY.map Ar.pv),.int .i64 a.body.ty.kind,.str a.body.ty.name,.int .i64 a.body.ty.id,.int .i64 a.body.ty.home,.aE (a.body.ty.args.map Ty.pv)]:=by
 rw [Ar.pv,Ex.bQ]
theorem LU:El Ex.pv 11 true:=⟨fun x=>by simp,fun x=>by simp⟩
theorem Qm:El Ar.pv 14 true:=⟨fun x=>by simp,fun x=>by simp⟩
@[simp] theorem Q6 {l:List Ex}:bF 11 (l.map Ex.pv)=true:=LU.head l
@[simp] theorem Q7 {l:List Ar}:bF 14 (l.map Ar.pv)=true:=Qm.head l
@[simp] theorem Qn {l:List (List UInt8)}:bF 1 (l.map PV.str)=true:=Qh.head l
def Ex.ch (e:Ex):List Ex:=e.kids++e.aY.map iw.body
theorem iw.IF (a:Ar):SizeOf.sizeOf a.body<SizeOf.sizeOf a:=by cases a;simp;omega
end Go.Ab.Lw
namespace Go.Ab.Lw
open Ev
abbrev nZ:List (List UInt8):=varNames
inductive gD (ds:List Dt):Nat→Ex→Prop
 | var {n:Nat} {s:List UInt8}:s∈nZ→gD ds n ⟨1,0,s,0,[],[],bO⟩
 | int {n:Nat} {m:Int}:0≤m→m<4→gD ds n ⟨3,0,[],m,[],[],bO⟩
 | gU {n:Nat} {d:Dt} {c:nc}:d∈ds→c∈d.cons→gD ds n ⟨2,0,c.name,0,[],[],bO⟩
 | gone {n:Nat}:gD ds n ⟨2,0,[71,111,110,101],0,[],[],bO⟩
 | hole {n:Nat}:gD ds n ⟨10,0,[],0,[],[],bO⟩
 | lam {n:Nat} {s:List UInt8} {a:Ex}:s∈nZ→gD ds n a→gD ds (n+1) ⟨4,0,s,0,[a],[],bO⟩
 | app {n:Nat} {a b:Ex}:gD ds n a→gD ds n b→gD ds (n+1) ⟨5,0,[],0,[a,b],[],bO⟩
 | xA {n:Nat} {k:Int} {s:List UInt8} {a b:Ex}:k=6∨k=7→s∈nZ→gD ds n a→gD ds n b→gD ds (n+1) ⟨k,0,s,0,[a,b],[],bO⟩
 | N1 {n:Nat} {a:Ex} {t:Ty}:gD ds n a→ic (·∈ds) [] 2 t→gD ds (n+1) ⟨9,0,[],0,[a],[],t⟩
 | held {n:Nat} {a:Ex}:gD ds n a→gD ds (n+1) ⟨11,0,[],0,[a],[],bO⟩
 | up {n:Nat} {a:Ex}:gD ds n a→gD ds (n+1) a
 | qX {n:Nat} {d:Dt} {a:Ex} {as:List Ar}:d∈ds→gD ds n a→as.length=d.cons.length→(∀x∈as,gD ds n x.body)→(∀x∈as,x.pos=0∧∀v∈x.vars,v∈nZ) →
     (∀(i:Nat) (c:nc) (x:Ar),d.cons[i]?=some c→as[i]?=some x→x.gU=c.name∧x.vars.length=c.fields.length)→gD ds (n+1) ⟨8,0,[],0,[a],as,bO⟩
end Go.Ab.Lw
namespace Go.Ab.Lw
open Ev
def D8 (d:Dt):Prop:=d.params.length≤8∧0<d.cons.length∧d.cons.length≤8∧∀c∈d.cons,c.fields.length≤8
theorem D1:∀d∈bU,D8 d:=by
 intro d hd
 simp [bU] at hd
 rcases hd with rfl | rfl | rfl | rfl | rfl | rfl | rfl<;>simp [D8]
structure Uo (e:Ex) (C:List AV):Prop where
 len:C.length=11
 leaf:C.all bm=true
 dL:∀sh,d3 sh C=some e.cells
 flat:bP.eW C=true
 iP:fH C=true
def gV (f:Bool) (l:List PV):AV:=if f then .bJ l else .pv (.aE l)
def eB (fk fa fg:Bool) (e:Ex):List AV:=[.pv (vI e.kind),.pv (vI e.pos),.pv (.str e.name),.pv (vI e.num),gV fk (e.kids.map Ex.pv),gV fa (e.aY.map Ar.pv),.pv (vI e.ty.kind),.pv (.str e.ty.name),.pv (vI e.ty.id),.pv (vI e.ty.home),gV fg (e.ty.args.map Ty.pv)]
theorem ez (fk fa fg:Bool) (e:Ex):Uo e (eB fk fa fg e):=by
 refine ⟨rfl,?_,?_,?_,?_⟩
 · cases fk<;>cases fa<;>cases fg<;>rfl
 · intro sh
   rw [Ex.bQ]
   cases fk<;>cases fa<;>cases fg<;>simp [eB,gV]
 · cases fk<;>cases fa<;>cases fg<;>simp [eB,gV]
 · cases fk<;>cases fa<;>cases fg<;>simp [eB,gV]
end Go.Ab.Lw
namespace Go.Ab.Lw
open Ev
def tx (l:List (List UInt8)):List AV:=l.map fun s=>AV.pv (.str s)
end Go.Ab.Lw
namespace Go.Ab.Lw
open Ev
structure Row {α:Type} (f:α→List PV) (sz:Nat):Prop where
 pos:0<sz
 len:∀x,(f x).length=sz
section
variable {α:Type} {f:α→List PV} {sz:Nat}
def cq (f:α→List PV) (l:List α):List AV:=l.flatMap fun x=>(f x).map .pv
theorem N2:cq f []=[]:=rfl
theorem kE {x:α} {l:List α}:cq f (x::l)=(f x).map .pv++cq f l:=rfl
theorem xB {l m:List α}:cq f (l++m)=cq f l++cq f m:=by simp [cq]
theorem eE (h:Row f sz):∀{l:List α},(cq f l).length=l.length*sz
 | []=>by simp [cq]
 | x::r=>by rw [kE,List.length_append,List.length_map,h.len,eE h,List.length_cons,Nat.add_mul];omega
theorem dh {l:List α}:∀v∈cq f l,∃p,v=AV.pv p:=by
 intro v hv
 simp only [cq,List.mem_flatMap,List.mem_map] at hv
 obtain ⟨x,_,p,_,rfl⟩:=hv
 exact ⟨p,rfl⟩
theorem tL (h:Row f sz):∀{l:List α} {i:Nat} {x:α},l[i]?=some x→(cq f l).drop (i*sz)=(f x).map .pv++cq f (l.drop (i+1))
 | x::r,0,y,e=>by simp at e;subst e;simp [cq]
 | x::r,i+1,y,e=>by
   have ih:=tL h (l:=r) (i:=i) (x:=y) (by simpa using e)
   rw [kE,List.drop_append,List.drop_eq_nil_of_le (by rw [List.length_map,h.len,Nat.add_mul];omega),List.length_map,h.len,show (i+1)*sz-sz=i*sz from by rw [Nat.add_mul];omega,ih]
   simp
 | [],_,_,e=>by simp at e
theorem Ao (h:Row f sz):∀{l:List α} {i:Nat},i≤l.length→(cq f l).take (i*sz)=cq f (l.take i)
 | l,0,_=>by simp [cq]
 | x::r,i+1,e=>by
   have ih:=Ao h (l:=r) (i:=i) (by simpa using e)
   rw [kE,List.take_append,List.take_of_length_le (by rw [List.length_map,h.len,Nat.add_mul];omega),List.length_map,h.len,show (i+1)*sz-sz=i*sz from by rw [Nat.add_mul];omega,ih]
   simp [kE]
 | [],i+1,e=>by simp at e
theorem rD (h:Row f sz) {l:List α} {i:Nat} {x:α} (e:l[i]?=some x) {o k:Nat} (hk:o+k≤sz):((cq f l).drop (i*sz+o)).take k=(((f x).drop o).take k).map .pv:=by
 rw [←List.drop_drop,tL h e,List.drop_append,List.take_append,List.length_drop,List.length_map,h.len]
 have e1:k-(sz-o)=0:=by omega
 rw [e1,List.take_zero,List.append_nil,←List.map_drop,←List.map_take]
theorem Qo (h:Row f sz) {l:List α} {i:Nat} (hi:i<l.length) {o k:Nat} (hk:o+k≤sz):i*sz+o+k≤(cq f l).length:=by
 rw [eE h]
 have:(i+1)*sz≤l.length*sz:=Nat.mul_le_mul_right _ hi
 rw [Nat.add_mul] at this
 omega
theorem rE (h:Row f sz) {l:List α} {i:Nat} {x y:α} (e:l[i]?=some x) {o:Nat} {vs:List PV} (hk:o+vs.length≤sz) (hy:f y=(f x).take o++vs++(f x).drop (o+vs.length)):bn (cq f l) (i*sz+o) (vs.map .pv)=cq f (l.set i y):=by
 have hi:=(List.getElem?_eq_some_iff.1 e).1
 have e3:l.set i y=l.take i++y::l.drop (i+1):=by rw [List.set_eq_take_append_cons_drop,if_pos hi]
 have e1:=tL h e
 have e2:=Ao h (l:=l) (i:=i) (by omega)
 rw [e3,aI,xB,kE,←e2,hy]
 have e4:(cq f l).drop (i*sz+o+(vs.map AV.pv).length)=((f x).drop (o+vs.length)).map .pv++cq f (l.drop (i+1)):=by
   rw [List.length_map,Nat.add_assoc,←List.drop_drop,e1,List.drop_append,List.length_map,h.len,show o+vs.length-sz=0 from by omega]
   simp
 have e5:(cq f l).take (i*sz+o)=(cq f l).take (i*sz)++((f x).take o).map .pv:=by
   rw [List.take_add,e1,List.take_append,List.length_map,h.len,show o-sz=0 from by omega]
   simp
 rw [e4,e5]
 simp
theorem ES (h:Row f sz):∀{l:List α},∃ps,fG (cq f l)=some ps∧(chunk sz l.length ps).map PV.agg=l.map fun x=>.agg (f x)
 | []=>⟨[],rfl,rfl⟩
 | x::r=>by
   obtain ⟨ps,h1,h2⟩:=ES h (l:=r)
   have key:∀(a:List PV) (b:List AV),fG b=some ps→fG (a.map AV.pv++b)=some (a++ps):=by
     intro a b hb
     induction a with
     | nil=>simpa using hb
     | cons c a ih=>simp only [List.map_cons,List.cons_append,fG,ky,ih]
   refine ⟨f x++ps,key _ _ h1,?_⟩
   simp only [List.length_cons,chunk,List.map_cons]
   rw [List.take_left' (h.len x),List.drop_left' (h.len x),h2]
theorem rG (h:Row f sz) {l:List α}:((fG (cq f l)).bind (fh sz true l.length)).map PV.aE=some (.aE (l.map fun x=>.agg (f x))):=by
 obtain ⟨ps,h1,h2⟩:=ES h (l:=l)
 rw [h1]
 simp only [Option.bind_some,fh,if_true,Option.map_some,h2]
theorem rH (h:Row f sz) {l:List α}:((l.map fun x=>PV.agg (f x)).flatMap bq).map AV.pv=cq f l:=by
 induction l with
 | nil=>rfl
 | cons x r ih=>simp only [List.map_cons,List.flatMap_cons,List.map_append,ih,kE,bq]
end
abbrev nn (k:Nat):Sh:=List.replicate k none
theorem gE (k:Nat):bN (nn k):=by
 intro cs hc
 simp [nn,List.mem_replicate] at hc
end Go.Ab.Lw
namespace Go.Ab.Lw
open Ev
inductive Ex.Ok:Ex→Prop
 | mk {e:Ex}:e.kids.length≤1000→e.aY.length≤1000→(∀a∈e.aY,a.vars.length≤1000)→e.ty.Ok→(∀x∈e.ch,x.Ok)→e.Ok
theorem Ex.Ok.k {e:Ex} (h:e.Ok):e.kids.length≤1000:=by cases h;assumption
theorem Ex.Ok.a {e:Ex} (h:e.Ok):e.aY.length≤1000:=by cases h;assumption
theorem Ex.Ok.v {e:Ex} (h:e.Ok):∀a∈e.aY,a.vars.length≤1000:=by cases h;assumption
theorem Ex.Ok.t {e:Ex} (h:e.Ok):e.ty.Ok:=by cases h;assumption
theorem Ex.Ok.c {e:Ex} (h:e.Ok):∀x∈e.ch,x.Ok:=by cases h;assumption
theorem Ex.mm {e:Ex}:e.ch.length=e.kids.length+e.aY.length:=by simp [Ex.ch]
@[simp] def Ex.cl (e:Ex):List AV:=[.pv (vI e.kind),.pv (vI e.pos),.pv (.str e.name),.pv (vI e.num),.pv (.aE (e.kids.map Ex.pv)),.pv (.aE (e.aY.map Ar.pv)),.pv (vI e.ty.kind),.pv (.str e.ty.name),.pv (vI e.ty.id),.pv (vI e.ty.home),.pv (.aE (e.ty.args.map Ty.pv))]
theorem eT:Row Ex.cells 11:=⟨by omega,fun x=>by rw [Ex.bQ];rfl⟩
def Ar.cells (a:Ar):List PV:=.int .i64 a.pos::.str a.gU::.aE (a.vars.map .str)::a.body.cells
theorem lh:Row Ar.cells 14:=⟨by omega,fun x=>by simp [Ar.cells,Ex.bQ]⟩
theorem Ex.vC (e:Ex):e.cells.map AV.pv=e.cl:=by rw [Ex.bQ];rfl
@[simp] def Ex.MC (e:Ex) (A:AV):List AV:=[.pv (vI e.kind),.pv (vI e.pos),.pv (.str e.name),.pv (vI e.num),.pv (.aE (e.kids.map Ex.pv)),A,.pv (vI e.ty.kind),.pv (.str e.ty.name),.pv (vI e.ty.id),.pv (vI e.ty.home),.pv (.aE (e.ty.args.map Ty.pv))]
def R7 (A:AV) (as:List Ar) (X:Sh):Prop:=A=.pv (.aE (as.map Ar.pv))∨∃b,b<X.length∧A=.bz b 14 as.length true∧X[b]?=some (some (cq Ar.cells as))
theorem R7.app {A:AV} {as:List Ar} {X Y:Sh} (h:R7 A as X):R7 A as (X++Y):=by
 rcases h with h | ⟨b,h1,h2,h3⟩
 · exact .inl h
 · exact .inr ⟨b,by rw [List.length_append];omega,h2,by rw [List.getElem?_append_left h1];exact h3⟩
def hV (X:Sh) (l:List Ex):AV:=if l=[] then .own [] 0 else .bz X.length 11 l.length true
def hS (X:Sh) (l:List Ex):Sh:=if l=[] then X else X++[some (cq Ex.cells l)]
def hT (l:List Ex):aH:=if l=[] then [0] else []
theorem LV {X:Sh} (h:bN X) (l:List Ex):bN (hS X l):=by
 unfold hS
 by_cases h0:l=[]
 · rw [if_pos h0];exact h
 · rw [if_neg h0];exact h.app (bN.one dh)
theorem N3 {e:Ex} {A:AV} (ha:e.aY.length≤1000):∀(n i:Nat),e.aY.length-i=n→i≤e.aY.length→∀(X:Sh) (acc:List Ex),bN X→R7 A e.aY X→acc.length+n≤1000000→∃k,
   cl AP g145L0 ⟨[(1,.aB 1 0),(3,hV X acc),(4,.pv (vI i))],[(1,e.MC A)],hS X acc,hT acc⟩ =
     some (.exit 0,⟨[(1,.aB 1 0),(3,hV (X++nn k) (acc++(e.aY.drop i).map iw.body)),(4,.pv (vI e.aY.length)),(12,.pv (.bool false))],[(1,e.MC A)],hS (X++nn k) (acc++(e.aY.drop i).map iw.body),hT (acc++(e.aY.drop i).map iw.body)⟩)
 | 0,i,hn,hi,X,acc,hX,hA,hl=>by
   have:i=e.aY.length:=by omega
   subst this
   refine ⟨0,?_⟩
   rw [List.drop_length,List.map_nil,List.append_nil,show nn 0=[] from rfl,List.append_nil]
   have hn:=(LV hX acc).norm
   have vc:(hV X acc=.own [] 0∧hT acc=[0])∨(∃b z k g,hV X acc=.bz b z k g∧hT acc=[]):=by
     unfold hV hT
     by_cases h0:acc=[]
     · left;simp [h0]
     · right;exact ⟨X.length,11,acc.length,true,by simp [h0],by simp [h0]⟩
   rw [g145L0e]
   rcases vc with ⟨v1,t1⟩ | ⟨b1,z1,k1,f1,v1,t1⟩<;>rw [v1,t1]<;>generalize hS X acc=S0 at hn ⊢ <;>
     rcases hA with rfl | ⟨b,hb,rfl,hx⟩<;>simp [g145B0,hn]
 | n+1,i,hn,hi,X,acc,hX,hA,hl=>by
   have hi:i<e.aY.length:=by omega
   obtain ⟨x,hx⟩:=bM hi
   have hnX:=hX.norm
   have hB11:∀m:Nat,m≤1000000→m*152≤140737488355328:=by omega
   have hcl:=Ex.bQ x.body
   rw [cX hx,List.map_cons]
   have step:∃k,cl AP g145L0 ⟨[(1,.aB 1 0),(3,hV (if acc=[] then X else X++[none]) (acc++[x.body])),(4,.pv (vI (i+1:Nat)))],[(1,e.MC A)],hS (if acc=[] then X else X++[none]) (acc++[x.body]),hT (acc++[x.body])⟩ =
     some (.exit 0,⟨[(1,.aB 1 0),(3,hV (X++nn k) (acc++(x.body::(e.aY.drop (i+1)).map iw.body))),(4,.pv (vI e.aY.length)),(12,.pv (.bool false))],[(1,e.MC A)],hS (X++nn k) (acc++(x.body::(e.aY.drop (i+1)).map iw.body)),hT (acc++(x.body::(e.aY.drop (i+1)).map iw.body))⟩):=by
     by_cases h0:acc=[]
     · rw [if_pos h0]
       obtain ⟨k,ih⟩:=N3 ha n (i+1) (by omega) (by omega) X (acc++[x.body]) hX hA (by simp;omega)
       refine ⟨k,?_⟩
       rw [ih]
       simp only [List.append_assoc,List.singleton_append]
     · rw [if_neg h0]
       obtain ⟨k,ih⟩:=N3 ha n (i+1) (by omega) (by omega) (X++[none]) (acc++[x.body]) (hX.app (gE 1)) hA.app (by simp;omega)
       refine ⟨k+1,?_⟩
       have e1:X++[none]++nn k=X++nn (k+1):=by simp [nn,List.replicate_succ]
       rw [ih,e1]
       simp only [List.append_assoc,List.singleton_append]
   obtain ⟨k,ih⟩:=step
   refine ⟨k,?_⟩
   generalize hV (X++nn k) (acc++(x.body::(e.aY.drop (i+1)).map iw.body))=V2 at ih ⊢
   generalize hS (X++nn k) (acc++(x.body::(e.aY.drop (i+1)).map iw.body))=S2 at ih ⊢
   generalize hT (acc++(x.body::(e.aY.drop (i+1)).map iw.body))=T2 at ih ⊢
   have hne:acc++[x.body]≠[]:=by simp
   have hn1:∀Y,bN Y→∀aQ ts,cf aQ ts (Y++[some (cq Ex.cells (acc++[x.body]))])=(Y++[some (cq Ex.cells (acc++[x.body]))],aQ,ts):=fun Y hY=>(hY.app (bN.one dh)).norm
   have hfl:cq Ex.cells (acc++[x.body])=cq Ex.cells acc++x.body.cl:=by rw [xB,←Ex.vC];simp [cq]
   by_cases h0:acc=[]
   · subst h0
     rw [if_pos rfl] at ih
     have hn2:=hn1 X hX
     simp only [List.nil_append] at hne hn2 hfl ih
     simp only [hV,hS,hT,if_neg hne,if_true] at ih ⊢
     rw [hfl] at hn2 ih
     simp only [N2,List.nil_append] at hn2 ih
     simp only [Ex.cl] at hn2
     rw [g145L0e] at ih ⊢
     rcases hA with rfl | ⟨b,hb,rfl,hxb⟩
     · simp [hn2] at ih
       simp (disch:=omega) [-getElem?_pos,g145B0,hx,hi,az,hnX]
       rw [g145L0e]
       simp [hn2,ih]
     · have q1:=rD lh hx (o:=3) (k:=11) (by omega)
       have q2:i*14+3+11≤e.aY.length*14:=by omega
       have q3:(cq Ar.cells e.aY).length=e.aY.length*14:=eE lh
       have q4:c_ (cq Ar.cells e.aY)=false:=eK dh
       have q5:(((Ar.cells x).drop 3).take 11).map AV.pv=x.body.cl:=by simp [Ar.cells,hcl]
       rw [q5] at q1
       generalize cq Ar.cells e.aY=T at *
       simp [hn2] at ih q1
       simp (disch:=omega) [-getElem?_pos,g145B0,hx,hi,az,hnX,hxb,q1,q2,q3,q4]
       rw [g145L0e]
       simp [hn2,ih]
   · rw [if_neg h0] at ih
     have hn2:=hn1 (X++[none]) (hX.app (gE 1))
     have hn3:∀aQ ts,cf aQ ts (X++[some (cq Ex.cells acc)])=(X++[some (cq Ex.cells acc)],aQ,ts):=(hX.app (bN.one dh)).norm
     simp only [hV,hS,hT,if_neg hne,if_neg h0] at ih ⊢
     have r1:(cq Ex.cells acc).length=acc.length*11:=eE eT
     have r2:c_ (cq Ex.cells acc)=false:=eK dh
     have r3:(cq Ex.cells acc).take (acc.length*11)=cq Ex.cells acc:=List.take_of_length_le (by omega)
     have hb2:(acc.length+1)*152≤140737488355328:=by omega
     rw [hfl] at hn2 ih
     rw [List.length_append,List.length_singleton,List.length_append,List.length_singleton] at ih
     have s1:∀u w:Option (List AV),(X++[u]).set X.length w=X++[w]:=fun u w=>by simp
     have s2:∀u:Option (List AV),(X++[u])[X.length]?=some u:=fun u=>by simp
     simp only [Ex.cl] at hn2
     rw [g145L0e] at ih ⊢
     rcases hA with rfl | ⟨b,hb,rfl,hxb⟩
     · generalize cq Ex.cells acc=F at *
       simp [hn2] at ih
       simp (disch:=omega) [-getElem?_pos,g145B0,hx,hi,az,hn3,r1,r2,r3,s1,s2,hb2]
       rw [g145L0e]
       simp [hn2,ih]
     · have q1:=rD lh hx (o:=3) (k:=11) (by omega)
       have q2:i*14+3+11≤e.aY.length*14:=by omega
       have q3:(cq Ar.cells e.aY).length=e.aY.length*14:=eE lh
       have q4:c_ (cq Ar.cells e.aY)=false:=eK dh
       have q5:(((Ar.cells x).drop 3).take 11).map AV.pv=x.body.cl:=by simp [Ar.cells,hcl]
       have q6:∀u:Option (List AV),(X++[u])[b]?=X[b]?:=fun u=>List.getElem?_append_left hb
       rw [q5] at q1
       generalize cq Ar.cells e.aY=T at *
       generalize cq Ex.cells acc=F at *
       simp [hn2] at ih q1
       simp (disch:=omega) [-getElem?_pos,g145B0,hx,hi,az,hn3,r1,r2,r3,s1,s2,hb2,hxb,q1,q2,q3,q4,q6]
       rw [g145L0e]
       simp [hn2,ih]
theorem LW {l:List Ex}:((fG (cq Ex.cells l)).bind (fh 11 true l.length)).map PV.aE=some (.aE (l.map Ex.pv)):=rG eT
theorem LX {l:List Ex}:((l.map Ex.pv).flatMap bq).map AV.pv=cq Ex.cells l:=rH eT
theorem c145i {e:Ex} {A:AV} (h:e.kids.length≤1000) (ha:e.aY.length≤1000) {X:Sh} (hX:bN X) (hA:R7 A e.aY X):∃k,(aL AP).i 145 [.agg (e.MC A)] X []=some (if e.ch=[] then ([.own [] 0],X,[0]) else ([.bz (X.length+k) 11 e.ch.length true],X++nn k++[some (cq Ex.cells e.ch)],[])):=by
 obtain ⟨k,h2⟩:=N3 (A:=A) ha _ 0 rfl (by omega) X e.kids hX hA (by omega)
 rw [List.drop_zero] at h2
 change cl AP g145L0 _=some (.exit 0,⟨[(1,.aB 1 0),(3,hV (X++nn k) e.ch),(4,.pv (vI e.aY.length)),(12,.pv (.bool false))],[(1,e.MC A)],hS (X++nn k) e.ch,hT e.ch⟩) at h2
 refine ⟨k,?_⟩
 rw [aP (af:=g145) rfl (by simp [g145])]
 have hb:e.kids.length*152≤140737488355328:=by omega
 have hm:=LX (l:=e.kids)
 have hq:=hX.norm
 have hq0:∀aQ ts,cf aQ ts (X++[some (cq Ex.cells e.kids)])=(X++[some (cq Ex.cells e.kids)],aQ,ts):=(hX.app (bN.one dh)).norm
 have hq1:∀aQ ts,cf aQ ts (X++nn k)=(X++nn k,aQ,ts):=(hX.app (gE k)).norm
 have hq2:∀aQ ts,cf aQ ts (X++(nn k++[some (cq Ex.cells e.ch)]))=(X++(nn k++[some (cq Ex.cells e.ch)]),aQ,ts):=(hX.app ((gE k).app (bN.one dh))).norm
 have hlt:¬X.length+k<X.length:=by omega
 have hln:(X++nn k).length=X.length+k:=by simp
 have hlf:bm A=true∧bP A=true:=by rcases hA with rfl | ⟨b,_,rfl,_⟩<;>exact ⟨rfl,rfl⟩
 have hkt:(X++nn k).take X.length=X:=by simp
 have e1:∀(V:AV) (T:aH) (S:Sh),(V=hV X e.kids∧T=hT e.kids∨e.kids=[]∧V=.bJ []∧T=[])→S=hS X e.kids→after (cl AP g145L0) (cl AP g145B0 (norm (restrict [1,3,4] ⟨[(1,.aB 1 0),(3,V),(4,.pv (vI 0))],[(1,e.MC A)],S,T⟩))) =
     some (.exit 0,⟨[(1,.aB 1 0),(3,hV (X++nn k) e.ch),(4,.pv (vI e.aY.length)),(12,.pv (.bool false))],[(1,e.MC A)],hS (X++nn k) e.ch,hT e.ch⟩):=by
   rintro V T S hV' rfl
   rw [←h2,g145L0e]
   rcases hV' with ⟨rfl,rfl⟩ | ⟨h0,rfl,rfl⟩
   · rfl
   · simp only [hV,hS,hT,h0,if_true]
     rcases hA with rfl | ⟨b,_,rfl,_⟩<;>simp [hq]
 clear h2
 by_cases hc:e.ch=[]
 · have h0:e.kids=[]:=by have:=hc;simp only [Ex.ch,List.append_eq_nil_iff] at this;exact this.1
   have f:=e1 (.bJ []) [] X (.inr ⟨h0,rfl,rfl⟩) (by simp [hS,h0])
   simp only [hc,hV,hS,hT,if_true] at f ⊢
   rcases hA with rfl | ⟨b,_,rfl,_⟩<;>simp [hq,h0] at f<;>simp [g145,h0,hq,hq1,g145L0e,f,hln,hkt]
 · by_cases h0:e.kids=[]
   · have f:=e1 (.bJ []) [] X (.inr ⟨h0,rfl,rfl⟩) (by simp [hS,h0])
     simp only [hV,hS,hT,if_neg hc,List.append_assoc,hln] at f ⊢
     generalize X++(nn k++[some (cq Ex.cells e.ch)])=S2 at *
     rcases hA with rfl | ⟨b,_,rfl,_⟩<;>simp [hq,h0] at f<;>simp [g145,h0,hq,hq2,g145L0e,f,hlt]
   · have f:=e1 (.bz X.length 11 e.kids.length true) [] (X++[some (cq Ex.cells e.kids)]) (.inl ⟨by simp [hV,h0],by simp [hT,h0]⟩) (by simp [hS,h0])
     simp only [hV,hS,hT,if_neg hc,List.append_assoc,hln] at f ⊢
     generalize X++(nn k++[some (cq Ex.cells e.ch)])=S2 at *
     have hb2:e.kids.length*152≤140737488355328:=by omega
     generalize cq Ex.cells e.kids=F at *
     rcases hA with rfl | ⟨b,_,rfl,_⟩<;>simp [hq,hq0,h0] at f<;>simp [g145,h0,hb2,hm,hq,hq0,hq2,g145L0e,f,hlt]
theorem c145 {e:Ex} (h:e.Ok):(aL AP).p 145 [e.pv]=some [.aE (e.ch.map Ex.pv)]:=by
 have hk:=h.k
 have ha:=h.a
 obtain ⟨k,h2⟩:=N3 (A:=.pv (.aE (e.aY.map Ar.pv))) ha _ 0 rfl (by omega) [] e.kids (by intro cs h;simp at h) (.inl rfl) (by omega)
 rw [List.drop_zero] at h2
 change cl AP g145L0 _=some (.exit 0,⟨[(1,.aB 1 0),(3,hV ([]++nn k) e.ch),(4,.pv (vI e.aY.length)),(12,.pv (.bool false))],[(1,e.MC (.pv (.aE (e.aY.map Ar.pv))))],hS ([]++nn k) e.ch,hT e.ch⟩) at h2
 have hb2:e.kids.length*152≤140737488355328:=by omega
 have hm:=LX (l:=e.kids)
 have hl:=LW (l:=e.ch)
 have hlen:(cq Ex.cells e.ch).length=e.ch.length*11:=eE eT
 have hq0:∀aQ ts,cf aQ ts ([some (cq Ex.cells e.kids)])=([some (cq Ex.cells e.kids)],aQ,ts):=(bN.one dh).norm
 rw [ah (af:=g145) rfl rfl (by decide)]
 by_cases hc:e.ch=[]
 · have h0:e.kids=[]∧e.aY=[]:=by have:=hc;simpa [Ex.ch] using this
   simp only [hc,hV,hS,hT,if_true,h0.1] at h2 ⊢
   rw [g145L0e] at h2
   simp [h0.1,h0.2] at h2
   simp [g145,h0.1,h0.2,g145L0e,h2]
 · have hg:∀Z:Option (List AV),([]++nn k++[Z])[k]?=some Z:=fun Z=>by simp
   by_cases h0:e.kids=[]
   · simp only [hV,hS,hT,if_neg hc,h0,if_true] at h2 ⊢
     have hg1:=hg (some (cq Ex.cells e.ch))
     generalize []++nn k++[some (cq Ex.cells e.ch)]=S2 at *
     generalize cq Ex.cells e.ch=F at *
     rw [g145L0e] at h2
     simp [h0] at h2
     simp at hl
     simp [-getElem?_pos,g145,h0,g145L0e,h2,hg1,hlen,hl]
   · simp only [hV,hS,hT,if_neg hc,if_neg h0] at h2 ⊢
     have hg1:=hg (some (cq Ex.cells e.ch))
     generalize []++nn k++[some (cq Ex.cells e.ch)]=S2 at *
     generalize cq Ex.cells e.ch=F at *
     generalize cq Ex.cells e.kids=F0 at *
     rw [g145L0e] at h2
     simp [hq0] at h2 hl
     simp [-getElem?_pos,g145,h0,hb2,hm,hq0,g145L0e,h2,hg1,hlen,hl]
def zO:List AV:=[.pv (vI 0),.pv (vI 0),.pv (.str []),.pv (vI 0),.own [] 0,.own [] 1,.pv (vI 0),.pv (.str []),.pv (vI 0),.pv (vI 0),.own [] 2]
end Go.Ab.Lw
namespace Go.Ab.Lw
open Ev
def LY (l:List Ty) (t:Ty):Option Ty:=if t.kind=2∧0≤t.id∧t.id<l.length then l[t.id.toNat]? else none
theorem mo {l:List Ty} {t u:Ty} (h:LY l t=some u):t.kind=2∧0≤t.id∧t.id<l.length∧l[t.id.toNat]?=some u:=by
 unfold LY at h
 split at h
 · rename_i c;exact ⟨c.1,c.2.1,c.2.2,h⟩
 · cases h
theorem Ap {l:List Ty} {t:Ty} (h:LY l t=none):¬(t.kind=2∧0≤t.id∧t.id<l.length):=by
 intro c
 unfold LY at h
 rw [if_pos c] at h
 rw [List.getElem?_eq_none_iff] at h
 omega
mutual
def Ty.m7 (l:List Ty):Ty→Ty
 | ⟨k,n,i,h,as⟩=>(LY l ⟨k,n,i,h,as⟩).getD ⟨k,n,i,h,Ty.LZ l as⟩
def Ty.LZ (l:List Ty):List Ty→List Ty
 | []=>[]
 | a::r=>a.m7 l::Ty.LZ l r
end
theorem Ty.Aq (l:List Ty):∀as:List Ty,Ty.LZ l as=as.map (Ty.m7 l)
 | []=>by simp [Ty.LZ]
 | a::r=>by simp [Ty.LZ,Ty.Aq l r]
theorem Ty.mq (l:List Ty) (t:Ty):t.m7 l=(LY l t).getD ⟨t.kind,t.name,t.id,t.home,t.args.map (Ty.m7 l)⟩:=by
 cases t;simp only [Ty.m7,Ty.Aq]
theorem Up {s:List Ty} {t:Ty} (hS:Sm t.args) (h:∀x∈t.args,(aL AP).p 48 [x.pv,.aE (s.map Ty.pv)]=some [(x.m7 s).pv]):∀(n i:Nat),t.args.length-i=n→i≤t.args.length→∀acc:List Ty,acc=(t.args.take i).map (Ty.m7 s) →
   cl AP g48L0 ⟨[(1,.pv (.aE (s.map Ty.pv))),(2,.aB 2 0),(4,.aB 4 0),(5,.aB 5 0),(6,.pv (vI i))],
     [(2,[.pv (vI t.kind),.pv (.str t.name),.pv (vI t.id),.pv (vI t.home),.pv (.aE (t.args.map Ty.pv))]),(4,[.pv (vI 0),.pv (.str []),.pv (vI 0),.pv (vI 0),.own [] 0]),
       (5,[.pv (vI t.kind),.pv (.str t.name),.pv (vI t.id),.pv (vI t.home),.own (acc.map Ty.pv) 1])],[],[0,acc.length]⟩ =
     some (.exit 0,⟨[(1,.pv (.aE (s.map Ty.pv))),(2,.aB 2 0),(4,.aB 4 0),(5,.aB 5 0),(6,.pv (vI t.args.length)),(33,.pv (.bool false))],
     [(2,[.pv (vI t.kind),.pv (.str t.name),.pv (vI t.id),.pv (vI t.home),.pv (.aE (t.args.map Ty.pv))]),(4,[.pv (vI 0),.pv (.str []),.pv (vI 0),.pv (vI 0),.own [] 0]),
       (5,[.pv (vI t.kind),.pv (.str t.name),.pv (vI t.id),.pv (vI t.home),.own ((t.args.map (Ty.m7 s)).map Ty.pv) 1])],[],[0,t.args.length]⟩)
 | 0,i,hn,hi,acc,ha=>by
   have:i=t.args.length:=by omega
   subst this
   subst ha
   rw [g48L0e]
   simp [g48B0]
 | n+1,i,hn,hi,acc,ha=>by
   have hi:i<t.args.length:=by omega
   obtain ⟨x,hx⟩:=bM hi
   unfold Sm at hS
   have hb:(acc.length+1)*64≤140737488355328:=by subst ha;simp;omega
   have hc:=h x (bA hx)
   have ih:=Up hS h n (i+1) (by omega) (by omega) (acc++[x.m7 s]) (by rw [List.take_add_one,hx,ha];simp)
   rw [g48L0e] at ih ⊢
   simp at ih hc
   simp (disch:=omega) [-getElem?_pos,g48B0,hx,hi,hc,hb,az]
   rw [g48L0e]
   simp [ih]
theorem c48 {s:List Ty} (hs:Sm s) {t:Ty} (hO:t.Ok):(aL AP).p 48 [t.pv,.aE (s.map Ty.pv)]=some [(t.m7 s).pv]:=by
 revert hO
 refine Ty.gg (p:=fun t=>t.Ok→(aL AP).p 48 [t.pv,.aE (s.map Ty.pv)]=some [(t.m7 s).pv]) ?_ t
 intro t ih hO
 rw [ah (af:=g48) rfl rfl (by decide)]
 unfold Sm at hs
 have h:=Up (s:=s) hO.sm (fun x hx=>ih x hx (hO.iv x hx)) _ 0 rfl (by omega) [] (by simp)
 rw [g48L0e] at h
 simp at h
 cases hp:LY s t with
 | some u=>
   obtain ⟨a,b,c,d⟩:=mo hp
   have b1:¬t.id<0:=by omega
   simp (disch:=omega) [-getElem?_pos,g48,a,b,b1,c,d,Ty.mq s t,hp]
 | none=>
   have q:=Ap hp
   by_cases a:t.kind=2
   · by_cases b:0≤t.id
     · have c:¬t.id<s.length:=fun c=>q ⟨a,b,c⟩
       simp [a] at h
       simp (disch:=omega) [-getElem?_pos,g48,a,b,c,g48L0e,h,Ty.mq s t,hp]
     · simp [a] at h
       simp (disch:=omega) [-getElem?_pos,g48,a,b,g48L0e,h,Ty.mq s t,hp]
   · simp (disch:=omega) [-getElem?_pos,g48,a,g48L0e,h,Ty.mq s t,hp]
inductive Ty.Wb:Ty→Prop
 | mk {t:Ty}:(t.kind=2→t.args=[])→(∀x∈t.args,Ty.Wb x)→Ty.Wb t
theorem L0 {s:List Ty} (hs:∀a∈s,a.Ok) {t:Ty} (h:t.Ok):(t.m7 s).Ok:=by
 revert h
 refine Ty.gg (p:=fun t=>t.Ok→(t.m7 s).Ok) ?_ t
 intro t ih h
 rw [Ty.mq]
 cases hp:LY s t with
 | some u=>exact hs u (bA (mo hp).2.2.2)
 | none=>
   refine ⟨?_,?_⟩
   · have:=h.sm;unfold Sm at this ⊢;simpa using this
   · intro x hx;simp at hx
     obtain ⟨y,hy,rfl⟩:=hx
     exact ih y hy (h.iv y hy)
end Go.Ab.Lw
namespace Go.Ab.Lw
open Ev
structure Good (S:List Ty) (t:Ty):Prop where
 ok:t.Ok
 wf:t.Wf
 sub:∀x∈t.ff 1,x∈S
theorem vD {t:Ty} (hW:t.Wf):∀x∈t.nodes,x.kind=1→x∈t.ff 1:=by
 revert hW
 refine Ty.gg (p:=fun t=>t.Wf→∀x∈t.nodes,x.kind=1→x∈t.ff 1) ?_ t
 intro t ih hW x hx hk
 rw [Ty.aS] at hx
 rw [Ty.mj]
 simp only [List.mem_cons,List.mem_flatMap] at hx
 rcases hx with rfl | ⟨y,hy,hx⟩
 · have ea:=hW.var hk
   simp [hk,ea]
 · have:¬(t.kind=1∧t.args.length=0):=by
     rintro ⟨_,h⟩
     have:t.args=[]:=by simpa using h
     rw [this] at hy;simp at hy
   rw [if_neg this]
   simp only [List.mem_flatMap]
   exact ⟨y,hy,ih y hy (hW.iv y hy) x hx hk⟩
theorem vars56 {S:List Ty} (hf:S.length<1099511627776) (hO:∀x∈S,x.Ok) {l:List Ty} (hS:Sm l) (hG:∀t∈l,Good S t):(aL AP).p 56 [.aE (l.map Ty.pv)]=some [.aE ((vars l).map vI)]:=by
 rw [←tH (fun t ht=>(hG t ht).wf)]
 refine c56 hf hO hS (fun t ht=>(hG t ht).ok) ?_
 intro x hx
 simp only [List.mem_flatMap] at hx
 obtain ⟨t,ht,hx⟩:=hx
 exact (hG t ht).sub x hx
theorem Qp {l:List En} (hS:Sm l):∀(n i:Nat),l.length-i=n→i≤l.length→∀acc:List En,acc.length≤i →
   cl AP g201L0 ⟨[(0,.pv (.aE (l.map En.pv))),(3,.own (acc.map En.pv) 0),(4,.pv (vI i))],[],[],[acc.length]⟩ =
     some (.exit 0,⟨[(0,.pv (.aE (l.map En.pv))),(3,.own ((acc++dX (l.drop i)).map En.pv) 0),(4,.pv (vI l.length)),(10,.pv (.bool false))],[],[],[(acc++dX (l.drop i)).length]⟩)
 | 0,i,hn,hi,acc,ha=>by
   have:i=l.length:=by omega
   subst this
   rw [g201L0e]
   simp [g201B0,dX]
 | n+1,i,hn,hi,acc,ha=>by
   have hi:i<l.length:=by omega
   obtain ⟨x,hx⟩:=bM hi
   have k:=c181 (l:=l.drop (i+1)) (s:=x.name) (by unfold Sm at hS ⊢;simp;omega)
   unfold Sm at hS
   have hb:(acc.length+1)*88≤140737488355328:=by omega
   have hsl:=TJ (sz:=7) (l:=l.map En.pv) (k:=.i64) (h:=(i:Int)+1) (by omega) (by simp;omega) (by simp)
   have hd:((i:Int)+1).toNat=i+1:=by omega
   rw [hd] at hsl
   rw [cX hx]
   simp only [N0] at k
   cases e:EO (l.drop (i+1)) x.name with
   | some c=>
     have ea:(l.drop (i+1)).any (fun y=>decide (y.name=x.name))=true:=any_none.2 ⟨c,e⟩
     have es:dX (x::l.drop (i+1))=dX (l.drop (i+1)):=by simp only [dX,ea,if_true]
     have ih:=Qp hS n (i+1) (by omega) (by omega) acc (by omega)
     rw [g201L0e] at ih ⊢
     rw [e] at k
     simp at ih k
     simp (disch:=omega) [-getElem?_pos,g201B0,hx,hi,az,hsl,k,es]
     rw [g201L0e]
     simp [ih]
   | none=>
     have ea:(l.drop (i+1)).any (fun y=>decide (y.name=x.name))=false:=by
       cases h:(l.drop (i+1)).any (fun y=>decide (y.name=x.name)) with
       | false=>rfl
       | true=>obtain ⟨c,hc⟩:=any_none.1 h;rw [e] at hc;cases hc
     have es:dX (x::l.drop (i+1))=x::dX (l.drop (i+1)):=by simp only [dX,ea];simp
     have ih:=Qp hS n (i+1) (by omega) (by omega) (acc++[x]) (by simp;omega)
     rw [g201L0e] at ih ⊢
     rw [e] at k
     simp at ih k
     simp (disch:=omega) [-getElem?_pos,g201B0,hx,hi,az,hsl,k,es,hb]
     rw [g201L0e]
     simp [ih]
theorem c201 {l:List En} (hS:Sm l):(aL AP).p 201 [.aE (l.map En.pv)]=some [.aE ((dX l).map En.pv)]:=by
 have h:=Qp hS _ 0 rfl (by omega) [] (by simp)
 rw [ah (af:=g201) rfl rfl (by decide)]
 rw [g201L0e] at h
 simp at h
 simp [g201,g201L0e,h]
end Go.Ab.Lw
namespace Go.Ab.Lw
inductive Ty.Kn (K:Int→Prop):Ty→Prop
 | mk {t:Ty}:(t.kind≠4→K t.kind∧t.args=[])→t.name.length≤100→(∀x∈t.args,x.Kn K)→t.Kn K
theorem Ty.Kn.hd {K:Int→Prop} {t:Ty} (h:t.Kn K):t.kind≠4→K t.kind∧t.args=[]:=by cases h;assumption
theorem Ty.Kn.nm {K:Int→Prop} {t:Ty} (h:t.Kn K):t.name.length≤100:=by cases h;assumption
theorem Ty.Kn.kd {K:Int→Prop} {t:Ty} (h:t.Kn K):∀x∈t.args,x.Kn K:=by cases h;assumption
theorem Ty.Kn.imp {K K':Int→Prop} (hK:∀k,K k→K' k) {t:Ty} (h:t.Kn K):t.Kn K':=by
 induction h with
 | mk h1 hn _ ih=>exact .mk (fun q=>⟨hK _ (h1 q).1,(h1 q).2⟩) hn ih
theorem Ty.Kn.wf {K:Int→Prop} {t:Ty} (h:t.Kn K):t.Wf:=by
 induction h with
 | mk h1 _ _ ih=>exact ⟨fun q=>(h1 (by rw [q];decide)).2,ih⟩
theorem Ty.Kn.cw {K:Int→Prop} {t:Ty} (h:t.Kn K):t.Cw:=by
 induction h with
 | mk h1 _ _ ih=>exact ⟨fun q=>(h1 q).2,ih⟩
theorem Ty.Kn.bare {K:Int→Prop} {t:Ty} (h:t.args=[]) (hk:t.kind≠4→K t.kind) (hn:t.name.length≤100):t.Kn K:=.mk (fun q=>⟨hk q,h⟩) hn (by rw [h];simp)
theorem Ty.Kn.nodes {K:Int→Prop} {t:Ty} (h:t.Kn K):∀y∈t.nodes,y.kind≠4→K y.kind∧y.args=[]:=by
 induction h with
 | @mk t h1 _ _ ih=>
   intro y hy
   rw [Ty.aS] at hy
   simp only [List.mem_cons,List.mem_flatMap] at hy
   rcases hy with rfl | ⟨a,ha,hy⟩
   · exact h1
   · exact ih a ha y hy
@[simp] def KS (k:Int):Prop:=k=0∨k=1∨k=3
abbrev Ty.Kw (t:Ty):Prop:=t.Kn KS
theorem Ty.Kw.var {t:Ty} (h:t.Kw):t.kind=1→t.args=[]:=fun q=>(Ty.Kn.hd h (by rw [q];decide)).2
theorem Ty.Kw.iv {t:Ty} (h:t.Kw):∀x∈t.args,x.Kw:=Ty.Kn.kd h
@[simp] def KG (k:Int):Prop:=k=0∨k=3
@[simp] def KC (k:Int):Prop:=k=0∨k=2∨k=3
@[simp] def KV (k:Int):Prop:=k=0∨k=1∨k=2∨k=3
theorem O0:∀k,KG k→KS k:=by intro k h;simp at h ⊢;omega
theorem R8:∀k,KG k→KC k:=by intro k h;simp at h ⊢;omega
theorem R9:∀k,KC k→KV k:=by intro k h;simp at h ⊢;omega
theorem D2 {K K':Int→Prop} {s:List As} {t:Ty} (h:t.Kn K) (hK:∀k,K k→k≠1→K' k) (hs:∀i x,lg s i=some x→x.Kn K') (h1:K' 1∨∀y∈t.nodes,y.kind=1→∃x,lg s y.id=some x):(t.sub s).Kn K':=by
 induction h with
 | @mk t hh hn _ ih=>
   have hself:t∈t.nodes:=by rw [Ty.aS];simp
   rw [Ty.sub_eq]
   by_cases q:t.kind=1
   · rw [if_pos q]
     cases e:lg s t.id with
     | some x=>simpa using hs _ _ e
     | none=>
       rcases h1 with h1 | h1
       · have:=hh (by rw [q];decide)
         exact .mk (fun _=>⟨by simp only [Option.getD_none];rw [q];exact h1,by simpa using this.2⟩) (by simpa using hn) (by rw [Option.getD_none,this.2];simp)
       · obtain ⟨x,hx⟩:=h1 t hself q
         rw [hx] at e;cases e
   · rw [if_neg q]
     refine .mk (fun r=>?_) hn ?_
     · have:=hh r
       exact ⟨hK _ this.1 q,by simp [this.2]⟩
     · intro x hx
       simp only [List.mem_map] at hx
       obtain ⟨a,ha,rfl⟩:=hx
       refine ih a ha ?_
       rcases h1 with h1 | h1
       · exact .inl h1
       · right
         intro y hy
         refine h1 y ?_
         rw [Ty.aS]
         simp only [List.mem_cons,List.mem_flatMap]
         exact .inr ⟨a,ha,hy⟩
theorem L1 {K K':Int→Prop} {l:List Ty} {t:Ty} (h:t.Kn K) (hK:∀k,K k→k≠2→K' k) (hs:∀x∈l,x.Kn K') (h1:∀y∈t.nodes,y.kind=2→0≤y.id∧y.id<l.length):(t.m7 l).Kn K':=by
 induction h with
 | @mk t hh hn _ ih=>
   have hself:t∈t.nodes:=by rw [Ty.aS];simp
   rw [Ty.mq]
   cases e:LY l t with
   | some x=>
     obtain ⟨_,_,_,hx⟩:=mo e
     simpa using hs _ (bA hx)
   | none=>
     have q:t.kind≠2:=fun q=>Ap e ⟨q,(h1 t hself q).1,(h1 t hself q).2⟩
     simp only [Option.getD_none]
     refine .mk (fun r=>?_) hn ?_
     · have:=hh r
       exact ⟨hK _ this.1 q,by simp [this.2]⟩
     · intro x hx
       simp only [List.mem_map] at hx
       obtain ⟨a,ha,rfl⟩:=hx
       refine ih a ha ?_
       intro y hy
       refine h1 y ?_
       rw [Ty.aS]
       simp only [List.mem_cons,List.mem_flatMap]
       exact .inr ⟨a,ha,hy⟩
end Go.Ab.Lw
namespace Go.Ab.Lw
open Ev
theorem Ex.N4 {e x:Ex} (h:x∈e.ch):SizeOf.sizeOf x<SizeOf.sizeOf e:=by
 rw [Ex.ch,List.mem_append,List.mem_map] at h
 cases e
 rcases h with h | ⟨a,ha,rfl⟩
 · have:=_root_.List.sizeOf_lt_of_mem h;simp at *;omega
 · have:=_root_.List.sizeOf_lt_of_mem ha;have:=iw.IF a;simp at *;omega
def Ex.sz (e:Ex):Nat:=1+(e.ch.attach.map fun x=>x.1.sz).sum
termination_by SizeOf.sizeOf e
decreasing_by exact Ex.N4 x.2
theorem Ex.ph (e:Ex):e.sz=1+(e.ch.map Ex.sz).sum:=by
 rw [Ex.sz,List.map_attach_eq_pmap,List.pmap_eq_map]
theorem Ex.n_ (e:Ex):1≤e.sz:=by rw [Ex.ph];omega
theorem tM {α:Type} {l:List α} {f:α→Nat} {M:Nat} (h:∀x∈l,f x≤M):(l.map f).sum≤l.length*M:=by
 induction l with
 | nil=>simp
 | cons a r ih=>
   have h1:=h a (by simp)
   have h2:=ih fun x hx=>h x (by simp [hx])
   simp only [List.map_cons,List.sum_cons,List.length_cons,Nat.add_mul]
   omega
theorem tN {α:Type} {l:List α} {f:α→Nat} {x:α} (h:x∈l):f x≤(l.map f).sum:=by
 induction l with
 | nil=>cases h
 | cons a r ih=>
   simp only [List.map_cons,List.sum_cons]
   rcases List.mem_cons.1 h with rfl | h
   · omega
   · have:=ih h;omega
@[simp] def KT (k:Int):Prop:=k=0∨k=5
inductive mr:Ex→Prop
 | leaf {e:Ex}:(e.kind=1∨e.kind=2)∧e.name.length≤100∨e.kind=3∧0≤e.num∧e.num<4∨e.kind=10→e.kids=[]→e.aY=[]→mr e
 | lam {e a:Ex}:e.kind=4→e.name.length≤100→e.kids=[a]→e.aY=[]→mr a→mr e
 | app {e a b:Ex}:e.kind=5→e.kids=[a,b]→e.aY=[]→mr a→mr b→mr e
 | xA {e a b:Ex}:e.kind=6∨e.kind=7→e.name.length≤100→e.kids=[a,b]→e.aY=[]→mr a→mr b→mr e
 | qX {e a:Ex}:e.kind=8→e.kids=[a]→mr a→e.aY.length≤10 →
     (∀x∈e.aY,x.gU.length≤100∧x.vars.length≤10∧∀v∈x.vars,v.length≤100)→(∀x∈e.aY,mr x.body)→mr e
 | N1 {e a:Ex}:e.kind=9→e.kids=[a]→e.aY=[]→e.ty.Kn KT→e.ty.nodes.length≤10000→mr a→mr e
 | held {e a:Ex}:e.kind=11→e.kids=[a]→e.aY=[]→mr a→mr e
theorem mr.c {e:Ex} (h:mr e):∀x∈e.ch,mr x:=by
 intro x hx
 rw [Ex.ch,List.mem_append,List.mem_map] at hx
 cases h with
 | leaf _ h2 h3=>rw [h2,h3] at hx;simp at hx
 | lam _ _ h2 h3 h=>rw [h2,h3] at hx;simp at hx;subst hx;exact h
 | app _ h2 h3 h h'=>rw [h2,h3] at hx;simp at hx;rcases hx with rfl | rfl<;>assumption
 | xA _ _ h2 h3 h h'=>rw [h2,h3] at hx;simp at hx;rcases hx with rfl | rfl<;>assumption
 | N1 _ h2 h3 _ _ h=>rw [h2,h3] at hx;simp at hx;subst hx;exact h
 | held _ h2 h3 h=>rw [h2,h3] at hx;simp at hx;subst hx;exact h
 | qX _ h2 h _ _ h6=>
   rw [h2] at hx
   simp at hx
   rcases hx with rfl | ⟨a,ha,rfl⟩
   · exact h
   · exact h6 a ha
def wN (n:Nat):Nat:=50 ^ (n / 12)*(2*(n % 12)+1)
theorem R_ {n m:Nat} (h:n≤m):wN n≤wN m:=by
 have step:∀n,wN n≤wN (n+1):=by
   intro n
   unfold wN
   by_cases q:n % 12=11
   · have h1:(n+1) / 12=n / 12+1:=by omega
     have h2:(n+1) % 12=0:=by omega
     rw [h1,h2,q,Nat.pow_succ]
     generalize 50 ^ (n / 12)=P
     omega
   · have h1:(n+1) / 12=n / 12:=by omega
     have h2:(n+1) % 12=n % 12+1:=by omega
     rw [h1,h2]
     exact Nat.mul_le_mul_left _ (by omega)
 induction h with
 | refl=>exact Nat.le_refl _
 | step _ ih=>exact Nat.le_trans ih (step _)
theorem tO (m:Nat):wN (12*m)=50 ^ m:=by
 unfold wN
 have h1:12*m / 12=m:=by omega
 have h2:12*m % 12=0:=by omega
 rw [h1,h2];omega
end Go.Ab.Lw
namespace Go.Ab.Lw
open Ev
theorem cz {a b:List UInt8} (h:a.length+b.length≤9223372036854775807):bW (.bin .add) [.pv (.str a),.pv (.str b)]=some (.pv (.str (a++b))):=by rw [bK,if_pos h]
structure gT (AQ:Nat→Option aD):Prop where
 tP:AQ 248=some g248
 Qq:AQ 252=some g252
 TL:AQ 255=some g255
 TM:AQ 257=some g257
 TN:AQ 258=some g258
 TO:AQ 259=some g259
 TS:AQ 260=some g260
 TT:AQ 264=some g264
 TU:AQ 265=some g265
 TV:AQ 269=some g269
def gF (b:Bool) (s:cm):cm:=if b then 40::(s++[41]) else s
theorem kF {b:Bool} {s:cm}:(gF b s).length≤s.length+2:=by cases b<;>simp [gF]
theorem skolem {α β:Type} [Inhabited β] {l:List α} {P:α→β→Prop} (h:∀x∈l,∃y,P x y):∃f:α→β,∀x∈l,P x (f x):=by
 classical
 refine ⟨fun x=>if hx:x∈l then Classical.choose (h x hx) else default,fun x hx=>?_⟩
 simp only [hx,dif_pos]
 exact Classical.choose_spec (h x hx)
section
variable {AQ:Nat→Option aD}
theorem c258 (hQ:gT AQ) {s:cm} {b:Bool} (h:s.length≤1000000000000000000):(aL AQ).p 258 [.str s,.bool b]=some [.str (gF b s)]:=by
 rw [ah (af:=g258) hQ.TN rfl (by decide)]
 cases b<;>simp (disch:=first | omega | (simp only [List.length_append,List.length_cons,List.length_nil];omega)) [-bK,cz,g258,gF]
def Ty.gG (t:Ty):Bool:=decide (t.kind=4) && (decide (t.name=[45,62]) && decide (t.args.length=2))
theorem c264 (hQ:gT AQ) {t:Ty}:(aL AQ).p 264 [t.pv]=some [.bool t.gG]:=by
 rw [ah (af:=g264) hQ.TT rfl (by decide)]
 by_cases h1:t.kind=4
 · by_cases h2:t.name=[45,62]
   · have e:decide ((t.args.length:Int)=2)=decide (t.args.length=2):=by simp;omega
     simp [g264,Ty.gG,h1,h2,e]
     omega
   · simp [g264,Ty.gG,h1,h2]
 · simp [g264,Ty.gG,h1]
theorem c265 (hQ:gT AQ) {t:Ty} {s:cm} (h:(aL AQ).p 252 [t.pv]=some [.str s]) (hs:s.length≤1000000000000000000) :
   (aL AQ).p 265 [t.pv]=some [.str (gF (decide (t.kind=4) && decide (t.args≠[])) s)]:=by
 have k:∀b,(aL AQ).p 258 [.str s,.bool b]=some [.str (gF b s)]:=fun b=>c258 hQ (b:=b) hs
 rw [ah (af:=g265) hQ.TU rfl (by decide)]
 have kt:=k true
 have kf:=k false
 clear k
 simp [gF] at kt kf
 by_cases h1:t.kind=4
 · by_cases h2:t.args=[]
   · simp [h1,h2] at h
     simp [g265,h,h1,h2,kf,gF]
   · have h3:0<t.args.length:=List.length_pos_iff.2 h2
     simp [h1] at h
     simp [g265,h,h1,h2,h3,kt,gF]
 · simp at h
   simp [g265,h,h1,kf,gF]
theorem R' (hQ:gT AQ) {args:List Ty} {f:Ty→cm} {M:Nat} (hA:args.length≤10000) (hM:M≤10000000000) (hf:∀x∈args,(aL AQ).p 265 [x.pv]=some [.str (f x)]∧(f x).length≤M) :
   ∀(n i:Nat),args.length-i=n→i≤args.length→∀acc:cm,acc.length≤100+i*(M+1) →
   cl AQ g252L0 ⟨[(3,.pv (.str acc)),(52,.pv (.aE (args.map Ty.pv))),(53,.pv (vI args.length)),(54,.pv (vI i))],[],[],[]⟩ =
     some (.exit 1,⟨[(3,.pv (.str (acc++(args.drop i).flatMap fun x=>32::f x))),(52,.pv (.aE (args.map Ty.pv))),(53,.pv (vI args.length)),(54,.pv (vI args.length)),(55,.pv (.bool false))],[],[],[]⟩)
 | 0,i,hn,hi,acc,ha=>by
   have:i=args.length:=by omega
   subst this
   rw [g252L0e]
   simp [g252B0]
 | n+1,i,hn,hi,acc,ha=>by
   have hi:i<args.length:=by omega
   obtain ⟨x,hx⟩:=bM hi
   obtain ⟨c,hl⟩:=hf x (bA hx)
   have hmul:(i+1)*(M+1)=i*(M+1)+(M+1):=Nat.add_mul _ _ _ |>.trans (by omega)
   have hi10:i*(M+1)≤10000*(M+1):=Nat.mul_le_mul_right _ (by omega)
   have ih:=R' hQ hA hM hf n (i+1) (by omega) (by omega) (acc++32::f x) (by simp;omega)
   rw [g252L0e] at ih ⊢
   rw [cX hx]
   simp at c ih
   simp (disch:=first | omega | (simp only [List.length_append,List.length_cons,List.length_nil];omega)) [-bK,cz,-getElem?_pos,g252B0,hi,hx,c,az]
   rw [g252L0e]
   simp [ih]
end
theorem Sa {t:Ty} {f:Ty→cm} {M:Nat} (hA:t.args.length≤10000) (hM:M≤10000000000) (hf:∀x∈t.args,(aL AP).p 270 [x.pv]=some [.str (f x)]∧(f x).length≤M) :
   ∀(n i:Nat),t.args.length-i=n→i≤t.args.length→∀acc:cm,acc.length≤100+i*(M+1) →
   cl AP g263L0 ⟨[(1,.aB 1 0),(10,.pv (.str acc)),(11,.pv (vI i))],[(1,[.pv (vI t.kind),.pv (.str t.name),.pv (vI t.id),.pv (vI t.home),.pv (.aE (t.args.map Ty.pv))])],[],[]⟩ =
     some (.exit 1,⟨[(1,.aB 1 0),(10,.pv (.str (acc++(t.args.drop i).flatMap fun x=>32::f x))),(11,.pv (vI t.args.length)),(65,.pv (.bool false))],[(1,[.pv (vI t.kind),.pv (.str t.name),.pv (vI t.id),.pv (vI t.home),.pv (.aE (t.args.map Ty.pv))])],[],[]⟩)
 | 0,i,hn,hi,acc,ha=>by
   have:i=t.args.length:=by omega
   subst this
   rw [g263L0e]
   simp [g263B0]
 | n+1,i,hn,hi,acc,ha=>by
   have hi:i<t.args.length:=by omega
   obtain ⟨x,hx⟩:=bM hi
   obtain ⟨c,hl⟩:=hf x (bA hx)
   have hmul:(i+1)*(M+1)=i*(M+1)+(M+1):=Nat.add_mul _ _ _ |>.trans (by omega)
   have hi10:i*(M+1)≤10000*(M+1):=Nat.mul_le_mul_right _ (by omega)
   have ih:=Sa hA hM hf n (i+1) (by omega) (by omega) (acc++32::f x) (by simp;omega)
   rw [g263L0e] at ih ⊢
   rw [cX hx]
   simp at c ih
   simp (disch:=first | omega | (simp only [List.length_append,List.length_cons,List.length_nil];omega)) [-bK,cz,-getElem?_pos,g263B0,hi,hx,c,az]
   rw [g263L0e]
   simp [ih]
theorem c270 {t:Ty} {s:cm} (h:(aL AP).p 263 [t.pv]=some [.str s]) (hs:s.length≤1000000000000000000) :
   (aL AP).p 270 [t.pv]=some [.str (gF (decide (t.kind=4) && decide (t.args≠[])) s)]:=by
 rw [ah (af:=g270) rfl rfl (by decide)]
 by_cases h1:t.kind=4
 · by_cases h2:t.args=[]
   · simp [h1,h2] at h
     simp [g270,h,h1,h2,gF]
   · have h3:0<t.args.length:=List.length_pos_iff.2 h2
     simp [h1] at h
     simp (disch:=first | omega | (simp only [List.length_append,List.length_cons,List.length_nil];omega)) [-bK,cz,g270,h,h1,h2,h3,gF]
 · simp at h
   simp [g270,h,h1,gF]
theorem c194s {t:Ty}:(aL AP).p 194 [t.pv]=some (match t.gG,t.args with
   | true,[a,b]=>[a.pv,b.pv,.bool true]
   | _,_=>[bO.pv,bO.pv,.bool false]):=by
 rw [ah (af:=g194) rfl rfl (by decide)]
 by_cases h1:t.kind=4
 · by_cases h2:t.name=[45,62]
   · match e:t.args with
     | [a,b]=>simp [g194,Ty.gG,h1,h2,e]
     | []=>simp [g194,Ty.gG,h1,h2,e,bO]
     | [a]=>simp [g194,Ty.gG,h1,h2,e,bO]
     | a::b::c::r=>
       have:¬((r.length:Int)+1+1+1=2):=by omega
       simp [g194,Ty.gG,h1,h2,e,bO,this]
   · simp [g194,Ty.gG,h1,h2,bO]
 · simp [g194,Ty.gG,h1,bO]
theorem L2 {l:List Ty} {g:Ty→cm} (h:∀x∈l,(g x).length≤105*x.nodes.length):(l.flatMap g).length≤105*(l.flatMap Ty.nodes).length:=by
 induction l with
 | nil=>simp
 | cons a r ih=>
   have h1:=h a (by simp)
   have h2:=ih fun x hx=>h x (by simp [hx])
   simp only [List.flatMap_cons,List.length_append]
   omega
theorem Ty.vE (t:Ty):1≤t.nodes.length:=by rw [Ty.aS];simp
theorem vF {t x:Ty} (h:x∈t.args):x.nodes.length<t.nodes.length:=by
 have:=tN (f:=fun x:Ty=>x.nodes.length) h
 rw [t.aS]
 simp only [List.length_cons,List.length_flatMap]
 omega
theorem D3 {t:Ty}:t.args.length<t.nodes.length:=by
 have:∀l:List Ty,l.length≤(l.flatMap Ty.nodes).length:=by
   intro l
   induction l with
   | nil=>simp
   | cons a r ih=>
     have:=a.vE
     simp only [List.flatMap_cons,List.length_append,List.length_cons]
     omega
 have:=this t.args
 rw [t.aS]
 simp only [List.length_cons]
 omega
theorem ET {AQ:Nat→Option aD} (hQ:gT AQ) (t:Ty):t.Kn KT→t.nodes.length≤10000→∃s:cm,s.length+3≤105*t.nodes.length∧(aL AQ).p 252 [t.pv]=some [.str s]∧(aL AP).p 263 [t.pv]=some [.str s]:=by
 refine Ty.gg (p:=fun t=>t.Kn KT→t.nodes.length≤10000→∃s:cm,s.length+3≤105*t.nodes.length∧(aL AQ).p 252 [t.pv]=some [.str s]∧(aL AP).p 263 [t.pv]=some [.str s]) ?_ t
 intro t ih hk0 hN
 have hl:=hk0.nm
 have hp:=t.vE
 have ha:=D3 (t:=t)
 obtain ⟨f,hf⟩:=skolem fun x hm=>ih x hm (hk0.kd x hm) (by have:=vF hm;omega)
 have fin:∀x∈t.args,(f x).length+3≤1050000:=fun x hm=>by have h1:=(hf x hm).1;have h2:=vF hm;omega
 by_cases hk5:t.kind=5
 · refine ⟨t.name,by omega,?_,?_⟩
   · rw [ah (af:=g252) hQ.Qq rfl (by decide)]
     simp [g252,hk5]
   · rw [ah (af:=g263) rfl rfl (by decide)]
     simp [g263,hk5]
 have hk:t.kind=4∨t.kind=0∧t.args=[]:=by
   by_cases q:t.kind=4
   · exact .inl q
   · obtain ⟨q1,q2⟩:=hk0.hd q
     simp at q1
     exact .inr ⟨by omega,q2⟩
 have k264:=c264 hQ (t:=t)
 by_cases hr:t.gG=true
 · have hk:t.kind=4:=by simp only [Ty.gG,Bool.and_eq_true,decide_eq_true_eq] at hr;exact hr.1
   obtain ⟨a,b,he⟩:∃a b,t.args=[a,b]:=by
     simp only [Ty.gG,Bool.and_eq_true,decide_eq_true_eq] at hr
     match e:t.args,hr.2.2 with
     | [a,b],_=>exact ⟨a,b,rfl⟩
   have fa:=fin a (by simp [he])
   have fb:=fin b (by simp [he])
   have hnn:t.nodes.length=1+a.nodes.length+b.nodes.length:=by rw [t.aS,he];simp;omega
   obtain ⟨la,pa,qa⟩:=hf a (by simp [he])
   obtain ⟨lb,pb,qb⟩:=hf b (by simp [he])
   have ka:=c264 hQ (t:=a)
   have ke:=c258 hQ (s:=f a) (b:=a.gG) (by omega)
   have hel:=kF (b:=a.gG) (s:=f a)
   have r1:=c194s (t:=t)
   have r2:=c194s (t:=a)
   rw [hr] at k264 r1
   rw [he] at r1
   clear hf fin ih
   refine ⟨gF a.gG (f a)++[32,45,62,32]++f b,by simp;omega,?_,?_⟩
   · rw [ah (af:=g252) hQ.Qq rfl (by decide)]
     generalize gF a.gG (f a)=E at *
     simp [he,hk] at k264 pa pb ka ke
     simp (disch:=first | omega | (simp only [List.length_append,List.length_cons,List.length_nil];omega)) [-bK,cz,g252,hk,he,k264,pa,pb,ka,ke]
   · rw [ah (af:=g263) rfl rfl (by decide)]
     simp [he,hk] at r1 qa qb
     cases q:a.gG with
     | false=>
       rw [q] at r2
       simp [bO] at r2
       simp (disch:=first | omega | (simp only [List.length_append,List.length_cons,List.length_nil];omega)) [-bK,cz,g263,hk,he,r1,r2,qa,qb,gF]
     | true=>
       obtain ⟨c,d,hc⟩:∃c d,a.args=[c,d]:=by
         simp only [Ty.gG,Bool.and_eq_true,decide_eq_true_eq] at q
         match e:a.args,q.2.2 with
         | [c,d],_=>exact ⟨c,d,rfl⟩
       rw [q,hc] at r2
       simp [hc,hk] at r2 qa r1
       simp (disch:=first | omega | (simp only [List.length_append,List.length_cons,List.length_nil];omega)) [-bK,cz,g263,hk,he,hc,r1,r2,qa,qb,gF]
 · have hr':t.gG=false:=by simpa using hr
   have h1:=R' hQ (args:=t.args) (f:=fun x=>gF (decide (x.kind=4) && decide (x.args≠[])) (f x)) (M:=1050000) (by omega) (by omega)
     (fun x hm=>⟨c265 hQ (hf x hm).2.1 (by have:=fin x hm;omega),by have:=fin x hm;have:=kF (b:=decide (x.kind=4) && decide (x.args≠[])) (s:=f x);omega⟩) _ 0 rfl (by omega) t.name (by omega)
   have h2:=Sa (t:=t) (f:=fun x=>gF (decide (x.kind=4) && decide (x.args≠[])) (f x)) (M:=1050000) (by omega) (by omega)
     (fun x hm=>⟨c270 (hf x hm).2.2 (by have:=fin x hm;omega),by have:=fin x hm;have:=kF (b:=decide (x.kind=4) && decide (x.args≠[])) (s:=f x);omega⟩) _ 0 rfl (by omega) t.name (by omega)
   have hlen:((t.args).flatMap fun x=>32::gF (decide (x.kind=4) && decide (x.args≠[])) (f x)).length≤105*(t.args.flatMap Ty.nodes).length:=L2 fun x hm=>by
     have h1:=(hf x hm).1
     have h2:=kF (b:=decide (x.kind=4) && decide (x.args≠[])) (s:=f x)
     simp only [List.length_cons]
     omega
   have hnn:t.nodes.length=1+(t.args.flatMap Ty.nodes).length:=by rw [t.aS];simp;omega
   rw [List.drop_zero] at h1 h2
   clear hf fin ih
   refine ⟨t.name++(t.args).flatMap fun x=>32::gF (decide (x.kind=4) && decide (x.args≠[])) (f x),by rw [List.length_append];omega,?_,?_⟩
   · rw [ah (af:=g252) hQ.Qq rfl (by decide)]
     generalize ((t.args).flatMap fun x=>32::gF (decide (x.kind=4) && decide (x.args≠[])) (f x))=E at *
     rw [hr'] at k264
     rw [g252L0e] at h1
     rcases hk with hk | ⟨hk,hz⟩
     · simp [hk] at k264 h1
       simp [g252,hk,k264,g252L0e,h1]
     · simp [hk,hz] at k264 h1
       simp [g252,hk,hz,k264,g252L0e,h1]
   · rw [ah (af:=g263) rfl rfl (by decide)]
     have r1:=c194s (t:=t)
     rw [hr'] at r1
     generalize ((t.args).flatMap fun x=>32::gF (decide (x.kind=4) && decide (x.args≠[])) (f x))=E at *
     rw [g263L0e] at h2
     rcases hk with hk | ⟨hk,hz⟩
     · simp [bO,hk] at r1 h2
       simp [g263,hk,r1,g263L0e,h2]
     · simp [bO,hk,hz] at r1 h2
       simp [g263,hk,hz,r1,g263L0e,h2]
end Go.Ab.Lw
namespace Go.Ab.Lw
open Ev
def m6:List AV:=[.pv (vI 0),.pv (vI 0),.pv (.str []),.pv (vI 0),.own [] 0,.own [] 1,.pv (vI 0),.pv (.str []),.pv (vI 0),.pv (vI 0),.own [] 2]
def rJ (d:Dt):List AV:=[.pv (vI d.pos),.pv (.str d.name),.pv (.aE (d.params.map .str)),.pv (.aE (d.cons.map nc.pv))]
def N5 (a:Ex) (as:List Ar):List AV:=[.pv (vI 8),.pv (vI 0),.pv (.str []),.pv (vI 0),.own [a.pv] 3,.own (as.map Ar.pv) 4,.pv (vI 0),.pv (.str []),.pv (vI 0),.pv (vI 0),.own [] 5]
def Sb (c:nc) (vs:List cm):List AV:=[.pv (vI 0),.pv (.str c.name),.own (vs.map .str) 6,.pv (vI 0),.pv (vI 0),.pv (.str []),.pv (vI 0),.own [] 7,.own [] 8,.pv (vI 0),.pv (.str []),.pv (vI 0),.pv (vI 0),.own [] 9]
def D4 (ds:List Dt) (dep:Nat) (d:Dt) (as:List Ar):Prop:=
 (∀x∈as,gD ds dep x.body)∧(∀x∈as,x.pos=0∧∀v∈x.vars,v∈nZ)∧(∀(i:Nat) (c:nc) (x:Ar),d.cons[i]?=some c→as[i]?=some x→x.gU=c.name∧x.vars.length=c.fields.length)
end Go.Ab.Lw
namespace Go.Ab.Lw
open Ev
def Ex.dF (e:Ex):Bool:=decide (e.kind=1) || (decide (e.kind=2) || (decide (e.kind=3) || (decide (e.kind=10) || (decide (e.kind=9) || decide (e.kind=11)))))
theorem c262 {e:Ex}:(aL AP).p 262 [e.pv]=some [.bool e.dF]:=by
 rw [ah (af:=g262) rfl rfl (by decide)]
 by_cases h1:e.kind=1
 · simp [g262,Ex.dF,h1]
 · by_cases h2:e.kind=2
   · simp [g262,Ex.dF,h2]
   · by_cases h3:e.kind=3
     · simp [g262,Ex.dF,h3]
     · by_cases h4:e.kind=10
       · simp [g262,Ex.dF,h4]
       · by_cases h5:e.kind=9
         · simp [g262,Ex.dF,h5]
         · by_cases h6:e.kind=11
           · simp [g262,Ex.dF,h6]
           · simp [g262,Ex.dF,h1,h2,h3,h4,h5,h6]
theorem c261 {e:Ex} {s:cm} {b:Bool} (h:(aL AP).p 249 [e.pv]=some [.str s]) (hs:s.length≤1000000000000000000):(aL AP).p 261 [e.pv,.bool b]=some [.str (gF (!b) s)]:=by
 rw [ah (af:=g261) rfl rfl (by decide)]
 simp at h
 cases b<;>simp (disch:=first | omega | (simp only [List.length_append,List.length_cons,List.length_nil];omega)) [-bK,cz,g261,gF,h]
theorem c256 {n:Int} (h0:0≤n) (h4:n<4):(aL AP).p 256 [vI n]=some [.str (Lib.decDigits n.toNat)]:=by
 have:n=0∨n=1∨n=2∨n=3:=by omega
 rw [ah (af:=g256) rfl rfl (by decide)]
 rcases this with rfl | rfl | rfl | rfl<;>simp [g256,g256L0e,g256B0,Lib.decDigits,az,IntKind.wrap,IntKind.bits,IntKind.signed,db,eF]
section
variable {AQ:Nat→Option aD}
theorem c255 (hQ:gT AQ) {n:Int} (h0:0≤n) (h4:n<4):(aL AQ).p 255 [vI n]=some [.str (Lib.decDigits n.toNat)]:=by
 rw [Ew hQ.TL rfl]
 have:n<100:=by omega
 simp [xu,h0,this]
theorem c259 (hQ:gT AQ) {e:Ex}:(aL AQ).p 259 [e.pv]=some [.bool e.dF]:=by
 rw [ah (af:=g259) hQ.TO rfl (by decide)]
 by_cases h1:e.kind=1
 · simp [g259,Ex.dF,h1]
 · by_cases h2:e.kind=2
   · simp [g259,Ex.dF,h2]
   · by_cases h3:e.kind=3
     · simp [g259,Ex.dF,h3]
     · by_cases h4:e.kind=10
       · simp [g259,Ex.dF,h4]
       · by_cases h5:e.kind=9
         · simp [g259,Ex.dF,h5]
         · by_cases h6:e.kind=11
           · simp [g259,Ex.dF,h6]
           · simp [g259,Ex.dF,h1,h2,h3,h4,h5,h6]
theorem c257 (hQ:gT AQ) {e:Ex} {i:Nat} {x:Ex} (hx:e.kids[i]?=some x) {s:cm} (h:(aL AQ).p 248 [x.pv]=some [.str s]) :
   (aL AQ).i 257 [.pv (vI i),.aZ 0 0] [some e.cl] []=some ([.pv (.str s)],[some e.cl],[]):=by
 have hi:=(List.getElem?_eq_some_iff.1 hx).1
 rw [aP (af:=g257) hQ.TM (by simp [g257])]
 simp at h
 simp [-getElem?_pos,g257,hx,h,hi]
theorem c269 (hQ:gT AQ) {xs:List cm} {sep:cm} (h1:xs.length≤1000000000) (h2:(Lib.join xs sep).length≤140737488355328):(aL AQ).p 269 [.aE (xs.map .str),.str sep]=some [.str (Lib.join xs sep)]:=by
 rw [Ew hQ.TV rfl]
 simp only [xt,DX]
 rw [if_pos ⟨h1,h2⟩]
def eU (f:Ar→cm) (a:Ar):cm:=Lib.join (a.gU::a.vars) [32]++[46,32]++f a
def oq (T:List cm):List AV:=T.map fun s=>.pv (.str s)
theorem EU {T:List cm}:(oq T).length=T.length:=by simp [oq]
theorem N6 {T:List cm} {i:Nat} {s:cm} (hi:i<T.length):bn (oq T) i [.pv (.str s)]=oq (T.set i s):=by
 unfold oq
 rw [List.map_set,List.set_eq_take_append_cons_drop,if_pos (by simpa using hi)]
 simp [bn]
theorem N7 {T:List cm}:((fG (oq T)).bind (fh 1 false T.length)).map PV.aE=some (.aE (T.map .str)):=by
 have:fG (oq T)=some (T.map .str):=by
   induction T with
   | nil=>rfl
   | cons x r ih=>simp only [oq,List.map_cons,fG,ky] at ih ⊢;rw [ih]
 rw [this]
 simp [fh]
theorem tQ {T:List cm}:∀v∈oq T,∃p,v=AV.pv p:=by
 intro v hv
 simp only [oq,List.mem_map] at hv
 obtain ⟨s,_,rfl⟩:=hv
 exact ⟨_,rfl⟩
theorem Sd (hQ:gT AQ) {aY:List Ar} {f:Ar→cm} {M:Nat} (hA:aY.length≤10) (hM:M≤1000000000000000) (hf:∀x∈aY,(aL AQ).p 248 [x.body.pv]=some [.str (f x)]∧(f x).length≤M∧x.vars.length≤10∧(Lib.join (x.gU::x.vars) [32]).length≤10000) :
   ∀(n i:Nat),aY.length-i=n→i≤aY.length→∀T:List cm,T.length=aY.length →
   cl AQ g260L0 ⟨[(3,.bz 0 1 aY.length false),(9,.pv (.aE (aY.map Ar.pv))),(10,.pv (vI aY.length)),(11,.pv (vI i))],[],[some (oq T)],[]⟩ =
     some (.exit 0,⟨[(3,.bz 0 1 aY.length false),(9,.pv (.aE (aY.map Ar.pv))),(10,.pv (vI aY.length)),(11,.pv (vI aY.length)),(12,.pv (.bool false))],[],[some (oq (T.take i++(aY.drop i).map (eU f)))],[]⟩)
 | 0,i,hn,hi,T,hT=>by
   have:i=aY.length:=by omega
   subst this
   rw [List.take_of_length_le (by omega),List.drop_length]
   have hq:∀aQ ts,cf aQ ts [some (oq T)]=([some (oq T)],aQ,ts):=(bN.one tQ).norm
   simp only [List.map_nil,List.append_nil]
   generalize oq T=X at *
   rw [g260L0e]
   simp [g260B0,hq]
 | n+1,i,hn,hi,T,hT=>by
   have hi:i<aY.length:=by omega
   obtain ⟨x,hx⟩:=bM hi
   obtain ⟨cb,lb,lv,lj⟩:=hf x (bA hx)
   have cj:=c269 hQ (xs:=x.gU::x.vars) (sep:=[32]) (by simp;omega) (by omega)
   have ih:=Sd hQ hA hM hf n (i+1) (by omega) (by omega) (T.set i (eU f x)) (by simpa using hT)
   have e1:(T.set i (eU f x)).take (i+1)++(aY.drop (i+1)).map (eU f)=T.take i++(aY.drop i).map (eU f):=by
     rw [List.set_eq_take_append_cons_drop,if_pos (by omega),cX hx,List.take_append,List.take_of_length_le (by simp;omega)]
     have:i+1-(T.take i).length=1:=by simp;omega
     rw [this]
     simp
   rw [e1] at ih
   have hset:=N6 (T:=T) (i:=i) (s:=eU f x) (by omega)
   have hq:∀aQ ts,cf aQ ts [some (oq T)]=([some (oq T)],aQ,ts):=(bN.one tQ).norm
   have hq1:∀aQ ts,cf aQ ts [some (oq (T.set i (eU f x)))]=([some (oq (T.set i (eU f x)))],aQ,ts):=(bN.one tQ).norm
   have hB:c_ (oq T)=false:=eK tQ
   have hlen:(oq T).length=aY.length:=by rw [EU,hT]
   have hb:(x.vars.length+1)*16≤140737488355328:=by omega
   have hb2:(1+x.vars.length)*16≤140737488355328:=by omega
   clear e1
   generalize oq (T.set i (eU f x))=X1 at *
   generalize oq T=X at *
   generalize oq (T.take i++(aY.drop i).map (eU f))=X2 at *
   unfold eU at hset
   generalize Lib.join (x.gU::x.vars) [32]=J at *
   rw [g260L0e] at ih ⊢
   simp at cb ih cj
   simp at hset
   have hle:i+1≤aY.length:=by omega
   have hqL:∀aQ ts,bI aQ ts X1=(X1,aQ,ts):=fun aQ ts=>by have:=hq1 aQ ts;simp [cf] at this;exact Prod.ext this.1 (Prod.ext this.2.1 this.2.2)
   try simp only [hqL] at ih
   by_cases hv:x.vars=[]
   · simp [hv] at cj
     simp (disch:=first | omega | (simp only [List.length_append,List.length_cons,List.length_nil];omega)) [-bK,cz,-getElem?_pos,g260B0,hq,hi,hx,cb,cj,hv,hB,hlen,hle,hset,az]
     rw [g260L0e]
     simp [hqL,ih]
   · simp (disch:=first | omega | (simp only [List.length_append,List.length_cons,List.length_nil];omega)) [-bK,cz,-getElem?_pos,g260B0,hq,hi,hx,cb,cj,hv,hb,hb2,hB,hlen,hle,hset,az]
     rw [g260L0e]
     simp [hqL,ih]
theorem c260 (hQ:gT AQ) {aY:List Ar} {f:Ar→cm} {M:Nat} (hA:aY.length≤10) (hM:M≤1000000000000000) (hf:∀x∈aY,(aL AQ).p 248 [x.body.pv]=some [.str (f x)]∧(f x).length≤M∧x.vars.length≤10∧(Lib.join (x.gU::x.vars) [32]).length≤10000)
   (hj:(Lib.join (aY.map (eU f)) [32,124,32]).length≤140737488355328):(aL AQ).p 260 [.aE (aY.map Ar.pv)]=some [.str (Lib.join (aY.map (eU f)) [32,124,32])]:=by
 have h:=Sd hQ hA hM hf _ 0 rfl (by omega) (List.replicate aY.length []) (by simp)
 have c:=c269 hQ (xs:=aY.map (eU f)) (sep:=[32,124,32]) (by simp;omega) hj
 have hfr:=N7 (T:=aY.map (eU f))
 have hlen:=EU (T:=aY.map (eU f))
 have hrep:(List.replicate aY.length [AV.pv (PV.str [])]).flatten=oq (List.replicate aY.length []):=by
   simp [oq]
 have hb:(aY.length:Int)*16≤140737488355328:=by omega
 have h9:(aY.length:Int)≤9223372036854775807:=by omega
 rw [List.drop_zero,List.take_zero,List.nil_append] at h
 rw [List.length_map] at hfr hlen
 have hq:∀aQ ts,cf aQ ts [some (oq (List.replicate aY.length []))]=([some (oq (List.replicate aY.length []))],aQ,ts):=(bN.one tQ).norm
 generalize Lib.join (aY.map (eU f)) [32,124,32]=J at *
 generalize aY.map (eU f)=Y at *
 generalize oq Y=Z at *
 generalize oq (List.replicate aY.length [])=X at *
 rw [ah (af:=g260) hQ.TS rfl (by decide)]
 rw [g260L0e] at h
 simp [hq] at h
 simp at hfr c hrep
 simp [-getElem?_pos,g260,hb,h9,hrep,g260L0e,hq,h,hlen,hfr,c]
end
end Go.Ab.Lw
namespace Go.Ab.Lw
open Ev
theorem O1 {e:Ex} {i:Nat} {a:Ar} (hx:e.aY[i]?=some a) (hi10:e.aY.length≤10) (hv:a.vars.length≤10) (hl:∀v∈a.vars,v.length≤100):∀(n k:Nat),a.vars.length-k=n→k≤a.vars.length→∀acc:cm,acc.length≤100000000000000000+k*101 →
   cl AP g249L1 ⟨[(1,.aB 1 0),(5,.pv (.str acc)),(6,.pv (vI i)),(7,.pv (vI k))],[(1,e.cl)],[],[]⟩ =
     some (.exit 3,⟨[(1,.aB 1 0),(5,.pv (.str (acc++Lib.joinTail [32] (a.vars.drop k)))),(6,.pv (vI i)),(7,.pv (vI a.vars.length)),(154,.pv (.bool false))],[(1,e.cl)],[],[]⟩)
 | 0,k,hn,hk,acc,ha=>by
   have:k=a.vars.length:=by omega
   subst this
   have hi:=(List.getElem?_eq_some_iff.1 hx).1
   rw [g249L1e]
   simp [-getElem?_pos,g249B1,hx,hi,Lib.joinTail]
 | n+1,k,hn,hk,acc,ha=>by
   have hi:=(List.getElem?_eq_some_iff.1 hx).1
   have hk:k<a.vars.length:=by omega
   obtain ⟨v,hy⟩:=bM hk
   have hlv:=hl v (bA hy)
   have ih:=O1 hx hi10 hv hl n (k+1) (by omega) (by omega) (acc++32::v) (by simp;omega)
   have ej:Lib.joinTail [32] (a.vars.drop k)=32::v++Lib.joinTail [32] (a.vars.drop (k+1)):=by rw [cX hy];simp [Lib.joinTail]
   rw [ej]
   generalize Lib.joinTail [32] (a.vars.drop (k+1))=J at *
   rw [g249L1e] at ih ⊢
   simp at ih
   simp (disch:=first | omega | (simp only [List.length_append,List.length_cons,List.length_nil];omega)) [-bK,cz,-getElem?_pos,g249B1,hx,hi,hk,hy,az]
   rw [g249L1e]
   simp [ih]
def i_ (sep:cm) (i:Nat) (l:List cm):cm:=if i=0 then Lib.join l sep else Lib.joinTail sep l
theorem IG {sep:cm} {i:Nat}:i_ sep i []=[]:=by unfold i_;split<;>rfl
theorem D5 {sep x:cm} {r:List cm}:i_ sep 0 (x::r)=x++i_ sep 1 r:=by simp [i_,Lib.join_cons]
theorem D6 {sep x:cm} {i:Nat} {r:List cm}:i_ sep (i+1) (x::r)=sep++(x++i_ sep (i+1+1) r):=by simp [i_,Lib.joinTail]
theorem L3 {e:Ex} {f:Ar→cm} {M:Nat} (hA:e.aY.length≤10) (hM:M≤1000000000000000)
   (hf:∀x∈e.aY,(aL AP).p 249 [x.body.pv]=some [.str (f x)]∧(f x).length≤M∧x.gU.length≤100∧x.vars.length≤10∧∀v∈x.vars,v.length≤100) :
   ∀(n i:Nat),e.aY.length-i=n→i≤e.aY.length→∀acc:cm,acc.length≤10000000000000000+i*(M+2000) →
   cl AP g249L0 ⟨[(1,.aB 1 0),(5,.pv (.str acc)),(6,.pv (vI i))],[(1,e.cl)],[],[]⟩ =
     some (.exit 1,⟨[(1,.aB 1 0),(5,.pv (.str (acc++i_ [32,124,32] i ((e.aY.drop i).map (eU f))))),(6,.pv (vI e.aY.length)),(131,.pv (.bool false))],[(1,e.cl)],[],[]⟩)
 | 0,i,hn,hi,acc,ha=>by
   have:i=e.aY.length:=by omega
   subst this
   rw [List.drop_length]
   simp only [List.map_nil,IG,List.append_nil]
   rw [g249L0e]
   simp [g249B0]
 | n+1,i,hn,hi,acc,ha=>by
   have hi:i<e.aY.length:=by omega
   obtain ⟨x,hx⟩:=bM hi
   obtain ⟨cb,lb,lc,lv,ff⟩:=hf x (bA hx)
   have hmul:(i+1)*(M+2000)=i*(M+2000)+(M+2000):=Nat.add_mul _ _ _ |>.trans (by omega)
   have hi10:i*(M+2000)≤10*(M+2000):=Nat.mul_le_mul_right _ (by omega)
   have hjl:(Lib.joinTail [32] x.vars).length≤1010:=by
     have:∀l:List cm,(∀v∈l,v.length≤100)→(Lib.joinTail [32] l).length≤l.length*101:=by
       intro l
       induction l with
       | nil=>intro _;simp [Lib.joinTail]
       | cons y r ihr=>
         intro hl
         have h1:=ihr fun z hz=>hl z (by simp [hz])
         have h2:=hl y (by simp)
         simp only [Lib.joinTail,List.map_cons,List.flatten_cons,List.length_append,List.length_cons,List.length_nil] at h1 ⊢
         omega
     have:=this x.vars ff
     omega
   have harm:eU f x=x.gU++(Lib.joinTail [32] x.vars++(46::32::f x)):=by simp [eU,Lib.join_cons]
   rw [cX hx,List.map_cons]
   have inner:=fun acc' h=>O1 (e:=e) (i:=i) hx hA lv ff _ 0 rfl (by omega) acc' h
   have hf':=hf
   clear hf ff
   by_cases h0:i=0
   · have e0:i_ [32,124,32] i (eU f x::(e.aY.drop (i+1)).map (eU f))=eU f x++i_ [32,124,32] (i+1) ((e.aY.drop (i+1)).map (eU f)):=by
       rw [h0];exact D5
     rw [e0,harm]
     have ih:=L3 hA hM hf' n (i+1) (by omega) (by omega) (acc++eU f x) (by rw [harm];simp;omega)
     rw [harm] at ih
     have h2:=inner (acc++x.gU) (by simp;omega)
     rw [List.drop_zero] at h2
     clear inner hf'
     generalize i_ [32,124,32] (i+1) ((e.aY.drop (i+1)).map (eU f))=R at *
     generalize Lib.joinTail [32] x.vars=J at *
     have hpos:¬0<i:=by omega
     rw [g249L0e] at ih ⊢
     rw [g249L1e] at h2
     simp at cb ih h2
     simp (disch:=first | omega | (simp only [List.length_append,List.length_cons,List.length_nil];omega)) [-bK,cz,-getElem?_pos,g249B0,hx,hi,hpos,cb,g249L1e,h2,az]
     rw [g249L0e]
     simp [ih]
   · have e0:i_ [32,124,32] i (eU f x::(e.aY.drop (i+1)).map (eU f))=[32,124,32]++(eU f x++i_ [32,124,32] (i+1) ((e.aY.drop (i+1)).map (eU f))):=by
       obtain ⟨j,rfl⟩:∃j,i=j+1:=⟨i-1,by omega⟩
       exact D6
     rw [e0,harm]
     have ih:=L3 hA hM hf' n (i+1) (by omega) (by omega) (acc++([32,124,32]++eU f x)) (by rw [harm];simp;omega)
     rw [harm] at ih
     have h2:=inner (acc++[32,124,32]++x.gU) (by simp;omega)
     rw [List.drop_zero] at h2
     clear inner hf'
     generalize i_ [32,124,32] (i+1) ((e.aY.drop (i+1)).map (eU f))=R at *
     generalize Lib.joinTail [32] x.vars=J at *
     have hpos:0<i:=by omega
     rw [g249L0e] at ih ⊢
     rw [g249L1e] at h2
     simp at cb ih h2
     simp (disch:=first | omega | (simp only [List.length_append,List.length_cons,List.length_nil];omega)) [-bK,cz,-getElem?_pos,g249B0,hx,hi,hpos,cb,g249L1e,h2,az]
     rw [g249L0e]
     simp [ih]
end Go.Ab.Lw
namespace Go.Ab.Lw
open Ev
theorem join_le {l:List cm} {sep:cm} {M:Nat} (h:∀x∈l,x.length≤M):(Lib.join l sep).length≤l.length*(M+sep.length):=by
 cases l with
 | nil=>simp [Lib.join_nil]
 | cons x r=>
   rw [Lib.join_cons]
   have h1:=h x (by simp)
   have:∀r:List cm,(∀y∈r,y.length≤M)→(Lib.joinTail sep r).length≤r.length*(M+sep.length):=by
     intro r
     induction r with
     | nil=>intro _;simp [Lib.joinTail]
     | cons y r ih=>
       intro hl
       have a1:=ih fun z hz=>hl z (by simp [hz])
       have a2:=hl y (by simp)
       simp only [Lib.joinTail,List.map_cons,List.flatten_cons,List.length_append,List.length_cons,Nat.add_mul] at a1 ⊢
       omega
   have a:=this r fun y hy=>h y (by simp [hy])
   simp only [List.length_append,List.length_cons,Nat.add_mul] at a ⊢
   omega
theorem L4 {α:Type} {l:List α} {f:α→cm} {sep:cm} {g:α→Nat} (h:∀x∈l,(f x).length+sep.length≤g x):(Lib.join (l.map f) sep).length≤(l.map g).sum:=by
 have tail:∀r:List α,(∀x∈r,(f x).length+sep.length≤g x)→(Lib.joinTail sep (r.map f)).length≤(r.map g).sum:=by
   intro r
   induction r with
   | nil=>intro _;simp [Lib.joinTail]
   | cons y r ih=>
     intro hl
     have a1:=ih fun z hz=>hl z (by simp [hz])
     have a2:=hl y (by simp)
     simp only [Lib.joinTail,List.map_cons,List.flatten_cons,List.length_append,List.sum_cons] at a1 ⊢
     omega
 cases l with
 | nil=>simp [Lib.join_nil]
 | cons x r=>
   rw [List.map_cons,Lib.join_cons]
   have h1:=h x (by simp)
   have a:=tail r fun y hy=>h y (by simp [hy])
   simp only [List.length_append,List.map_cons,List.sum_cons] at a ⊢
   omega
def Au (AQ:Nat→Option aD) (e:Ex):Prop:=∃s:cm,s.length+10≤2000000*e.sz∧(aL AQ).p 248 [e.pv]=some [.str s]∧(aL AP).p 249 [e.pv]=some [.str s]
theorem p_ {e a:Ex} (h:e.kids=[a]):a.sz+1≤e.sz:=by
 rw [e.ph,Ex.ch,h];simp;omega
theorem qc {e a b:Ex} (h:e.kids=[a,b]):a.sz+b.sz+1≤e.sz:=by
 rw [e.ph,Ex.ch,h];simp;omega
def ki:List Ar→Nat
 | []=>0
 | x::r=>x.body.sz+ki r
theorem oe:∀{l:List Ar} {x:Ar},x∈l→x.body.sz≤ki l
 | y::r,x,h=>by
   simp only [ki]
   rcases List.mem_cons.1 h with rfl | h
   · omega
   · have:=oe h;omega
theorem EV {e a:Ex} (h:e.kids=[a]):a.sz+ki e.aY+1=e.sz:=by
 have:∀l:List Ar,((l.map iw.body).map Ex.sz).sum=ki l:=by
   intro l
   induction l with
   | nil=>rfl
   | cons x r ih=>simp only [List.map_cons,List.sum_cons,ki,ih]
 rw [e.ph,Ex.ch,h,List.map_append,List.sum_append,this]
 simp only [List.map_cons,List.map_nil,List.sum_cons,List.sum_nil]
 omega
section
variable {AQ:Nat→Option aD}
theorem N8 (hQ:gT AQ) {e:Ex} (h:(e.kind=1∨e.kind=2)∧e.name.length≤100∨e.kind=3∧0≤e.num∧e.num<4∨e.kind=10):Au AQ e:=by
 have hsz:=e.n_
 rcases h with ⟨h | h,hl⟩ | ⟨h,h0,h4⟩ | h
 · refine ⟨e.name,by omega,?_,?_⟩
   · rw [ah (af:=g248) hQ.tP rfl (by decide)];simp [g248,h]
   · rw [ah (af:=g249) rfl rfl (by decide)];simp [g249,h]
 · refine ⟨e.name,by omega,?_,?_⟩
   · rw [ah (af:=g248) hQ.tP rfl (by decide)];simp [g248,h]
   · rw [ah (af:=g249) rfl rfl (by decide)];simp [g249,h]
 · have k1:=c255 hQ h0 h4
   have k2:=c256 h0 h4
   have hd:(Lib.decDigits e.num.toNat).length≤100:=by
     have:e.num=0∨e.num=1∨e.num=2∨e.num=3:=by omega
     rcases this with q | q | q | q<;>rw [q]<;>simp [Lib.decDigits]
   refine ⟨Lib.decDigits e.num.toNat,by omega,?_,?_⟩
   · rw [ah (af:=g248) hQ.tP rfl (by decide)];simp [g248,h,k1]
   · rw [ah (af:=g249) rfl rfl (by decide)];simp [g249,h,k2]
 · refine ⟨[63],by simp;omega,?_,?_⟩
   · rw [ah (af:=g248) hQ.tP rfl (by decide)];simp [g248,h]
   · rw [ah (af:=g249) rfl rfl (by decide)];simp [g249,h]
theorem N9 (hQ:gT AQ) {e a:Ex} (h:e.kind=4) (hl:e.name.length≤100) (hk:e.kids=[a]) (hS:e.sz≤50000000) (ha:Au AQ a):Au AQ e:=by
 have hz1:=p_ hk
 have hsz:=e.n_
 obtain ⟨s,ls,p,q⟩:=ha
 have k:=c257 hQ (e:=e) (i:=0) (by rw [hk];rfl) p
 refine ⟨[92]++e.name++[46,32]++s,by simp;omega,?_,?_⟩
 · rw [ah (af:=g248) hQ.tP rfl (by decide)]
   simp [h,hk] at k
   simp (disch:=first | omega | (simp only [List.length_append,List.length_cons,List.length_nil];omega)) [-bK,cz,g248,h,hk,k]
 · rw [ah (af:=g249) rfl rfl (by decide)]
   simp at q
   simp (disch:=first | omega | (simp only [List.length_append,List.length_cons,List.length_nil];omega)) [-bK,cz,g249,h,hk,q]
theorem L5 (hQ:gT AQ) {e a:Ex} (h:e.kind=11) (hk:e.kids=[a]) (hS:e.sz≤50000000) (ha:Au AQ a):Au AQ e:=by
 have hz1:=p_ hk
 have hsz:=e.n_
 obtain ⟨s,ls,p,q⟩:=ha
 have k:=c257 hQ (e:=e) (i:=0) (by rw [hk];rfl) p
 refine ⟨[123]++s++[125],by simp;omega,?_,?_⟩
 · rw [ah (af:=g248) hQ.tP rfl (by decide)]
   simp [h,hk] at k
   simp (disch:=first | omega | (simp only [List.length_append,List.length_cons,List.length_nil];omega)) [-bK,cz,g248,h,hk,k]
 · rw [ah (af:=g249) rfl rfl (by decide)]
   simp at q
   simp (disch:=first | omega | (simp only [List.length_append,List.length_cons,List.length_nil];omega)) [-bK,cz,g249,h,hk,q]
theorem N_ (hQ:gT AQ) {e a:Ex} (h:e.kind=9) (hk:e.kids=[a]) (ht:e.ty.Kn KT) (htn:e.ty.nodes.length≤10000) (hS:e.sz≤50000000) (ha:Au AQ a):Au AQ e:=by
 have hz1:=p_ hk
 have hsz:=e.n_
 obtain ⟨s,ls,p,q⟩:=ha
 obtain ⟨u,lu,pu,qu⟩:=ET hQ e.ty ht htn
 have k:=c257 hQ (e:=e) (i:=0) (by rw [hk];rfl) p
 refine ⟨[40]++s++[32,58,32]++u++[41],by simp;omega,?_,?_⟩
 · rw [ah (af:=g248) hQ.tP rfl (by decide)]
   simp [h,hk] at k
   simp at pu
   simp (disch:=first | omega | (simp only [List.length_append,List.length_cons,List.length_nil];omega)) [-bK,cz,g248,h,hk,k,pu]
 · rw [ah (af:=g249) rfl rfl (by decide)]
   simp at q qu
   simp (disch:=first | omega | (simp only [List.length_append,List.length_cons,List.length_nil];omega)) [-bK,cz,g249,h,hk,q,qu]
theorem N' (hQ:gT AQ) {e a b:Ex} (h:e.kind=6∨e.kind=7) (hl:e.name.length≤100) (hk:e.kids=[a,b]) (hS:e.sz≤50000000) (ha:Au AQ a) (hb:Au AQ b):Au AQ e:=by
 have hz1:=qc hk
 have hsz:=e.n_
 obtain ⟨s,ls,p,q⟩:=ha
 obtain ⟨u,lu,pu,qu⟩:=hb
 have k:=c257 hQ (e:=e) (i:=0) (by rw [hk];rfl) p
 have k':=c257 hQ (e:=e) (i:=1) (by rw [hk];rfl) pu
 rcases h with h | h
 · refine ⟨[108,101,116,32]++e.name++[32,61,32]++s++[32,105,110,32]++u,by simp;omega,?_,?_⟩
   · rw [ah (af:=g248) hQ.tP rfl (by decide)]
     simp [h,hk] at k k'
     simp (disch:=first | omega | (simp only [List.length_append,List.length_cons,List.length_nil];omega)) [-bK,cz,g248,h,hk,k,k']
   · rw [ah (af:=g249) rfl rfl (by decide)]
     simp at q qu
     simp (disch:=first | omega | (simp only [List.length_append,List.length_cons,List.length_nil];omega)) [-bK,cz,g249,h,hk,q,qu]
 · refine ⟨[108,101,116,32,114,101,99,32]++e.name++[32,61,32]++s++[32,105,110,32]++u,by simp;omega,?_,?_⟩
   · rw [ah (af:=g248) hQ.tP rfl (by decide)]
     simp [h,hk] at k k'
     simp (disch:=first | omega | (simp only [List.length_append,List.length_cons,List.length_nil];omega)) [-bK,cz,g248,h,hk,k,k']
   · rw [ah (af:=g249) rfl rfl (by decide)]
     simp at q qu
     simp (disch:=first | omega | (simp only [List.length_append,List.length_cons,List.length_nil];omega)) [-bK,cz,g249,h,hk,q,qu]
theorem Oa (hQ:gT AQ) {e a b:Ex} (h:e.kind=5) (hk:e.kids=[a,b]) (hS:e.sz≤50000000) (ha:Au AQ a) (hb:Au AQ b):Au AQ e:=by
 have hz1:=qc hk
 have hsz:=e.n_
 obtain ⟨s,ls,p,q⟩:=ha
 obtain ⟨u,lu,pu,qu⟩:=hb
 have k:=c257 hQ (e:=e) (i:=0) (by rw [hk];rfl) p
 have k':=c257 hQ (e:=e) (i:=1) (by rw [hk];rfl) pu
 have a1:=c259 hQ (e:=a)
 have a2:=c259 hQ (e:=b)
 have r1:=c262 (e:=a)
 have r2:=c262 (e:=b)
 have e1:=c258 hQ (s:=s) (b:=!a.dF && !decide (a.kind=5)) (by omega)
 have e2:=c258 hQ (s:=u) (b:=!b.dF) (by omega)
 have f1:=c261 (e:=a) (b:=a.dF || decide (a.kind=5)) q (by omega)
 have f2:=c261 (e:=b) (b:=b.dF) qu (by omega)
 have hb1:(!(a.dF || decide (a.kind=5)))=(!a.dF && !decide (a.kind=5)):=by simp
 rw [hb1] at f1
 have l1:=kF (b:=!a.dF && !decide (a.kind=5)) (s:=s)
 have l2:=kF (b:=!b.dF) (s:=u)
 refine ⟨gF (!a.dF && !decide (a.kind=5)) s++[32]++gF (!b.dF) u,by simp;omega,?_,?_⟩
 · rw [ah (af:=g248) hQ.tP rfl (by decide)]
   simp [h,hk] at k k'
   generalize gF (!a.dF && !decide (a.kind=5)) s=E1 at *
   generalize gF (!b.dF) u=E2 at *
   simp at a1 a2 e1 e2
   by_cases h5:a.kind=5
   · have hat:a.dF=false:=by simp [Ex.dF,h5]
     simp [hat,h5] at e1 a1
     simp [h5] at k k'
     simp (disch:=first | omega | (simp only [List.length_append,List.length_cons,List.length_nil];omega)) [-bK,cz,g248,h,hk,k,k',a1,a2,e1,e2,hat,h5]
   · have q1:(a.kind == 5)=false:=by simp [h5]
     have q2:(a.kind != 5)=true:=by simp [h5]
     cases hat:a.dF<;>simp [hat,h5] at e1 a1 <;>
       simp (disch:=first | omega | (simp only [List.length_append,List.length_cons,List.length_nil];omega)) [-bK,cz,g248,h,hk,k,k',a1,a2,e1,e2,hat,h5,q1,q2]
 · rw [ah (af:=g249) rfl rfl (by decide)]
   generalize gF (!a.dF && !decide (a.kind=5)) s=E1 at *
   generalize gF (!b.dF) u=E2 at *
   simp at r1 r2 f1 f2
   by_cases h5:a.kind=5
   · have hat:a.dF=false:=by simp [Ex.dF,h5]
     simp [hat,h5] at f1 r1
     simp (disch:=first | omega | (simp only [List.length_append,List.length_cons,List.length_nil];omega)) [-bK,cz,g249,h,hk,r1,r2,f1,f2,hat,h5]
   · have q1:(a.kind == 5)=false:=by simp [h5]
     have q2:(a.kind != 5)=true:=by simp [h5]
     cases hat:a.dF<;>simp [hat,h5] at f1 r1 <;>
       simp (disch:=first | omega | (simp only [List.length_append,List.length_cons,List.length_nil];omega)) [-bK,cz,g249,h,hk,r1,r2,f1,f2,hat,h5,q1,q2]
theorem L6 (hQ:gT AQ) {e a:Ex} (h:e.kind=8) (hk:e.kids=[a]) (hS:e.sz≤50000000) (ha:Au AQ a) (hA:e.aY.length≤10)
   (hv:∀x∈e.aY,x.gU.length≤100∧x.vars.length≤10∧∀v∈x.vars,v.length≤100) (hx:∀x∈e.aY,Au AQ x.body):Au AQ e:=by
 have hz1:=EV hk
 have hsz:=e.n_
 obtain ⟨s,ls,p,q⟩:=ha
 obtain ⟨f,hf⟩:=skolem hx
 have k:=c257 hQ (e:=e) (i:=0) (by rw [hk];rfl) p
 have hcv:∀x∈e.aY,(Lib.join (x.gU::x.vars) [32]).length≤1111:=fun x hm=>by
   obtain ⟨h1,h2,h3⟩:=hv x hm
   have:=join_le (l:=x.gU::x.vars) (sep:=[32]) (M:=100) (by simpa using ⟨h1,h3⟩)
   simp only [List.length_cons,List.length_nil] at this
   have hm:(x.vars.length+1)*101≤11*101:=Nat.mul_le_mul_right _ (by omega)
   omega
 have hJ:(Lib.join (e.aY.map (eU f)) [32,124,32]).length≤2000000*ki e.aY+12000:=by
   have h1:=L4 (l:=e.aY) (f:=eU f) (sep:=[32,124,32]) (g:=fun x=>2000000*x.body.sz+1200) (by
     intro x hm
     have h1:=hcv x hm
     have h2:=(hf x hm).1
     simp only [eU,List.length_append,List.length_cons,List.length_nil]
     omega)
   have h2:∀l:List Ar,(l.map fun x=>2000000*x.body.sz+1200).sum=2000000*ki l+1200*l.length:=by
     intro l
     induction l with
     | nil=>simp [ki]
     | cons y r ih=>simp only [List.map_cons,List.sum_cons,List.length_cons,ih,ki];omega
   rw [h2] at h1
   omega
 have hM:∀x∈e.aY,(f x).length≤100000000000000:=fun x hm=>by
   have h1:=(hf x hm).1
   have h2:=oe hm
   omega
 have c:=c260 hQ (aY:=e.aY) (f:=f) (M:=100000000000000) hA (by omega) (fun x hm=>⟨(hf x hm).2.1,hM x hm,(hv x hm).2.1,by have:=hcv x hm;omega⟩) (by omega)
 have r:=L3 (e:=e) (f:=f) (M:=100000000000000) hA (by omega) (fun x hm=>⟨(hf x hm).2.2,hM x hm,hv x hm⟩) _ 0 rfl (by omega) ([99,97,115,101,32]++s++[32,111,102,32]) (by simp;omega)
 rw [List.drop_zero] at r
 have e0:i_ [32,124,32] 0 (e.aY.map (eU f))=Lib.join (e.aY.map (eU f)) [32,124,32]:=rfl
 rw [e0] at r
 clear hf hv hcv hx e0 hM
 generalize Lib.join (e.aY.map (eU f)) [32,124,32]=J at *
 refine ⟨[99,97,115,101,32]++s++[32,111,102,32]++J++[32,101,110,100],by simp;omega,?_,?_⟩
 · rw [ah (af:=g248) hQ.tP rfl (by decide)]
   simp [h,hk] at k
   simp (disch:=first | omega | (simp only [List.length_append,List.length_cons,List.length_nil];omega)) [-bK,cz,g248,h,hk,k,c]
 · rw [ah (af:=g249) rfl rfl (by decide)]
   rw [g249L0e] at r
   simp [h,hk] at q r
   simp (disch:=first | omega | (simp only [List.length_append,List.length_cons,List.length_nil];omega)) [-bK,cz,g249,h,hk,q,g249L0e,r]
theorem Ob (hQ:gT AQ) {e:Ex} (h:mr e):e.sz≤50000000→Au AQ e:=by
 induction h with
 | leaf h1 _ _=>exact fun _=>N8 hQ h1
 | lam h1 h2 h3 _ _ ih=>exact fun hS=>N9 hQ h1 h2 h3 hS (ih (by have:=p_ h3;omega))
 | app h1 h2 _ _ _ ih1 ih2=>exact fun hS=>Oa hQ h1 h2 hS (ih1 (by have:=qc h2;omega)) (ih2 (by have:=qc h2;omega))
 | xA h1 h2 h3 _ _ _ ih1 ih2=>exact fun hS=>N' hQ h1 h2 h3 hS (ih1 (by have:=qc h3;omega)) (ih2 (by have:=qc h3;omega))
 | qX h1 h2 _ h4 h5 _ ih1 ih2=>
   intro hS
   have hz:=EV h2
   exact L6 hQ h1 h2 hS (ih1 (by omega)) h4 h5 fun x hm=>ih2 x hm (by have:=oe hm;omega)
 | N1 h1 h2 _ h4 h5 _ ih=>exact fun hS=>N_ hQ h1 h2 h4 h5 hS (ih (by have:=p_ h2;omega))
 | held h1 h2 _ _ ih=>exact fun hS=>L5 hQ h1 h2 hS (ih (by have:=p_ h2;omega))
end
end Go.Ab.Lw
namespace Go.Ab.Lw
open Ev
structure Sl where
 bd:Bool
 ty:Ty
 home:Int
 base:Bool
def Sl.pv (x:Sl):PV:=.agg [.bool x.bd,vI x.ty.kind,.str x.ty.name,vI x.ty.id,vI x.ty.home,.aE (x.ty.args.map Ty.pv),vI x.home,.bool x.base]
@[simp] theorem Sl.mg (x:Sl):x.pv=.agg [.bool x.bd,.int .i64 x.ty.kind,.str x.ty.name,.int .i64 x.ty.id,.int .i64 x.ty.home,.aE (x.ty.args.map Ty.pv),.int .i64 x.home,.bool x.base]:=rfl
structure Ch where
 id:Int
 aQ:Sl
 nw:Bool
def Ch.pv (x:Ch):PV:=.agg [vI x.id,.bool x.aQ.bd,vI x.aQ.ty.kind,.str x.aQ.ty.name,vI x.aQ.ty.id,vI x.aQ.ty.home,.aE (x.aQ.ty.args.map Ty.pv),vI x.aQ.home,.bool x.aQ.base,.bool x.nw]
@[simp] theorem Ch.mg (x:Ch):x.pv=.agg [.int .i64 x.id,.bool x.aQ.bd,.int .i64 x.aQ.ty.kind,.str x.aQ.ty.name,.int .i64 x.aQ.ty.id,.int .i64 x.aQ.ty.home,.aE (x.aQ.ty.args.map Ty.pv),.int .i64 x.aQ.home,.bool x.aQ.base,.bool x.nw]:=rfl
structure ef where
 sl:List Sl
 tr:List Ch
def ef.pv (s:ef):PV:=.agg [.aE (s.sl.map Sl.pv),.aE (s.tr.map Ch.pv)]
@[simp] theorem ef.mg (s:ef):s.pv=.agg [.aE (s.sl.map Sl.pv),.aE (s.tr.map Ch.pv)]:=rfl
structure ef.Ok (s:ef) (n m:Nat):Prop where
 sl:s.sl.length≤n
 tr:s.tr.length≤m
 ty:∀x∈s.sl,x.ty.Ok
theorem O2:El Sl.pv 8 true:=⟨fun _=>rfl,fun _=>rfl⟩
theorem L7:El Ch.pv 10 true:=⟨fun _=>rfl,fun _=>rfl⟩
def iQ (s:List Sl) (t:Ty):Option Sl:=if t.kind=1∧0≤t.id then (match s[t.id.toNat]? with | some x=>if x.bd then some x else none | none=>none) else none
theorem gM {s:List Sl} {t:Ty} {x:Sl} (h:iQ s t=some x):t.kind=1∧∃i:Nat,t.id=i∧s[i]?=some x∧x.bd=true:=by
 unfold iQ at h
 split at h
 · rename_i q
   refine ⟨q.1,t.id.toNat,by omega,?_⟩
   split at h
   · rename_i y hy
     split at h
     · rename_i hb;cases h;exact ⟨hy,hb⟩
     · cases h
   · cases h
 · cases h
theorem c392 {s:ef} {t:Ty}:(aL AP).p 392 [s.pv,t.pv]=some [.bool (iQ s.sl t).isSome]:=by
 rw [ah (af:=g392) rfl rfl (by decide)]
 unfold iQ
 by_cases k:t.kind=1
 · by_cases h0:0≤t.id
   · obtain ⟨i,hi⟩:∃i:Nat,t.id=i:=⟨t.id.toNat,by omega⟩
     by_cases hl:i<s.sl.length
     · obtain ⟨x,hx⟩:=bM hl
       simp (disch:=omega) [-getElem?_pos,g392,k,hi,hl,hx]
       cases x.bd<;>rfl
     · have hx:s.sl[i]?=none:=by simp;omega
       simp (disch:=omega) [-getElem?_pos,g392,k,hi,hl,hx]
   · simp (disch:=omega) [g392,k,h0]
 · simp (disch:=omega) [g392,k]
def wk (s:List Sl):Nat→Ty→Ty
 | 0,t=>t
 | n+1,t=>match iQ s t with | some x=>wk s n x.ty | none=>t
theorem mu {s:List Sl} (hs:∀x∈s,x.ty.Ok):∀{n:Nat} {t:Ty},t.Ok→(wk s n t).Ok
 | 0,t,h=>h
 | n+1,t,h=>by
   unfold wk
   split
   · rename_i x hx
     obtain ⟨_,i,_,hi,_⟩:=gM hx
     exact mu hs (hs x (bA hi))
   · exact h
def tC (t:Ty):List AV:=[.pv (vI t.kind),.pv (.str t.name),.pv (vI t.id),.pv (vI t.home),.pv (.aE (t.args.map Ty.pv))]
def sC (s:ef):List AV:=[.pv (.aE (s.sl.map Sl.pv)),.pv (.aE (s.tr.map Ch.pv))]
def zC (k:Nat):List AV:=[.pv (vI 0),.pv (.str []),.pv (vI 0),.pv (vI 0),.own [] k]
theorem Se {s:ef} (hs:Sm s.sl):∀(n i:Nat),s.sl.length+1-i=n→i≤s.sl.length+1→∀t:Ty,∃(i':Nat),
   cl AP g386L0 ⟨[(2,.aB 2 0),(3,.aB 3 0),(4,.aB 4 0),(5,.pv (vI i))],[(2,sC s),(3,tC t),(4,zC 0)],[],[0]⟩ =
     some (.exit 0,⟨[(2,.aB 2 0),(3,.aB 3 0),(4,.aB 4 0),(5,.pv (vI i')),(15,.pv (.bool false))],[(2,sC s),(3,tC (wk s.sl n t)),(4,zC 0)],[],[0]⟩)
 | 0,i,hn,hi,t=>by
   refine ⟨i,?_⟩
   have h1:¬(i:Int)≤s.sl.length:=by omega
   rw [g386L0e]
   simp [g386B0,sC,tC,zC,wk,h1]
 | n+1,i,hn,hi,t=>by
   have h1:(i:Int)≤s.sl.length:=by omega
   have k:=c392 (s:=s) (t:=t)
   unfold Sm at hs
   rw [g386L0e]
   cases hb:iQ s.sl t with
   | none=>
     refine ⟨i,?_⟩
     rw [hb] at k
     simp at k
     simp [g386B0,sC,tC,zC,wk,h1,hb,k]
   | some x=>
     obtain ⟨_,j,hj,hx,_⟩:=gM hb
     obtain ⟨i',e⟩:=Se hs n (i+1) (by omega) (by omega) x.ty
     refine ⟨i',?_⟩
     rw [hb] at k
     have hl:j<s.sl.length:=by obtain ⟨h,_⟩:=List.getElem?_eq_some_iff.1 hx;exact h
     rw [g386L0e] at e
     simp [hj] at k
     simp [sC,tC,zC] at e
     simp (disch:=omega) [-getElem?_pos,g386B0,sC,tC,zC,wk,h1,hb,k,hj,hx,hl,az]
     rw [g386L0e]
     simp [e]
theorem c386 {s:ef} (hs:Sm s.sl) {t:Ty}:(aL AP).p 386 [s.pv,t.pv]=some [(wk s.sl (s.sl.length+1) t).pv]:=by
 obtain ⟨i',h⟩:=Se hs _ 0 rfl (by omega) t
 rw [ah (af:=g386) rfl rfl (by decide)]
 rw [g386L0e] at h
 simp [sC,tC,zC] at h
 simp [g386,g386L0e,h]
end Go.Ab.Lw
namespace Go.Ab.Lw
open Ev
def lp (s:List Sl) (t:Ty):Ty:=wk s (s.length+1) t
inductive Tr (s:List Sl):Ty→Nat→Prop
 | mk {t:Ty} (ns:List Nat):ns.length=(lp s t).args.length→(∀(i:Nat) a n,(lp s t).args[i]?=some a→ns[i]?=some n→Tr s a n)→Tr s t (ns.sum+1)
def MD (s:List Sl) (l:List Ty) (ns:List Nat):Prop:=ns.length=l.length∧∀(i:Nat) a n,l[i]?=some a→ns[i]?=some n→Tr s a n
theorem MD.nil {s:List Sl}:MD s [] []:=⟨rfl,by intro i a n h;simp at h⟩
theorem MD.snoc {s:List Sl} {l:List Ty} {ns:List Nat} (h:MD s l ns) {a:Ty} {n:Nat} (ha:Tr s a n):MD s (l++[a]) (ns++[n]):=by
 refine ⟨by simp [h.1],?_⟩
 intro i b m hb hm
 have hl:=h.1
 by_cases hi:i<l.length
 · rw [List.getElem?_append_left hi] at hb
   rw [List.getElem?_append_left (by omega)] at hm
   exact h.2 i b m hb hm
 · rw [List.getElem?_append_right (by omega)] at hb
   rw [List.getElem?_append_right (by omega),hl] at hm
   by_cases e:i-l.length=0
   · rw [e] at hb hm
     simp at hb hm
     rw [←hb,←hm];exact ha
   · have h1:1≤i-l.length:=by omega
     have:([a]:List Ty)[i-l.length]?=none:=by simp;omega
     rw [this] at hb;cases hb
theorem Tr.inv {s:List Sl} {t:Ty} {r:Nat} (h:Tr s t r):∃ns,MD s (lp s t).args ns∧r=ns.sum+1:=by
 cases h with
 | mk ns h1 h2=>exact ⟨ns,⟨h1,h2⟩,rfl⟩
theorem xC:∀{ns:List Nat} {i n:Nat},ns[i]?=some n→n≤ns.sum
 | a::r,0,n,h=>by simp at h;subst h;simp
 | a::r,i+1,n,h=>by simp at h;have:=xC h;simp;omega
theorem Sf {s:ef} (hs:Sm s.sl) (hO:∀x∈s.sl,x.ty.Ok) {m:Nat} (hm:m<1000000) (IH:∀m':Nat,m'<m→∀t,t.Ok→∃r:Nat,(aL AP).p 371 [s.pv,t.pv,vI m']=some [vI r]∧1≤r∧r≤m'+1∧(r≤m'→Tr s.sl t r))
   {x:Ty} (hx:x.Ok):∀(k i n:Nat),x.args.length-i=k→i≤x.args.length→1≤n→n≤m+1→(n≤m→∃ns,MD s.sl (x.args.take i) ns∧n=ns.sum+1)→∃i' n':Nat,
   cl AP g371L0 ⟨[(2,.pv (vI m)),(3,.aB 3 0),(4,.aB 4 0),(7,.pv (vI n)),(8,.pv (vI i))],[(3,sC s),(4,tC x)],[],[]⟩ =
     some (.exit 0,⟨[(2,.pv (vI m)),(3,.aB 3 0),(4,.aB 4 0),(7,.pv (vI n')),(8,.pv (vI i')),(21,.pv (.bool false))],[(3,sC s),(4,tC x)],[],[]⟩)∧1≤n'∧n'≤m+1∧(n'≤m→∃ns,MD s.sl x.args ns∧n'=ns.sum+1)
 | 0,i,n,hk,hi,h1,h2,h3=>by
   have:i=x.args.length:=by omega
   subst this
   refine ⟨x.args.length,n,?_,h1,h2,by simpa using h3⟩
   rw [g371L0e]
   simp [g371B0,sC,tC]
 | k+1,i,n,hk,hi,h1,h2,h3=>by
   have hi:i<x.args.length:=by omega
   obtain ⟨a,ha⟩:=bM hi
   have hsm:=hx.sm
   unfold Sm at hsm
   by_cases hn:n≤m
   · have g0:m-n<m:=by clear h3;omega
     obtain ⟨r,e,r1,r2,r3⟩:=IH (m-n) g0 a (hx.iv a (bA ha))
     have hsub:((m:Int)-n)=((m-n:Nat):Int):=by clear h3 r3;omega
     have g5:n+r≤m→∃ns,MD s.sl (x.args.take (i+1)) ns∧n+r=ns.sum+1:=by
       intro h
       obtain ⟨ns,q,e2⟩:=h3 hn
       refine ⟨ns++[r],?_,by rw [List.sum_append,e2];simp;omega⟩
       rw [List.take_add_one,ha]
       have hr:r≤m-n:=by clear h3;omega
       exact q.snoc (r3 hr)
     clear h3
     have g1:x.args.length-(i+1)=k:=by clear g5 r3;omega
     have g2:1≤n+r:=by clear g5 r3;omega
     have g3:n+r≤m+1:=by clear g5 r3;omega
     obtain ⟨i',n',e',q1,q2,q3⟩:=Sf hs hO hm IH hx k (i+1) (n+r) g1 hi g2 g3 g5
     refine ⟨i',n',?_,q1,q2,q3⟩
     have hnm:(n:Int)≤m:=by omega
     rw [g371L0e] at e' ⊢
     simp at e
     simp [sC,tC] at e'
     simp (disch:=omega) [-getElem?_pos,g371B0,sC,tC,hi,ha,hnm,az,hsub,e]
     rw [g371L0e]
     simp [e']
   · refine ⟨i,n,?_,h1,h2,fun h=>absurd h hn⟩
     clear h3
     have hnm:¬(n:Int)≤m:=by omega
     rw [g371L0e]
     simp (disch:=omega) [-getElem?_pos,g371B0,sC,tC,hi,hnm]
theorem c371 {s:ef} (hs:Sm s.sl) (hO:∀x∈s.sl,x.ty.Ok) (m:Nat) (hm:m<1000000):∀t:Ty,t.Ok→∃r:Nat,(aL AP).p 371 [s.pv,t.pv,vI m]=some [vI r]∧1≤r∧r≤m+1∧(r≤m→Tr s.sl t r):=by
 induction m using Nat.strongRecOn with
 | ind m ih=>
   intro t ht
   have k:=c386 hs (t:=t)
   have hw:(wk s.sl (s.sl.length+1) t).Ok:=mu hO ht
   obtain ⟨i',n',e,q1,q2,q3⟩:=Sf hs hO hm (fun m' h t ht=>ih m' h (by omega) t ht) hw _ 0 1 rfl (by omega) (by omega) (by omega) (fun _=>⟨[],by simpa using MD.nil,rfl⟩)
   refine ⟨min n' (m+1),?_,by clear q3;omega,by clear q3;omega,?_⟩
   · rw [ah (af:=g371) rfl rfl (by decide)]
     rw [g371L0e] at e
     have hmin:min (n':Int) ((m:Int)+1)=((min n' (m+1):Nat):Int):=by omega
     generalize wk s.sl (s.sl.length+1) t=x at *
     simp at k
     simp [sC,tC] at e
     simp (disch:=omega) [g371,k,g371L0e,e,az,hmin]
     omega
   · intro h
     have hq:n'≤m:=by clear q3;omega
     obtain ⟨ns,a,b⟩:=q3 hq
     have:min n' (m+1)=ns.sum+1:=by omega
     rw [this]
     exact .mk ns a.1 a.2
end Go.Ab.Lw
namespace Go.Ab.Lw
open Ev
def uC (x:Ty) (acc:List Ty) (k:Nat):List AV:=[.pv (vI x.kind),.pv (.str x.name),.pv (vI x.id),.pv (vI x.home),.own (acc.map Ty.pv) k]
theorem Sg {s:ef} {x:Ty} (hx:x.Ok) {ns:List Nat} (hns:ns.length=x.args.length) (IH:∀(i:Nat) a n,x.args[i]?=some a→ns[i]?=some n→∃u:Ty,(aL AP).p 373 [s.pv,a.pv]=some [u.pv]∧u.Ok∧u.nodes.length=n):∀(k i:Nat),x.args.length-i=k→i≤x.args.length→∀acc:List Ty,acc.length=i→(∀u∈acc,u.Ok)→(acc.flatMap Ty.nodes).length=(ns.take i).sum→∃us:List Ty,
   cl AP g373L0 ⟨[(2,.aB 2 0),(3,.aB 3 0),(4,.aB 4 0),(5,.aB 5 0),(6,.pv (vI i))],[(2,sC s),(3,tC x),(4,zC 0),(5,uC x acc 1)],[],[0,acc.length]⟩ =
     some (.exit 0,⟨[(2,.aB 2 0),(3,.aB 3 0),(4,.aB 4 0),(5,.aB 5 0),(6,.pv (vI x.args.length)),(16,.pv (.bool false))],[(2,sC s),(3,tC x),(4,zC 0),(5,uC x us 1)],[],[0,us.length]⟩)∧us.length=x.args.length∧(∀u∈us,u.Ok)∧(us.flatMap Ty.nodes).length=ns.sum
 | 0,i,hk,hi,acc,ha,hu,hc=>by
   have:i=x.args.length:=by omega
   subst this
   refine ⟨acc,?_,ha,hu,by rw [hc,←hns,List.take_length]⟩
   rw [g373L0e]
   simp [g373B0,sC,tC,zC,uC]
 | k+1,i,hk,hi,acc,ha,hu,hc=>by
   have hi:i<x.args.length:=by omega
   obtain ⟨a,hax⟩:=bM hi
   obtain ⟨n,hn⟩:=bM (l:=ns) (i:=i) (by omega)
   have hsm:=hx.sm
   unfold Sm at hsm
   obtain ⟨u,e,hO,hnn⟩:=IH i a n hax hn
   obtain ⟨us,e',h1,h2,h3⟩:=Sg hx hns IH k (i+1) (by omega) (by omega) (acc++[u]) (by simp;omega) (by
     intro y hy;simp at hy;rcases hy with hy | rfl
     · exact hu y hy
     · exact hO) (by rw [List.take_add_one,hn,List.flatMap_append,List.length_append,hc];simp [hnn])
   refine ⟨us,?_,h1,h2,h3⟩
   have hb:(acc.length+1)*64≤140737488355328:=by omega
   rw [g373L0e] at e' ⊢
   simp at e
   simp [sC,tC,zC,uC] at e'
   simp (disch:=omega) [-getElem?_pos,g373B0,sC,tC,zC,uC,hi,hax,az,e,hb]
   rw [g373L0e]
   simp [e']
theorem c373 {s:ef} (hs:Sm s.sl) (hO:∀x∈s.sl,x.ty.Ok) (r:Nat):∀t:Ty,Tr s.sl t r→t.Ok→∃u:Ty,(aL AP).p 373 [s.pv,t.pv]=some [u.pv]∧u.Ok∧u.nodes.length=r:=by
 induction r using Nat.strongRecOn with
 | ind r ih=>
   intro t ht hto
   have k:=c386 hs (t:=t)
   have hw:(wk s.sl (s.sl.length+1) t).Ok:=mu hO hto
   obtain ⟨ns,hn,hr⟩:=ht.inv
   unfold lp at hn
   obtain ⟨us,e,h1,h2,h3⟩:=Sg (s:=s) hw hn.1 (fun i a n hi hni=>by
     have:=xC hni
     exact ih n (by omega) a (hn.2 i a n hi hni) (hw.iv a (bA hi))) _ 0 rfl (by omega) [] rfl (by simp) rfl
   refine ⟨⟨(wk s.sl (s.sl.length+1) t).kind,(wk s.sl (s.sl.length+1) t).name,(wk s.sl (s.sl.length+1) t).id,(wk s.sl (s.sl.length+1) t).home,us⟩,?_,⟨by have:=hw.sm;unfold Sm at *;simp only;omega,h2⟩,by rw [Ty.aS];simp only [List.length_cons];omega⟩
   rw [ah (af:=g373) rfl rfl (by decide)]
   rw [g373L0e] at e
   generalize wk s.sl (s.sl.length+1) t=x at *
   simp at k
   simp [sC,tC,zC,uC] at e
   simp [g373,k,g373L0e,e]
theorem c355 {s:ef} (hs:Sm s.sl) (hO:∀x∈s.sl,x.ty.Ok) {m:Nat} (hm:m<1000000) {t:Ty} (ht:t.Ok):∃r:Nat,(aL AP).p 355 [s.pv,t.pv,vI m]=some [vI r]∧1≤r∧r≤m+1∧(r≤m→Tr s.sl t r):=by
 obtain ⟨r,e,h⟩:=c371 hs hO m hm t ht
 refine ⟨r,?_,h⟩
 rw [ah (af:=g355) rfl rfl (by decide)]
 simp at e
 have hmx:max (m:Int) 0=m:=by omega
 simp [g355,hmx,e]
theorem c358 {s:ef} (hs:Sm s.sl) (hO:∀x∈s.sl,x.ty.Ok) {t:Ty} (ht:t.Ok):∃(u:Ty) (b:Bool),(aL AP).p 358 [s.pv,t.pv]=some [u.pv,.bool b]∧u.Ok∧u.nodes.length≤4000:=by
 obtain ⟨r,e,h1,h2,h3⟩:=c355 hs hO (m:=4000) (by omega) ht
 simp at e
 by_cases hr:r≤4000
 · obtain ⟨u,e2,hu,hnu⟩:=c373 hs hO r t (h3 hr) ht
   refine ⟨u,true,?_,hu,by omega⟩
   simp at e2
   have hr':¬(4000:Int)<r:=by omega
   rw [ah (af:=g358) rfl rfl (by decide)]
   simp [g358,e,hr',e2]
 · refine ⟨bO,false,?_,df rfl,by rw [Ty.aS];simp [bO]⟩
   have hr':(4000:Int)<r:=by omega
   rw [ah (af:=g358) rfl rfl (by decide)]
   simp [g358,e,hr',bO]
theorem c388:(aL AP).p 388 []=some [(ef.mk [] []).pv]:=by
 rw [ah (af:=g388) rfl rfl (by decide)]
 simp [g388]
def dN (s:ef) (home:Int) (b:Bool):ef:=⟨s.sl++[⟨false,bO,home,b⟩],s.tr++[⟨s.sl.length,⟨false,bO,0,false⟩,true⟩]⟩
theorem c381 {s:ef} {n m:Nat} (hs:s.Ok n m) (hn:n≤1000000) (hm:m≤1000000000) (home:Int) (b:Bool):(aL AP).p 381 [s.pv,vI home,.bool b]=some [(dN s home b).pv,(ct s.sl.length).pv]:=by
 have k:=c63 (n:=s.sl.length)
 have h1:=hs.sl
 have h2:=hs.tr
 have b1:s.sl.length*88≤140737488355328:=by omega
 have b2:(s.sl.length+1)*88≤140737488355328:=by omega
 have b3:s.tr.length*104≤140737488355328:=by omega
 have b4:(s.tr.length+1)*104≤140737488355328:=by omega
 have e1:=O2.head s.sl
 have e2:=L7.head s.tr
 simp at k e1 e2
 rw [ah (af:=g381) rfl rfl (by decide)]
 simp (disch:=omega) [g381,dN,bO,ct,k,b1,b2,b3,b4,e1,e2]
 (repeat' split)<;>simp_all
end Go.Ab.Lw
namespace Go.Ab.Lw
open Ev
theorem TW {sz:Nat} {l:List PV} {k:IntKind} {h:Int} (h0:0≤h) (h1:h≤l.length):db false sz false true false [.pv (.aE l),.pv (.int k h)]=some (.pv (.aE (l.take h.toNat))):=by
 simp [db,cN,eF,h0,h1]
theorem Si {sz τ:Nat} {l:List PV} {k:IntKind} {h:Int} (h0:0≤h) (h1:h≤l.length):db false sz false true false [.own l τ,.pv (.int k h)]=some (.pv (.aE (l.take h.toNat))):=by
 simp [db,cN,eF,h0,h1]
end Go.Ab.Lw
namespace Go.Ab.Lw
open Ev
def Sl.cells (x:Sl):List PV:=[.bool x.bd,vI x.ty.kind,.str x.ty.name,vI x.ty.id,vI x.ty.home,.aE (x.ty.args.map Ty.pv),vI x.home,.bool x.base]
theorem og:Row Sl.cells 8:=⟨by omega,fun _=>rfl⟩
theorem Qr {l:List Sl}:((fG (cq Sl.cells l)).bind (fh 8 true l.length)).map PV.aE=some (.aE (l.map Sl.pv)):=rG og
theorem Qs {l:List Sl}:((l.map Sl.pv).flatMap bq).map AV.pv=cq Sl.cells l:=rH og
def ij (s:ef) (i:Nat) (o x:Sl):ef:=⟨s.sl.set i x,s.tr++[⟨i,o,false⟩]⟩
theorem c393 {s:ef} {n m:Nat} (hs:s.Ok n m) (hn:n≤1000000) (hm:m≤1000000000) {i:Nat} {o:Sl} (hi:s.sl[i]?=some o) (x:Sl):(aL AP).p 393 [s.pv,vI i,x.pv]=some [(ij s i o x).pv,.bool true]:=by
 have h1:=hs.sl
 have h2:=hs.tr
 have hl:i<s.sl.length:=by obtain ⟨h,_⟩:=List.getElem?_eq_some_iff.1 hi;exact h
 have b1:s.sl.length*88≤140737488355328:=by omega
 have b3:s.tr.length*104≤140737488355328:=by omega
 have b4:(s.tr.length+1)*104≤140737488355328:=by omega
 have hge:¬s.sl.length≤i:=by omega
 have hle8:i*8+8≤s.sl.length*8:=by omega
 have hf:∀S:Sh,dL S (.aB 8 0)=none:=fun _=>rfl
 have e1:=O2.head s.sl
 have e2:=L7.head s.tr
 have hne:¬s.sl=[]:=by intro h;rw [h] at hl;simp at hl
 have hmp:=Qs (l:=s.sl)
 have hB:c_ (cq Sl.cells s.sl)=false:=eK dh
 have hB2:c_ (cq Sl.cells (s.sl.set i x))=false:=eK dh
 have hlen:(cq Sl.cells s.sl).length=s.sl.length*8:=eE og
 have hlen2:(cq Sl.cells (s.sl.set i x)).length=s.sl.length*8:=by rw [eE og];simp
 have hle:=Qo og hl (o:=0) (k:=8) (by omega)
 have hset:=rE og hi (y:=x) (o:=0) (vs:=x.cells) (by rw [og.len];omega) (by
   simp [Sl.cells])
 have hq:∀aQ ts,cf aQ ts [some (cq Sl.cells s.sl)]=([some (cq Sl.cells s.sl)],aQ,ts):=(bN.one dh).norm
 have hq2:∀aQ ts,cf aQ ts [some (cq Sl.cells (s.sl.set i x))]=([some (cq Sl.cells (s.sl.set i x))],aQ,ts):=(bN.one dh).norm
 have hlst:=Qr (l:=s.sl.set i x)
 rw [List.length_set] at hlst
 simp only [Nat.add_zero] at hset hle
 generalize cq Sl.cells (s.sl.set i x)=T1 at *
 generalize cq Sl.cells s.sl=T at *
 simp [Sl.cells] at hset
 simp at hlst hmp e1 e2
 rw [ah (af:=g393) rfl rfl (by decide)]
 simp (disch:=omega) [-getElem?_pos,g393,hi,hl,b1,b3,b4,e1,e2,hne,hmp,hB,hB2,hlen,hlen2,hset,hq,hq2,hlst,ij,hge,hle8,hf]
end Go.Ab.Lw
namespace Go.Ab.Lw
open Ev
theorem c194g {t:Ty} (ht:t.Ok):∃(a b:Ty) (c:Bool),(aL AP).p 194 [t.pv]=some [a.pv,b.pv,.bool c]∧a.Ok∧b.Ok∧(c=true→t=⟨4,[45,62],t.id,t.home,[a,b]⟩):=by
 by_cases h:t.kind=4∧t.name=[45,62]∧t.args.length=2
 · obtain ⟨h1,h2,h3⟩:=h
   match e:t.args,h3 with
   | [a,b],_=>
     refine ⟨a,b,true,?_,ht.iv a (by simp [e]),ht.iv b (by simp [e]),?_⟩
     · rw [ah (af:=g194) rfl rfl (by decide)]
       simp [g194,h1,h2,e]
     · intro _
       cases t
       simp at h1 h2 e ⊢
       simp [h1,h2,e]
 · refine ⟨bO,bO,false,?_,df rfl,df rfl,by simp⟩
   rw [ah (af:=g194) rfl rfl (by decide)]
   by_cases h1:t.kind=4
   · by_cases h2:t.name=[45,62]
     · have h3:¬(t.args.length:Int)=2:=by
         intro q;exact h ⟨h1,h2,by omega⟩
       simp [g194,h1,h2,h3,bO]
     · simp [g194,h1,h2,bO]
   · simp [g194,h1,bO]
theorem TX {S:List Ty} {l:List Ty} (hS:Sm l) (hO:∀t∈l,t.Ok) (hk:∀x∈l.flatMap (Ty.ff 3),x∈S):∀(n i:Nat),l.length-i=n→i≤l.length→∀out,gC S out →
   cl AP g59L0 ⟨[(0,.pv (.aE (l.map Ty.pv))),(3,.own (out.map Ty.pv) 0),(4,.pv (vI i))],[],[],[out.length]⟩ =
     some (.exit 0,⟨[(0,.pv (.aE (l.map Ty.pv))),(3,.own ((((l.drop i).flatMap (Ty.ff 3)).foldl ig out).map Ty.pv) 0),(4,.pv (vI l.length)),(8,.pv (.bool false))],[],[],[(((l.drop i).flatMap (Ty.ff 3)).foldl ig out).length]⟩)
 | 0,i,hn,hi,out,hc=>by
   have:i=l.length:=by omega
   subst this
   rw [g59L0e]
   simp [g59B0]
 | n+1,i,hn,hi,out,hc=>by
   have hi:i<l.length:=by omega
   obtain ⟨x,hx⟩:=bM hi
   unfold Sm at hS
   have hkx:∀y∈x.ff 3,y∈S:=fun y hy=>hk y (by simp only [List.mem_flatMap];exact ⟨x,bA hx,hy⟩)
   have k:=c99 (kd:=3) (hO x (bA hx)) hkx out hc
   have ih:=TX hS hO hk n (i+1) (by omega) (by omega) _ (hc.fold hkx)
   rw [g59L0e] at ih ⊢
   rw [cX hx]
   simp at k ih
   simp (disch:=omega) [-getElem?_pos,g59B0,hx,hi,k,az]
   rw [g59L0e]
   simp [ih]
theorem c59 {S:List Ty} (hf:S.length<1099511627776) (hSo:∀x∈S,x.Ok) {l:List Ty} (hS:Sm l) (hO:∀t∈l,t.Ok) (hk:∀x∈l.flatMap (Ty.ff 3),x∈S):∃r:List Ty,(aL AP).p 59 [.aE (l.map Ty.pv)]=some [.aE (r.map Ty.pv)]∧Sm r∧∀x∈r,x∈S:=by
 have c0:gC S []:=⟨by simp,by simp,hf,hSo⟩
 have h:=TX hS hO hk _ 0 rfl (by omega) [] c0
 have hc:=c0.fold hk
 refine ⟨_,?_,hc.len,hc.sub⟩
 rw [ah (af:=g59) rfl rfl (by decide)]
 rw [g59L0e] at h
 simp at h
 simp [g59,g59L0e,h]
def nu (s:List Sl) (t:Ty):Bool:=decide (t.kind=1∧0≤t.id∧t.id<s.length)
theorem c396 {s:ef} {t:Ty}:(aL AP).p 396 [s.pv,t.pv]=some [.bool (nu s.sl t)]:=by
 rw [ah (af:=g396) rfl rfl (by decide)]
 by_cases h1:t.kind=1
 · by_cases h2:0≤t.id
   · by_cases h3:t.id<s.sl.length
     · simp [g396,nu,h1,h2,h3]
     · simp [g396,nu,h1,h2,h3]
   · simp [g396,nu,h1,h2]
 · simp [g396,nu,h1]
end Go.Ab.Lw
namespace Go.Ab.Lw
open Ev
inductive iH:Ty→Int→Prop
 | var {t:Ty}:t.kind=1→iH t t.id
 | arg {t a:Ty} {v:Int}:t.kind≠1→a∈t.args→iH a v→iH t v
def Edge (s:List Sl) (i v:Int):Prop:=∃(k:Nat) (x:Sl),i=k∧s[k]?=some x∧x.bd=true∧iH x.ty v
inductive EW (s:List Sl):Int→Int→Prop
 | refl (i:Int):EW s i i
 | step {i j k:Int}:Edge s i j→EW s j k→EW s i k
def I7 (s:List Sl):Prop:=∃rk:Int→Nat,∀i v,Edge s i v→rk v<rk i
theorem I7.of {s s':List Sl} (h:I7 s) (he:∀i v,Edge s' i v→Edge s i v):I7 s':=by
 obtain ⟨rk,hr⟩:=h
 exact ⟨rk,fun i v e=>hr i v (he i v e)⟩
theorem iH.bound (rk:Int→Nat) (t:Ty):∃M,∀v,iH t v→rk v<M:=by
 refine Ty.gg (p:=fun t=>∃M,∀v,iH t v→rk v<M) ?_ t
 intro t ih
 by_cases k:t.kind=1
 · refine ⟨rk t.id+1,?_⟩
   intro v h
   cases h with
   | var _=>omega
   | arg q _ _=>exact absurd k q
 · have key:∀l:List Ty,(∀a∈l,∃M,∀v,iH a v→rk v<M)→∃M,∀a∈l,∀v,iH a v→rk v<M:=by
     intro l
     induction l with
     | nil=>intro _;exact ⟨0,by simp⟩
     | cons a r ihr=>
       intro h
       obtain ⟨M,hM⟩:=h a (by simp)
       obtain ⟨N,hN⟩:=ihr fun b hb=>h b (by simp [hb])
       refine ⟨M+N,?_⟩
       intro b hb v hv
       simp at hb
       rcases hb with rfl | hb
       · have:=hM v hv;omega
       · have:=hN b hb v hv;omega
   obtain ⟨M,hM⟩:=key t.args ih
   refine ⟨M,?_⟩
   intro v h
   cases h with
   | var q=>exact absurd q k
   | arg _ ha h=>exact hM _ ha v h
theorem Av {s:List Sl} {k:Nat} {x:Sl} {i v:Int} (h:Edge (s.set k x) i v):(i=k∧x.bd=true∧iH x.ty v)∨(i≠k∧Edge s i v):=by
 obtain ⟨j,y,rfl,hy,hb,ho⟩:=h
 rw [List.getElem?_set] at hy
 by_cases e:k=j
 · subst e
   by_cases hl:k<s.length
   · simp [hl] at hy
     subst hy
     exact .inl ⟨rfl,hb,ho⟩
   · simp [hl] at hy
 · simp [e] at hy
   exact .inr ⟨by omega,j,y,rfl,hy,hb,ho⟩
theorem Aw {s:List Sl} {k:Nat} {o x:Sl} (h:I7 s) (hk:s[k]?=some o) (hb:x.bd=o.bd) (ht:x.ty=o.ty):I7 (s.set k x):=by
 refine h.of ?_
 intro i v e
 rcases Av e with ⟨rfl,b,oc⟩ | ⟨_,e⟩
 · exact ⟨k,o,rfl,hk,by rw [←hb];exact b,by rw [←ht];exact oc⟩
 · exact e
theorem Ax {s:List Sl} {k:Nat} {x:Sl} (h:I7 s) (hn:∀v,iH x.ty v→¬EW s v k):I7 (s.set k x):=by
 classical
 obtain ⟨rk,hr⟩:=h
 obtain ⟨M,hM⟩:=iH.bound rk x.ty
 refine ⟨fun j=>if EW s j k then rk j+M else rk j,?_⟩
 intro i v e
 show (if EW s v k then rk v+M else rk v)<(if EW s i k then rk i+M else rk i)
 rcases Av e with ⟨rfl,b,oc⟩ | ⟨_,e⟩
 · have h1:=hM v oc
   rw [if_neg (hn v oc),if_pos (.refl _)]
   omega
 · have h1:=hr i v e
   by_cases q:EW s v k
   · rw [if_pos q,if_pos (.step e q)];omega
   · rw [if_neg q]
     split<;>omega
theorem L8 {s:List Sl} {x:Sl} (h:I7 s) (hb:x.bd=false):I7 (s++[x]):=by
 refine h.of ?_
 rintro i v ⟨k,y,rfl,hy,b,o⟩
 by_cases hl:k<s.length
 · rw [List.getElem?_append_left hl] at hy
   exact ⟨k,y,rfl,hy,b,o⟩
 · rw [List.getElem?_append_right (by omega)] at hy
   by_cases e:k-s.length=0
   · rw [e] at hy
     simp at hy
     subst hy
     rw [hb] at b;cases b
   · have:([x]:List Sl)[k-s.length]?=none:=by simp;omega
     rw [this] at hy;cases hy
def ub (s:List Sl):Nat:=s.countP fun x=>!x.bd
theorem rK:∀{s:List Sl} {k:Nat} {o x:Sl},s[k]?=some o→x.bd=o.bd→ub (s.set k x)=ub s
 | [],k,o,x,h,_=>by simp at h
 | a::r,0,o,x,h,hb=>by simp at h;subst h;simp [ub,List.countP_cons,hb]
 | a::r,k+1,o,x,h,hb=>by
   simp at h
   have:=rK h hb
   simp only [ub] at this
   simp [ub,List.countP_cons,this]
theorem xD:∀{s:List Sl} {k:Nat} {o x:Sl},s[k]?=some o→o.bd=false→x.bd=true→ub (s.set k x)+1=ub s
 | [],k,o,x,h,_,_=>by simp at h
 | a::r,0,o,x,h,hb,hx=>by simp at h;subst h;simp [ub,List.countP_cons,hb,hx]
 | a::r,k+1,o,x,h,hb,hx=>by
   simp at h
   have:=xD h hb hx
   simp only [ub] at this
   simp [ub,List.countP_cons]
   omega
end Go.Ab.Lw
namespace Go.Ab.Lw
open Ev
def bT (dn:List Bool):List AV:=dn.map fun b=>.pv (.bool b)
def fX (s:ef) (T:List AV) (n:Nat) (out:List Int):Sh:=[some T,some [.pv (.aE (s.sl.map Sl.pv)),.pv (.aE (s.tr.map Ch.pv)),.own (out.map vI) 0,.bz 0 1 n false]]
structure O3 (T:List AV):Prop where
 norm:∀aQ ts,bI aQ ts T=(T,aQ,ts)
 mp:c_ T=false
 sh:∀k,T.map (cM k)=T
theorem Sj {s:ef} {S out:List Int} {t:Ty} (hk:t.kind=1) (hb:iQ s.sl t=none) (hc:lM S out) {T:List AV} (hT:O3 T) {n:Nat} :
   (aL AP).i 387 [.aZ 1 0,.pv t.pv] (fX s T n out) [out.length]=some ([],fX s T n (if t.id∈out then out else out++[t.id]),[(if t.id∈out then out else out++[t.id]).length]):=by
 have k1:=c392 (s:=s) (t:=t)
 have hl:=hc.len
 have k2:=c95 hl (y:=t.id)
 unfold Sm at hl
 have hbb:(out.length+1)*8≤140737488355328:=by omega
 have hh:bF 1 (out.map vI)=true:=p8.head out
 have hn:=hT.norm
 rw [hb] at k1
 simp [hk] at k1
 rw [aP (af:=g387) rfl (by simp [g387])]
 by_cases e2:t.id∈out
 · rw [decide_eq_true e2] at k2
   simp [g387,fX,hk,k1,k2,e2,hn]
 · rw [decide_eq_false e2] at k2
   simp [g387,fX,hk,k1,k2,e2,hn,hbb,hh]
theorem Sk {s:ef} {out:List Int} {t:Ty} {x:Sl} {i:Nat} (hi:t.id=i) (hk:t.kind=1) (hx:s.sl[i]?=some x) (hb:iQ s.sl t=some x) {T:List AV} (hT:O3 T) {n:Nat} (hn:T.length=n) (hin:i<n) (hd:T[i]?=some (.pv (.bool true))) :
   (aL AP).i 387 [.aZ 1 0,.pv t.pv] (fX s T n out) [out.length]=some ([],fX s T n out,[out.length]):=by
 have k1:=c392 (s:=s) (t:=t)
 have hnm:=hT.norm
 have hmp:=hT.mp
 have hsh:=hT.sh
 have hle:i+1≤T.length:=by omega
 rw [hb] at k1
 simp [hk,hi] at k1
 rw [aP (af:=g387) rfl (by simp [g387])]
 simp (disch:=omega) [-getElem?_pos,g387,fX,hk,hi,k1,hnm,hin,hd,hmp,hle,cA]
theorem Sn {s:ef} {out out':List Int} {t:Ty} {x:Sl} {i:Nat} (hi:t.id=i) (hk:t.kind=1) (hx:s.sl[i]?=some x) (hb:iQ s.sl t=some x) {T T1 T2:List AV} (hT:O3 T) (hT1:O3 T1) (hT2:O3 T2) {n:Nat} (hn:T.length=n) (hin:i<n) (hd:T[i]?=some (.pv (.bool false)))
   (hs:bn T i [.pv (.bool true)]=T1) (e:(aL AP).i 387 [.aZ 1 0,.pv x.ty.pv] (fX s T1 n out) [out.length]=some ([],fX s T2 n out',[out'.length])) :
   (aL AP).i 387 [.aZ 1 0,.pv t.pv] (fX s T n out) [out.length]=some ([],fX s T2 n out',[out'.length]):=by
 have k1:=c392 (s:=s) (t:=t)
 have hnm:=hT.norm
 have hnm1:=hT1.norm
 have hnm2:=hT2.norm
 have hsh1:=hT1.sh
 have hsh2:=hT2.sh
 have hmp:=hT.mp
 have hsh:=hT.sh
 have hl:i<s.sl.length:=by obtain ⟨h,_⟩:=List.getElem?_eq_some_iff.1 hx;exact h
 have hle:i+1≤T.length:=by omega
 rw [hb] at k1
 simp [hk,hi] at k1
 simp [fX] at e
 simp at hs
 rw [aP (af:=g387) rfl (by simp [g387])]
 simp (disch:=omega) [-getElem?_pos,g387,fX,hk,hi,k1,hnm,hnm1,hnm2,hin,hd,hx,hl,hmp,hs,hle,e,cA,hsh,hsh1,hsh2]
def Qt (s:ef) (n:Nat) (t:Ty) (T:List AV) (out:List Int) (T':List AV) (out':List Int):Prop:=(aL AP).i 387 [.aZ 1 0,.pv t.pv] (fX s T n out) [out.length]=some ([],fX s T' n out',[out'.length])
theorem So {s:ef} {n:Nat} {t:Ty} (ht:t.Ok) (J:Nat→List AV→List Int→Prop) (hP:∀i T out,J i T out→O3 T)
   (hJ:∀i a,t.args[i]?=some a→∀T out,J i T out→∃T' out',Qt s n a T out T' out'∧J (i+1) T' out'):∀(k i:Nat),t.args.length-i=k→i≤t.args.length→∀T out,J i T out→∃T' out',
   cl AP g387L0 ⟨[(0,.aZ 1 0),(3,.aB 3 0),(4,.pv (vI i))],[(3,tC t)],fX s T n out,[out.length]⟩ =
     some (.exit 1,⟨[(0,.aZ 1 0),(3,.aB 3 0),(4,.pv (vI t.args.length)),(68,.pv (.bool false))],[(3,tC t)],fX s T' n out',[out'.length]⟩)∧J t.args.length T' out'
 | 0,i,hk,hi,T,out,h=>by
   have:i=t.args.length:=by omega
   subst this
   refine ⟨T,out,?_,h⟩
   have hn:=(hP _ _ _ h).norm
   rw [g387L0e]
   simp [g387B0,tC,fX,hn]
 | k+1,i,hk,hi,T,out,h=>by
   have hi:i<t.args.length:=by omega
   obtain ⟨a,ha⟩:=bM hi
   have hsm:=ht.sm
   unfold Sm at hsm
   obtain ⟨T1,out1,e,h1⟩:=hJ i a ha T out h
   obtain ⟨T',out',e',h2⟩:=So ht J hP hJ k (i+1) (by omega) (by omega) T1 out1 h1
   refine ⟨T',out',?_,h2⟩
   have hn:=(hP _ _ _ h).norm
   have hn1:=(hP _ _ _ h1).norm
   have hs:=(hP _ _ _ h).sh
   have hs1:=(hP _ _ _ h1).sh
   unfold Qt at e
   rw [g387L0e] at e' ⊢
   simp [fX] at e
   simp [tC,fX,hn1] at e'
   simp (disch:=omega) [-getElem?_pos,g387B0,tC,fX,hi,ha,hn,hn1,hs,hs1,az,e]
   rw [g387L0e]
   simp [e',hn1]
theorem Sp {s:ef} {n:Nat} {t:Ty} (ht:t.Ok) (hk:t.kind≠1) (J:Nat→List AV→List Int→Prop) (hP:∀i T out,J i T out→O3 T)
   (hJ:∀i a,t.args[i]?=some a→∀T out,J i T out→∃T' out',Qt s n a T out T' out'∧J (i+1) T' out') {T:List AV} {out:List Int} (h:J 0 T out):∃T' out',Qt s n t T out T' out'∧J t.args.length T' out':=by
 obtain ⟨T',out',e,h1⟩:=So (s:=s) (n:=n) ht J hP hJ _ 0 rfl (by omega) T out h
 refine ⟨T',out',?_,h1⟩
 have hn:=(hP _ _ _ h).norm
 have hn1:=(hP _ _ _ h1).norm
 have hs1:=(hP _ _ _ h1).sh
 unfold Qt
 rw [aP (af:=g387) rfl (by simp [g387])]
 rw [g387L0e] at e
 simp [tC,fX,hn] at e
 simp [g387,fX,hk,hn,hn1,hs1,g387L0e,e]
end Go.Ab.Lw
namespace Go.Ab.Lw
open Ev
def qd (s:List Sl) (v:Int):Prop:=∃(k:Nat) (x:Sl),v=k∧s[k]?=some x∧x.bd=true
theorem jD {s:List Sl} {t:Ty} (hk:t.kind=1) (h:iQ s t=none):¬qd s t.id:=by
 rintro ⟨k,x,e,hx,hb⟩
 unfold iQ at h
 have:0≤t.id:=by omega
 rw [if_pos ⟨hk,this⟩] at h
 have hn:t.id.toNat=k:=by omega
 rw [hn,hx] at h
 simp [hb] at h
theorem L9 {s:List Sl} {i v:Int} (h:Edge s i v):qd s i:=by
 obtain ⟨k,x,e,hx,hb,_⟩:=h
 exact ⟨k,x,e,hx,hb⟩
theorem tR {s:List Sl} {i v:Int} (h:EW s i v) (hb:¬qd s i):v=i:=by
 cases h with
 | refl=>rfl
 | step e _=>exact absurd (L9 e) hb
theorem jV {t:Ty} {w:Int} (hk:t.kind=1) (h:iH t w):w=t.id:=by
 cases h with
 | var _=>rfl
 | arg q _ _=>exact absurd hk q
theorem Qu {s:List Sl} {rk:Int→Nat} (hr:∀i v,Edge s i v→rk v<rk i) {i v:Int} (h:EW s i v):rk v≤rk i:=by
 induction h with
 | refl=>omega
 | step e _ ih=>have:=hr _ _ e;omega
def O4 (s:List Sl) (j:Int) (out:List Int):Prop:=∀v,EW s j v→¬qd s v→v∈out
def RT (s:List Sl) (t:Ty) (v:Int):Prop:=∃w,iH t w∧EW s w v
theorem O4.mono {s:List Sl} {j:Int} {out out':List Int} (h:O4 s j out) (ho:∀v∈out,v∈out'):O4 s j out':=fun v hv hb=>ho v (h v hv hb)
theorem L_ {dn:List Bool}:∀v∈bT dn,∃p,v=AV.pv p:=by
 intro v hv
 simp only [bT,List.mem_map] at hv
 obtain ⟨b,_,rfl⟩:=hv
 exact ⟨_,rfl⟩
theorem mw {dn:List Bool}:O3 (bT dn):=⟨fun _ _=>tE L_,eK L_,fun _=>p7 L_⟩
theorem Qv {dn:List Bool} {i:Nat} (hi:i<dn.length) (b:Bool):bn (bT dn) i [.pv (.bool b)]=bT (dn.set i b):=by
 have:(bT dn).length=dn.length:=by simp [bT]
 simp only [bn,bT,List.length_cons,List.length_nil,Nat.zero_add]
 rw [←List.map_take,←List.map_drop,List.set_eq_take_append_cons_drop,if_pos hi]
 simp
theorem L' {dn:List Bool} {i j:Nat} (h:dn[j]?=some true):(dn.set i true)[j]?=some true:=by
 rw [List.getElem?_set]
 have hj:j<dn.length:=by obtain ⟨h,_⟩:=List.getElem?_eq_some_iff.1 h;exact h
 by_cases e:i=j
 · subst e;simp [hj]
 · simp [e,h]
theorem Ay {dn:List Bool} {i j:Nat} (h:(dn.set i true)[j]?=some true):i=j∨dn[j]?=some true:=by
 rw [List.getElem?_set] at h
 by_cases e:i=j
 · exact .inl e
 · simp [e] at h;exact .inr h
structure Sq (s:ef) (S:List Int) (t:Ty) (dn:List Bool) (out:List Int) (dn':List Bool) (out':List Int):Prop where
 TY:Qt s s.sl.length t (bT dn) out (bT dn') out'
 len:dn'.length=s.sl.length
 II:lM S out'
 sub:∀v∈out,v∈out'
 mono:∀j:Nat,dn[j]?=some true→dn'[j]?=some true
 all:∀v,RT s.sl t v→¬qd s.sl v→v∈out'
 new:∀j:Nat,dn'[j]?=some true→dn[j]?=some true∨O4 s.sl j out'
structure UD (s:ef) (S:List Int) (t:Ty) (dn:List Bool) (out:List Int) (i:Nat) (dn':List Bool) (out':List Int):Prop where
 len:dn'.length=s.sl.length
 II:lM S out'
 sub:∀v∈out,v∈out'
 mono:∀j:Nat,dn[j]?=some true→dn'[j]?=some true
 all:∀a∈t.args.take i,∀v,RT s.sl a v→¬qd s.sl v→v∈out'
 new:∀j:Nat,dn'[j]?=some true→dn[j]?=some true∨O4 s.sl j out'
theorem LA {s:ef} {S:List Int} {rk:Int→Nat} (hr:∀i v,Edge s.sl i v→rk v<rk i) (hO:∀x∈s.sl,x.ty.Ok) (hS:∀x∈s.sl,∀w,iH x.ty w→w∈S) (N:Nat) :
   ∀t:Ty,t.Ok→(∀w,iH t w→rk w<N)→(∀w,iH t w→w∈S)→∀(dn:List Bool) (out:List Int),dn.length=s.sl.length→lM S out→(∀j:Nat,dn[j]?=some true→RT s.sl t j→O4 s.sl j out) →
     ∃dn' out',Sq s S t dn out dn' out':=by
 induction N using Nat.strongRecOn with
 | ind N IH=>
   intro t
   refine Ty.gg (p:=fun t=>t.Ok→(∀w,iH t w→rk w<N)→(∀w,iH t w→w∈S)→∀(dn:List Bool) (out:List Int),dn.length=s.sl.length→lM S out→(∀j:Nat,dn[j]?=some true→RT s.sl t j→O4 s.sl j out) →
     ∃dn' out',Sq s S t dn out dn' out') ?_ t
   intro t ih ht hN hw dn out hd hc hpre
   by_cases hk:t.kind=1
   · have oc:iH t t.id:=.var hk
     cases hb:iQ s.sl t with
     | none=>
       have hf:=jD hk hb
       have e:=Sj (n:=s.sl.length) hk hb hc (mw (dn:=dn))
       have ea:(if t.id∈out then out else out++[t.id])=eN out t:=by
         unfold eN
         by_cases q:t.id∈out<;>simp [q,hk]
       rw [ea] at e
       have hs:∀v∈out,v∈eN out t:=by
         intro v hv;unfold eN;split
         · simp [hv]
         · exact hv
       refine ⟨dn,eN out t,e,hd,hc.add (fun _=>hw _ oc),hs,fun _ h=>h,?_,fun _ h=>.inl h⟩
       rintro v ⟨w,ho,hv⟩ _
       have h1:=jV hk ho
       subst h1
       rw [tR hv hf]
       unfold eN
       by_cases q:t.id∈out<;>simp [q,hk]
     | some x=>
       obtain ⟨_,i,hi,hx,hbd⟩:=gM hb
       have hl:i<s.sl.length:=by obtain ⟨h,_⟩:=List.getElem?_eq_some_iff.1 hx;exact h
       have hTl:(bT dn).length=s.sl.length:=by simp [bT,hd]
       obtain ⟨b,hdb⟩:=bM (l:=dn) (i:=i) (by omega)
       have hTd:(bT dn)[i]?=some (.pv (.bool b)):=by simp [bT,hdb]
       have IJ:∀w,iH x.ty w→Edge s.sl t.id w:=fun w ho=>⟨i,x,hi,hx,hbd,ho⟩
       cases b with
       | true=>
         have e:=Sk (out:=out) hi hk hx hb (mw (dn:=dn)) hTl hl hTd
         refine ⟨dn,out,e,hd,hc,fun _ h=>h,fun _ h=>h,?_,fun _ h=>.inl h⟩
         rintro v ⟨w,ho,hv⟩ hnb
         have h1:=jV hk ho
         subst h1
         have:=hpre i hdb ⟨t.id,oc,by rw [hi];exact .refl _⟩
         rw [hi] at hv
         exact this v hv hnb
       | false=>
         have hlt:rk t.id<N:=hN _ oc
         obtain ⟨dn',out',P⟩:=IH (rk t.id) hlt x.ty (hO x (bA hx)) (fun w ho=>hr _ _ (IJ w ho)) (hS x (bA hx)) (dn.set i true) out (by simp [hd]) hc (by
           intro j hj ⟨w,ho,hv⟩
           have hlt2:rk j<rk t.id:=by have:=Qu hr hv;have:=hr _ _ (IJ w ho);omega
           rcases Ay hj with rfl | hj
           · rw [hi] at hlt2;omega
           · exact hpre j hj ⟨t.id,oc,.step (IJ w ho) hv⟩)
         have e:=Sn hi hk hx hb (mw (dn:=dn)) (mw (dn:=dn.set i true)) (mw (dn:=dn')) hTl hl hTd (Qv (by omega) true) P.TY
         have fin:O4 s.sl t.id out':=by
           intro v hv hnb
           cases hv with
           | refl=>exact absurd ⟨i,x,hi,hx,hbd⟩ hnb
           | step e2 hv=>
             obtain ⟨k,y,e3,hy,_,ho⟩:=e2
             have:k=i:=by omega
             subst this
             rw [hx] at hy
             cases hy
             exact P.all v ⟨_,ho,hv⟩ hnb
         refine ⟨dn',out',e,P.len,P.II,P.sub,fun j h=>P.mono j (L' h),?_,?_⟩
         · rintro v ⟨w,ho,hv⟩ hnb
           have h1:=jV hk ho
           subst h1
           exact fin v hv hnb
         · intro j hj
           rcases P.new j hj with h | h
           · rcases Ay h with rfl | h
             · exact .inr (by rw [←hi];exact fin)
             · exact .inl h
           · exact .inr h
   · obtain ⟨T',out',e,dn',rfl,h⟩:=Sp (s:=s) (n:=s.sl.length) ht hk (fun i T o=>∃d,T=bT d∧UD s S t dn out i d o) (by rintro i T o ⟨d,rfl,_⟩;exact mw) (by
       rintro i a ha T o ⟨d,rfl,h⟩
       have hm:=bA ha
       obtain ⟨d',o',P⟩:=ih a hm (ht.iv a hm) (fun w ho=>hN w (.arg hk hm ho)) (fun w ho=>hw w (.arg hk hm ho)) d o h.len h.II (by
         intro j hj ⟨w,ho,hv⟩
         rcases h.new j hj with hj | hj
         · exact (hpre j hj ⟨w,.arg hk hm ho,hv⟩).mono h.sub
         · exact hj)
       refine ⟨bT d',o',P.TY,d',rfl,P.len,P.II,fun v hv=>P.sub v (h.sub v hv),fun j hj=>P.mono j (h.mono j hj),?_,?_⟩
       · intro b hb v hv hnb
         rw [List.take_add_one,ha] at hb
         simp at hb
         rcases hb with hb | rfl
         · exact P.sub v (h.all b hb v hv hnb)
         · exact P.all v hv hnb
       · intro j hj
         rcases P.new j hj with hj | hj
         · rcases h.new j hj with hj | hj
           · exact .inl hj
           · exact .inr (hj.mono P.sub)
         · exact .inr hj) ⟨dn,rfl,hd,hc,fun _ h=>h,fun _ h=>h,by simp,fun _ h=>.inl h⟩
     refine ⟨dn',out',e,h.len,h.II,h.sub,h.mono,?_,h.new⟩
     rintro v ⟨w,ho,hv⟩ hnb
     cases ho with
     | var q=>exact absurd q hk
     | arg _ ha ho=>exact h.all _ (by simpa using ha) v ⟨w,ho,hv⟩ hnb
end Go.Ab.Lw
namespace Go.Ab.Lw
open Ev
def jF:List Ar→List Ex→List Ar
 | a::as,x::xs=>⟨a.pos,a.gU,a.vars,x⟩::jF as xs
 | as,_=>as
theorem tS:∀{as:List Ar} {xs:List Ex},(jF as xs).length=as.length
 | [],xs=>by cases xs<;>rfl
 | a::as,[]=>rfl
 | a::as,x::xs=>by simp [jF,tS (as:=as) (xs:=xs)]
def Ex.t8 (e:Ex) (c:List Ex):Ex:=if c.length=e.kids.length+e.aY.length then ⟨e.kind,e.pos,e.name,e.num,c.take e.kids.length,jF e.aY (c.drop e.kids.length),e.ty⟩ else e
theorem Qw {l:List Ar}:((fG (cq Ar.cells l)).bind (fh 14 true l.length)).map PV.aE=some (.aE (l.map Ar.pv)):=rG lh
theorem Qx {l:List Ar}:((l.map Ar.pv).flatMap bq).map AV.pv=cq Ar.cells l:=rH lh
theorem Oc {c:List Ex} {n:Nat} (h:n≤c.length):db false 11 false true false [.pv (.aE (c.map Ex.pv)),.pv (.int .i64 (n:Int))]=some (.pv (.aE ((c.map Ex.pv).take n))):=by
 have:=TW (sz:=11) (l:=c.map Ex.pv) (k:=.i64) (h:=n) (by omega) (by simp;omega)
 simpa using this
theorem O5 {sz:Nat} {l:List PV}:db false sz false true false [.pv (.aE l),.pv (.int .i64 0)]=some (.pv (.aE [])):=by
 simp [db,cN,eF]
def Q8 (e:Ex) (K:List Ex) (A:AV):List AV:=[.pv (vI e.kind),.pv (vI e.pos),.pv (.str e.name),.pv (vI e.num),.own (K.map Ex.pv) 3,A,.pv (vI e.ty.kind),.pv (.str e.ty.name),.pv (vI e.ty.id),.pv (vI e.ty.home),.pv (.aE (e.ty.args.map Ty.pv))]
theorem Sr {e:Ex} {c K:List Ex} {n0 N:Nat} (hN:N≤1000) (hc:c.length=n0+N) (hn0:n0≤1000):∀(n i:Nat),N-i=n→i≤N→∀as:List Ar,as.length=N →
   cl AP g374L0 ⟨[(1,.pv (.aE (c.map Ex.pv))),(4,.aB 4 0),(5,.pv (vI n0)),(6,.aB 6 0),(7,.pv (vI i))],[(4,zO),(6,Q8 e K (.bz 0 14 N true))],[some (cq Ar.cells as)],[0,0,0,K.length]⟩ =
     some (.exit 0,⟨[(1,.pv (.aE (c.map Ex.pv))),(4,.aB 4 0),(5,.pv (vI n0)),(6,.aB 6 0),(7,.pv (vI N)),(34,.pv (.bool false))],[(4,zO),(6,Q8 e K (.bz 0 14 N true))],[some (cq Ar.cells (as.take i++jF (as.drop i) (c.drop (n0+i))))],[0,0,0,K.length]⟩)
 | 0,i,hn,hi,as,ha=>by
   have:i=N:=by omega
   subst this
   have hq:∀aQ ts,cf aQ ts [some (cq Ar.cells as)]=([some (cq Ar.cells as)],aQ,ts):=(bN.one dh).norm
   rw [RS (l:=as) (by omega),List.take_of_length_le (by omega)]
   simp only [jF,List.append_nil]
   generalize cq Ar.cells as=T at *
   rw [g374L0e]
   simp [g374B0,Q8,zO,hq]
 | n+1,i,hn,hi,as,ha=>by
   have hi:i<N:=by omega
   obtain ⟨a,hx⟩:=bM (l:=as) (i:=i) (by omega)
   obtain ⟨x,hy⟩:=bM (l:=c) (i:=n0+i) (by omega)
   have hci:n0+i<c.length:=by omega
   have ih:=Sr (e:=e) (K:=K) hN hc hn0 n (i+1) (by omega) (by omega) (as.set i ⟨a.pos,a.gU,a.vars,x⟩) (by simpa using ha)
   have hset:=rE lh hx (y:=⟨a.pos,a.gU,a.vars,x⟩) (o:=3) (vs:=x.cells) (by rw [eT.len];omega) (by
     have h1:=eT.len a.body
     have h2:=eT.len x
     simp only [Ar.cells,List.take_succ_cons,List.take_zero,List.cons_append,List.nil_append,List.drop_succ_cons,List.drop_zero,h2]
     rw [List.drop_eq_nil_of_le (by simp [h1]),List.append_nil])
   rw [Ex.vC] at hset
   have hfin:as.take i++jF (as.drop i) (c.drop (n0+i))=(as.set i ⟨a.pos,a.gU,a.vars,x⟩).take (i+1)++jF ((as.set i ⟨a.pos,a.gU,a.vars,x⟩).drop (i+1)) (c.drop (n0+(i+1))):=by
     have h1:(as.set i ⟨a.pos,a.gU,a.vars,x⟩).take (i+1)=as.take i++[⟨a.pos,a.gU,a.vars,x⟩]:=by
       rw [List.set_eq_take_append_cons_drop,if_pos (by omega),List.take_append,List.take_of_length_le (by simp;omega)]
       have:i+1-(as.take i).length=1:=by simp;omega
       rw [this];rfl
     rw [h1,List.drop_set_of_lt (by omega),cX hx,cX hy]
     simp [jF,Nat.add_assoc]
   rw [hfin]
   generalize (as.set i ⟨a.pos,a.gU,a.vars,x⟩).take (i+1)++jF ((as.set i ⟨a.pos,a.gU,a.vars,x⟩).drop (i+1)) (c.drop (n0+(i+1)))=R at ih ⊢
   have hq:∀aQ ts,cf aQ ts [some (cq Ar.cells as)]=([some (cq Ar.cells as)],aQ,ts):=(bN.one dh).norm
   have hq1:∀aQ ts,cf aQ ts [some (cq Ar.cells (as.set i ⟨a.pos,a.gU,a.vars,x⟩))]=([some (cq Ar.cells (as.set i ⟨a.pos,a.gU,a.vars,x⟩))],aQ,ts):=(bN.one dh).norm
   have hB:c_ (cq Ar.cells as)=false:=eK dh
   have hlen:(cq Ar.cells as).length=N*14:=by rw [eE lh,ha]
   have hle:i*14+3+11≤N*14:=by omega
   generalize cq Ar.cells (as.set i ⟨a.pos,a.gU,a.vars,x⟩)=T1 at *
   generalize cq Ar.cells as=T at *
   have hil:((n0:Int)+i).toNat=n0+i:=by omega
   have hpos:¬((n0:Int)+i<0):=by omega
   rw [g374L0e] at ih ⊢
   simp [Q8,zO,hq1] at ih hset
   simp (disch:=omega) [-getElem?_pos,g374B0,Q8,zO,hq,hi,hy,hci,hB,hlen,hle,hset,az,hil,hpos]
   rw [g374L0e]
   simp [hq1,ih]
theorem Ma {xs:List Ex}:jF [] xs=[]:=by cases xs<;>rfl
theorem c374 {e:Ex} (hk:e.kids.length≤1000) (ha:e.aY.length≤1000) {c:List Ex}:(aL AP).p 374 [e.pv,.aE (c.map Ex.pv)]=some [(e.t8 c).pv]:=by
 rw [ah (af:=g374) rfl rfl (by decide)]
 unfold Ex.t8
 have hw:((e.kids.length:Int)+e.aY.length).toNat=e.kids.length+e.aY.length:=by omega
 by_cases hc:c.length=e.kids.length+e.aY.length
 · rw [if_pos hc]
   have hci:(c.length:Int)=(e.kids.length:Int)+e.aY.length:=by omega
   have hle:e.kids.length≤c.length:=by omega
   have hsl:=Oc hle
   have hsl2:(c.take e.kids.length).length=e.kids.length:=by simp;omega
   have hb1:e.kids.length*152≤140737488355328:=by omega
   have hb2:e.aY.length*200≤140737488355328:=by omega
   have hz:e.kids.length=0↔c.take e.kids.length=[]:=by rw [←List.length_eq_zero_iff,hsl2]
   rw [←List.map_take] at hsl
   by_cases hA:e.aY=[]
   · have hn:e.aY.length=0:=by rw [hA];rfl
     rw [hn] at hci
     simp at hci
     generalize hK:c.take e.kids.length=K at *
     rw [hA,Ma]
     by_cases hK0:K=[]
     · subst hK0
       have h0:=hz.2 rfl
       simp [h0] at hci
       simp (disch:=omega) [g374,g374L0e,g374B0,hA,hci,O5,az,h0]
     · simp (disch:=omega) [g374,g374L0e,g374B0,hA,hci,hsl,az,hK0,hsl2,hb1]
   · have h:=Sr (e:=e) (c:=c) (K:=c.take e.kids.length) ha hc hk _ 0 rfl (by omega) e.aY rfl
     simp only [List.take_zero,List.drop_zero,List.nil_append,Nat.add_zero] at h
     have hm:=Qx (l:=e.aY)
     have hl:=Qw (l:=jF e.aY (c.drop e.kids.length))
     have hlen:(cq Ar.cells (jF e.aY (c.drop e.kids.length))).length=e.aY.length*14:=by rw [eE lh,tS]
     rw [tS] at hl
     have hq:∀aQ ts,cf aQ ts [some (cq Ar.cells e.aY)]=([some (cq Ar.cells e.aY)],aQ,ts):=(bN.one dh).norm
     generalize jF e.aY (c.drop e.kids.length)=R at *
     generalize cq Ar.cells R=TR at *
     generalize hK:c.take e.kids.length=K at *
     rw [g374L0e] at h
     generalize cq Ar.cells e.aY=T at *
     simp [Q8,zO,hq] at h
     simp at hl
     by_cases hK0:K=[]
     · subst hK0
       have h0:=hz.2 rfl
       simp [h0] at h hci
       simp (disch:=omega) [-getElem?_pos,g374,hA,hci,O5,az,h0,hb2,hm,hq,g374L0e,h,hlen,hl]
     · simp only [hsl2] at h
       simp (disch:=omega) [-getElem?_pos,g374,hA,hci,hsl,az,hK0,hsl2,hb1,hb2,hm,hq,g374L0e,h,hlen,hl]
 · rw [if_neg hc]
   have hci:¬(c.length:Int)=(e.kids.length:Int)+e.aY.length:=by omega
   simp (disch:=omega) [g374,hci,az]
end Go.Ab.Lw
namespace Go.Ab.Lw
open Ev
inductive Ex.One:Ex→Prop
 | mk {e:Ex}:(e.kind=8→e.kids.length=1)→(∀x∈e.ch,x.One)→e.One
theorem Ex.One.h {e:Ex} (h:e.One):e.kind=8→e.kids.length=1:=by cases h;assumption
theorem Ex.One.c {e:Ex} (h:e.One):∀x∈e.ch,x.One:=by cases h;assumption
end Go.Ab.Lw
namespace Go.Ab.Lw
open Ev
def D7 (cs:List nc) (s:cm):Option Nat:=gL (fun c=>decide (c.name=s)) cs
def lN:List Dt→cm→Nat→Option (Nat×Nat)
 | [],_,_=>none
 | d::r,s,i=>match D7 d.cons s with
   | some k=>some (i,k)
   | none=>lN r s (i+1)
def rF:Option (Nat×Nat)→List PV
 | some (i,k)=>[vI i,vI k,.bool true]
 | none=>[vI 0,vI 0,.bool false]
theorem O6 {ds:List Dt} {s:cm} {i:Nat} {cs:List nc} (hS:Sm cs):∀(n k:Nat),cs.length-k=n→k≤cs.length →
   cl AP g190L1 ⟨[(1,.pv (.str s)),(7,.pv (vI i)),(11,.pv (.aE (ds.map Dt.pv))),(12,.pv (vI ds.length)),(13,.pv (vI i)),(19,.pv (.aE (cs.map nc.pv))),(20,.pv (vI cs.length)),(21,.pv (vI k))],[],[],[]⟩ =
     match gL (fun c=>decide (c.name=s)) (cs.drop k) with
     | some j=>some (.ret,⟨[(4,.pv (vI i)),(5,.pv (vI (k+j:Nat))),(6,.pv (.bool true))],[],[],[]⟩)
     | none=>some (.exit 2,⟨[(1,.pv (.str s)),(7,.pv (vI i)),(11,.pv (.aE (ds.map Dt.pv))),(12,.pv (vI ds.length)),(13,.pv (vI i)),(19,.pv (.aE (cs.map nc.pv))),(20,.pv (vI cs.length)),(21,.pv (vI cs.length)),(22,.pv (.bool false))],[],[],[]⟩)
 | 0,k,hn,hk=>by
   have:k=cs.length:=by omega
   subst this
   rw [g190L1e]
   simp [g190B1,gL]
 | n+1,k,hn,hk=>by
   have hk:k<cs.length:=by omega
   obtain ⟨x,hx⟩:=bM hk
   unfold Sm at hS
   have ih:=O6 (ds:=ds) (s:=s) (i:=i) hS n (k+1) (by omega) (by omega)
   rw [g190L1e] at ih ⊢
   rw [cX hx]
   simp at ih
   by_cases e:x.name=s
   · simp (disch:=omega) [-getElem?_pos,g190B1,hx,hk,e,gL]
   · simp (disch:=omega) [-getElem?_pos,g190B1,hx,hk,e,gL,az]
     rw [g190L1e]
     simp [ih]
     cases gL (fun c=>decide (c.name=s)) (cs.drop (k+1)) with
     | none=>rfl
     | some j=>simp;omega
theorem TZ {ds:List Dt} (hS:Sm ds) (hc:∀d∈ds,Sm d.cons) (s:cm):∀(n i:Nat),ds.length-i=n→i≤ds.length →
   cl AP g190L0 ⟨[(1,.pv (.str s)),(11,.pv (.aE (ds.map Dt.pv))),(12,.pv (vI ds.length)),(13,.pv (vI i))],[],[],[]⟩ =
     match lN (ds.drop i) s i with
     | some q=>some (.ret,⟨[(4,.pv (vI q.1)),(5,.pv (vI q.2)),(6,.pv (.bool true))],[],[],[]⟩)
     | none=>some (.exit 0,⟨[(1,.pv (.str s)),(11,.pv (.aE (ds.map Dt.pv))),(12,.pv (vI ds.length)),(13,.pv (vI ds.length)),(14,.pv (.bool false))],[],[],[]⟩)
 | 0,i,hn,hi=>by
   have:i=ds.length:=by omega
   subst this
   rw [g190L0e]
   simp [g190B0,lN]
 | n+1,i,hn,hi=>by
   have hi:i<ds.length:=by omega
   obtain ⟨d,hd⟩:=bM hi
   unfold Sm at hS
   have ih:=TZ hS hc s n (i+1) (by omega) (by omega)
   have h:=O6 (ds:=ds) (s:=s) (i:=i) (hc d (bA hd)) _ 0 rfl (by omega)
   rw [g190L1e] at h
   rw [g190L0e] at ih ⊢
   rw [cX hd]
   simp at ih h
   cases e:gL (fun c=>decide (c.name=s)) d.cons with
   | some k=>
     rw [e] at h
     simp at h
     simp (disch:=omega) [-getElem?_pos,g190B0,hd,hi,lN,D7,e,g190L1e,h]
   | none=>
     rw [e] at h
     simp at h
     simp (disch:=omega) [-getElem?_pos,g190B0,hd,hi,lN,D7,e,g190L1e,h,az]
     rw [g190L0e]
     simp [ih]
theorem O7 {ds:List Dt} {s:cm} {i:Nat} {d:Dt} (hd:ds[i]?=some d) (hS:Sm d.cons):∀(n k:Nat),d.cons.length-k=n→k≤d.cons.length →
   cl AP g191L1 ⟨[(0,.pv (.aE (ds.map Dt.pv))),(1,.pv (.str s)),(7,.pv (vI i)),(8,.pv (vI k))],[],[],[]⟩ =
     match gL (fun c=>decide (c.name=s)) (d.cons.drop k) with
     | some j=>some (.ret,⟨[(4,.pv (vI i)),(5,.pv (vI (k+j:Nat))),(6,.pv (.bool true))],[],[],[]⟩)
     | none=>some (.exit 2,⟨[(0,.pv (.aE (ds.map Dt.pv))),(1,.pv (.str s)),(7,.pv (vI i)),(8,.pv (vI d.cons.length)),(22,.pv (.bool false))],[],[],[]⟩)
 | 0,k,hn,hk=>by
   have:k=d.cons.length:=by omega
   subst this
   rw [g191L1e]
   simp [-getElem?_pos,g191B1,gL,hd]
 | n+1,k,hn,hk=>by
   have hk:k<d.cons.length:=by omega
   obtain ⟨x,hx⟩:=bM hk
   unfold Sm at hS
   have ih:=O7 (s:=s) hd hS n (k+1) (by omega) (by omega)
   rw [g191L1e] at ih ⊢
   rw [cX hx]
   simp at ih
   by_cases e:x.name=s
   · simp (disch:=omega) [-getElem?_pos,g191B1,hd,hx,hk,e,gL]
   · simp (disch:=omega) [-getElem?_pos,g191B1,hd,hx,hk,e,gL,az]
     rw [g191L1e]
     simp [ih]
     cases gL (fun c=>decide (c.name=s)) (d.cons.drop (k+1)) with
     | none=>rfl
     | some j=>simp;omega
theorem Ss {ds:List Dt} (hS:Sm ds) (hc:∀d∈ds,Sm d.cons) (s:cm):∀(n i:Nat),ds.length-i=n→i≤ds.length →
   cl AP g191L0 ⟨[(0,.pv (.aE (ds.map Dt.pv))),(1,.pv (.str s)),(7,.pv (vI i))],[],[],[]⟩ =
     match lN (ds.drop i) s i with
     | some q=>some (.ret,⟨[(4,.pv (vI q.1)),(5,.pv (vI q.2)),(6,.pv (.bool true))],[],[],[]⟩)
     | none=>some (.exit 0,⟨[(0,.pv (.aE (ds.map Dt.pv))),(1,.pv (.str s)),(7,.pv (vI ds.length)),(12,.pv (.bool false))],[],[],[]⟩)
 | 0,i,hn,hi=>by
   have:i=ds.length:=by omega
   subst this
   rw [g191L0e]
   simp [g191B0,lN]
 | n+1,i,hn,hi=>by
   have hi:i<ds.length:=by omega
   obtain ⟨d,hd⟩:=bM hi
   unfold Sm at hS
   have ih:=Ss hS hc s n (i+1) (by omega) (by omega)
   have h:=O7 (s:=s) hd (hc d (bA hd)) _ 0 rfl (by omega)
   rw [g191L1e] at h
   rw [g191L0e] at ih ⊢
   rw [cX hd]
   simp at ih h
   cases e:gL (fun c=>decide (c.name=s)) d.cons with
   | some k=>
     rw [e] at h
     simp at h
     simp (disch:=omega) [-getElem?_pos,g191B0,hd,hi,lN,D7,e,g191L1e,h]
   | none=>
     rw [e] at h
     simp at h
     simp (disch:=omega) [-getElem?_pos,g191B0,hd,hi,lN,D7,e,g191L1e,h,az]
     rw [g191L0e]
     simp [ih]
theorem c191 {ds:List Dt} (hS:Sm ds) (hc:∀d∈ds,Sm d.cons) {s:cm}:(aL AP).p 191 [.aE (ds.map Dt.pv),.str s]=some (rF (lN ds s 0)):=by
 have h:=Ss hS hc s _ 0 rfl (by omega)
 rw [ah (af:=g191) rfl rfl (by decide)]
 rw [g191L0e] at h
 simp at h
 cases e:lN ds s 0 with
 | none=>rw [e] at h;simp at h;simp [g191,g191L0e,h,rF]
 | some q=>rw [e] at h;simp at h;simp [g191,g191L0e,h,rF]
theorem Od {cs:List nc} {s:cm} {k:Nat} (h:D7 cs s=some k):∃c,cs[k]?=some c∧c.name=s:=by
 unfold D7 at h
 induction cs generalizing k with
 | nil=>simp [gL] at h
 | cons a r ih=>
   simp only [gL] at h
   split at h
   · rename_i e
     cases h
     exact ⟨a,rfl,by simpa using e⟩
   · simp only [Option.map_eq_some_iff] at h
     obtain ⟨j,hj,rfl⟩:=h
     obtain ⟨c,h1,h2⟩:=ih hj
     exact ⟨c,by simpa using h1,h2⟩
theorem xE {s:cm}:∀{ds:List Dt} {n:Nat} {q:Nat×Nat},lN ds s n=some q→n≤q.1∧∃d c,ds[q.1-n]?=some d∧d.cons[q.2]?=some c∧c.name=s
 | [],n,q,h=>by simp [lN] at h
 | d::r,n,q,h=>by
   simp only [lN] at h
   split at h
   · rename_i k e
     cases h
     obtain ⟨c,h1,h2⟩:=Od e
     exact ⟨Nat.le_refl _,d,c,by simp,h1,h2⟩
   · obtain ⟨h1,d',c,h2,h3,h4⟩:=xE h
     refine ⟨by omega,d',c,?_,h3,h4⟩
     rw [show q.1-n=(q.1-(n+1))+1 from by omega]
     simpa using h2
end Go.Ab.Lw
namespace Go.Ab.Lw
open Ev
abbrev T0:=Int×Int
def fP (f:T0):PV:=.agg [vI f.1,vI f.2]
@[simp] theorem Li (f:T0):fP f=.agg [vI f.1,vI f.2]:=rfl
abbrev m2 (f:T0):List AV:=[.pv (vI f.1),.pv (vI f.2)]
end Go.Ab.Lw
namespace Go.Ab.Lw
open Ev
inductive Ex.O8 (P:Ex→Prop):Ex→Prop
 | mk {e:Ex}:P e→(∀x∈e.ch,Ex.O8 P x)→Ex.O8 P e
theorem Ex.O8.h {P:Ex→Prop} {e:Ex} (h:e.O8 P):P e:=by cases h;assumption
theorem Ex.O8.c {P:Ex→Prop} {e:Ex} (h:e.O8 P):∀x∈e.ch,x.O8 P:=by cases h;assumption
inductive Ex.A0:Nat→Ex→Prop
 | mk {n:Nat} {e:Ex}:(∀x∈e.ch,Ex.A0 n x)→Ex.A0 (n+1) e
structure Az (e:Ex):Prop where
 ok:e.Ok
 one:e.One
 cw:e.O8 fun x=>x.ty.Cw
theorem Az.c {e x:Ex} (h:Az e) (hx:x∈e.ch):Az x:=⟨h.ok.c x hx,h.one.c x hx,h.cw.c x hx⟩
end Go.Ab.Lw
namespace Go.Ab.Lw
open Ev
inductive Lk:Ex→Ex→Prop
 | mk {e f:Ex}:f.kind=e.kind→f.name=e.name→f.num=e.num→f.ty=e.ty→f.kids.length=e.kids.length→f.aY.map (fun a=>(a.gU,a.vars))=e.aY.map (fun a=>(a.gU,a.vars)) →
     (∀(i:Nat) (x y:Ex),e.ch[i]?=some x→f.ch[i]?=some y→Lk x y)→Lk e f
def pj (b:Nat):List AV:=[.pv (vI 0),.pv (vI 0),.pv (.str []),.pv (vI 0),.own [] b,.own [] (b+1),.pv (vI 0),.pv (.str []),.pv (vI 0),.pv (vI 0),.own [] (b+2)]
theorem mz:∀{as:List Ar} {xs:List Ex},xs.length=as.length→(jF as xs).map iw.body=xs
 | [],[],_=>rfl
 | [],_::_,h=>by simp at h
 | _::_,[],h=>by simp at h
 | a::as,x::xs,h=>by simp only [jF,List.map_cons,mz (as:=as) (xs:=xs) (by simpa using h)]
theorem xF:∀{as:List Ar} {xs:List Ex},(jF as xs).map (fun a=>(a.gU,a.vars))=as.map (fun a=>(a.gU,a.vars))
 | [],xs=>by cases xs<;>rfl
 | a::as,[]=>rfl
 | a::as,x::xs=>by simp only [jF,List.map_cons,xF (as:=as) (xs:=xs)]
theorem D9 {e:Ex} {c:List Ex} (h:c.length=e.kids.length+e.aY.length):(e.t8 c).ch=c:=by
 unfold Ex.t8
 rw [if_pos h]
 simp only [Ex.ch]
 rw [mz (by simp;omega),List.take_append_drop]
theorem vG {sz n:Nat} {ag:Bool}:M9 sz n ag none=none:=rfl
theorem AA {cs:List AV}:wK cs none=.agg cs:=rfl
theorem EX {o:Option (List PV)}:oX none o=none:=rfl
theorem EY {p:PV}:oX (some p) none=none:=rfl
theorem c145j {e:Ex} {X:Sh}:(aL AP).i 145 [.pv e.pv] X []=(aL AP).i 145 [.agg (e.MC (.pv (.aE (e.aY.map Ar.pv))))] X []:=by
 rw [aP (af:=g145) rfl (by simp [g145]),aP (af:=g145) rfl (by simp [g145])]
 simp [g145]
end Go.Ab.Lw
namespace Go.Ab.Lw
open Ev
theorem c372 {s:ef} {S:List Int} (hs:s.sl.length≤1000000) (ha:I7 s.sl) (hO:∀x∈s.sl,x.ty.Ok) (hS:∀x∈s.sl,∀w,iH x.ty w→w∈S) (hf:S.length<1099511627776) {t:Ty} (ht:t.Ok) (hw:∀w,iH t w→w∈S) :
   ∃out,(aL AP).p 372 [s.pv,.aE [t.pv]]=some [.aE (out.map vI)]∧lM S out∧∀v,RT s.sl t v→¬qd s.sl v→v∈out:=by
 obtain ⟨rk,hr⟩:=ha
 obtain ⟨N,hN⟩:=iH.bound rk t
 obtain ⟨dn',out,P⟩:=LA hr hO hS N t ht hN hw (List.replicate s.sl.length false) [] (by simp) (tG hf) (by
   intro j hj
   exfalso
   by_cases q:j<s.sl.length
   · simp [List.getElem?_replicate,q] at hj
   · simp [List.getElem?_replicate,q] at hj)
 refine ⟨out,?_,P.II,P.all⟩
 have e:=P.TY
 have hb:bT (List.replicate s.sl.length false)=List.replicate s.sl.length (.pv (.bool false)):=by simp [bT]
 have hp:=mw (dn:=List.replicate s.sl.length false)
 have hp':=mw (dn:=dn')
 unfold Qt at e
 rw [hb] at e hp
 have b1:(s.sl.length:Int)≤9223372036854775807:=by omega
 have b2:(s.sl.length:Int)≤140737488355328:=by omega
 have hn:=hp.norm
 have hn':=hp'.norm
 have hh:=hp.sh
 have hh':=hp'.sh
 have hm:=hp.mp
 generalize bT dn'=T' at *
 have hfl:(List.replicate s.sl.length [AV.pv (.bool false)]).flatten=List.replicate s.sl.length (.pv (.bool false)):=by
   generalize s.sl.length=n
   induction n with
   | zero=>rfl
   | succ n ih=>rw [List.replicate_succ,List.flatten_cons,ih,List.replicate_succ];rfl
 generalize List.replicate s.sl.length (AV.pv (.bool false))=T at *
 simp [fX] at e
 rw [ah (af:=g372) rfl rfl (by decide)]
 simp (disch:=omega) [g372,b1,b2,hn,hn',hh,hh',hm,hfl,g372L0e,g372B0,e,az,vG,EX,EY,sW]
end Go.Ab.Lw
namespace Go.Ab.Lw
open Ev
theorem pk {k:Int} {t:Ty}:(t.ff k).length≤t.nodes.length:=by
 refine Ty.gg (p:=fun t=>(t.ff k).length≤t.nodes.length) ?_ t
 intro t ih
 rw [Ty.mj,Ty.aS]
 split
 · simp
 · have key:∀l:List Ty,(∀a∈l,(a.ff k).length≤a.nodes.length)→(l.flatMap (Ty.ff k)).length≤(l.flatMap Ty.nodes).length:=by
     intro l
     induction l with
     | nil=>intro _;simp
     | cons a r ihr=>
       intro h
       have h1:=h a (by simp)
       have h2:=ihr fun b hb=>h b (by simp [hb])
       simp only [List.flatMap_cons,List.length_append]
       omega
   have:=key t.args ih
   simp only [List.length_cons]
   omega
theorem mA {k:Int} {t:Ty}:∀x∈t.ff k,x.args=[]:=by
 refine Ty.gg (p:=fun t=>∀x∈t.ff k,x.args=[]) ?_ t
 intro t ih x hx
 rw [Ty.mj] at hx
 split at hx
 · rename_i q
   simp at hx
   subst hx
   exact List.length_eq_zero_iff.1 q.2
 · simp only [List.mem_flatMap] at hx
   obtain ⟨a,ha,hx⟩:=hx
   exact ih a ha x hx
theorem c59t {u:Ty} (hu:u.Ok) (hn:u.nodes.length≤4000):∃r:List Ty,(aL AP).p 59 [.aE [u.pv]]=some [.aE (r.map Ty.pv)]∧Sm r:=by
 have hl:=pk (k:=3) (t:=u)
 obtain ⟨r,e,h,_⟩:=c59 (S:=u.ff 3) (by omega) (fun x hx=>df (mA x hx)) (l:=[u]) (by simp [Sm]) (by simpa using hu) (by simp)
 exact ⟨r,e,h⟩
structure Inv (n M:Nat) (S:List Int) (s:ef):Prop where
 len:s.sl.length=n
 ME:s.tr.length+(n+2)*ub s.sl≤M
 ok:∀x∈s.sl,x.ty.Ok
 m8:∀x∈s.sl,∀w,iH x.ty w→w∈S
 Mb:I7 s.sl
 wf:∀x∈s.sl,x.ty.Kw
theorem mem_set {α:Type} {l:List α} {k:Nat} {x y:α} (h:y∈l.set k x):y=x∨y∈l:=by
 rcases List.mem_or_eq_of_mem_set h with h | h
 · exact .inr h
 · exact .inl h
theorem cJ {s:ef} {i:Nat} {o x:Sl}:(ij s i o x).sl=s.sl.set i x:=rfl
theorem m9 {s:ef} {i:Nat} {o x:Sl}:(ij s i o x).tr.length=s.tr.length+1:=by simp [ij]
theorem xG {s:List Sl} {k:Nat} {o:Sl} (hk:s[k]?=some o) (h:¬qd s (k:Int)):o.bd=false:=by
 cases e:o.bd with
 | false=>rfl
 | true=>exact absurd ⟨k,o,rfl,hk,e⟩ h
theorem Mc {n M:Nat} {S:List Int} {s:ef} (I:Inv n M S s) {i j:Nat} {l h l' h':Sl} (hl:s.sl[i]?=some l) (hh:s.sl[j]?=some h) (hij:i≠j) (fi:¬qd s.sl (i:Int)) (fj:¬qd s.sl (j:Int))
   (hl1:l'.bd=l.bd) (hl2:l'.ty=l.ty) (hh1:h'.bd=true) (hh2:h'.ty=ct i) (hi:(i:Int)∈S) :
   Inv n M S (ij (ij s i l l') j h h')∧ub (ij (ij s i l l') j h h').sl<ub s.sl:=by
 have hj':(ij s i l l').sl[j]?=some h:=by
   rw [cJ,List.getElem?_set,if_neg hij,hh]
 have u1:=rK hl hl1
 have u2:=xD hj' (xG hh fj) hh1
 rw [cJ] at u2
 have hp:=I.ME
 refine ⟨⟨by simp [ij,I.len],?_,?_,?_,?_,?_⟩,?_⟩
 · rw [m9,m9]
   simp only [cJ]
   have:(n+2)*ub s.sl=(n+2)*ub ((s.sl.set i l').set j h')+(n+2):=by rw [←u1,←u2,Nat.mul_add,Nat.mul_one]
   omega
 · intro x hx
   simp only [cJ] at hx
   rcases mem_set hx with rfl | hx
   · rw [hh2];exact df rfl
   · rcases mem_set hx with rfl | hx
     · rw [hl2];exact I.ok l (bA hl)
     · exact I.ok x hx
 · intro x hx w ho
   simp only [cJ] at hx
   rcases mem_set hx with rfl | hx
   · rw [hh2] at ho
     rw [jV (t:=ct i) rfl ho]
     exact hi
   · rcases mem_set hx with rfl | hx
     · rw [hl2] at ho;exact I.m8 l (bA hl) w ho
     · exact I.m8 x hx w ho
 · simp only [cJ]
   refine Ax (Aw I.Mb hl hl1 hl2) ?_
   intro v ho hv
   rw [hh2] at ho
   have e:=jV (t:=ct i) rfl ho
   have e2:v=(i:Int):=e
   subst e2
   have fi':¬qd (s.sl.set i l') (i:Int):=by
     rintro ⟨k,x,q,hx,hb⟩
     have:k=i:=by omega
     subst this
     have hlt:k<s.sl.length:=by obtain ⟨h,_⟩:=List.getElem?_eq_some_iff.1 hl;exact h
     rw [List.getElem?_set,if_pos rfl,if_pos hlt] at hx
     cases hx
     rw [hl1,xG hl fi] at hb
     cases hb
   have:=tR hv fi'
   omega
 · intro x hx
   simp only [cJ] at hx
   rcases mem_set hx with rfl | hx
   · rw [hh2];exact ⟨by simp [ct],by simp [ct],by simp [ct]⟩
   · rcases mem_set hx with rfl | hx
     · rw [hl2];exact I.wf l (bA hl)
     · exact I.wf x hx
 · simp only [cJ]
   omega
end Go.Ab.Lw
namespace Go.Ab.Lw
open Ev
theorem Inv.MF {n M:Nat} {S:List Int} {s:ef} (I:Inv n M S s):s.Ok n (M+10):=⟨by rw [I.len];omega,by have:=I.ME;have:0≤(n+2)*ub s.sl:=Nat.zero_le _;omega,I.ok⟩
theorem Inv.T3 {n M:Nat} {S:List Int} {s:ef} (I:Inv n M S s) {i:Nat} {o x:Sl} (hx:x.ty.Ok):(ij s i o x).Ok n (M+10):=⟨by rw [cJ,List.length_set,I.len];omega,by rw [m9];have:=I.ME;have:0≤(n+2)*ub s.sl:=Nat.zero_le _;omega,by
 intro y hy
 rw [cJ] at hy
 rcases mem_set hy with rfl | hy
 · exact hx
 · exact I.ok y hy⟩
theorem c397 {n M:Nat} {S:List Int} {s:ef} (I:Inv n M S s) (hn:n≤1000000) (hM:M≤100000000) {x y:Ty} {i j:Nat} (hxi:x.id=i) (hyj:y.id=j) (hi:i<n) (hj:j<n) (fi:¬qd s.sl (i:Int)) (fj:¬qd s.sl (j:Int)) (hiS:(i:Int)∈S) (hjS:(j:Int)∈S) :
   ∃s',(aL AP).p 397 [s.pv,x.pv,y.pv]=some [s'.pv]∧Inv n M S s'∧(s'=s∨ub s'.sl<ub s.sl):=by
 by_cases hij:i=j
 · refine ⟨s,?_,I,.inl rfl⟩
   have h2:x.id=y.id:=by rw [hxi,hyj,hij]
   rw [ah (af:=g397) rfl rfl (by decide)]
   simp [g397,h2]
 · have hne:¬(i:Int)=j:=by omega
   obtain ⟨a,ha⟩:=bM (l:=s.sl) (i:=min i j) (by rw [I.len];omega)
   obtain ⟨b,hb⟩:=bM (l:=s.sl) (i:=max i j) (by rw [I.len];omega)
   have hab:min i j≠max i j:=by omega
   have fa:¬qd s.sl ((min i j:Nat):Int):=by
     by_cases q:i≤j
     · rw [Nat.min_eq_left q];exact fi
     · rw [Nat.min_eq_right (by omega)];exact fj
   have fb:¬qd s.sl ((max i j:Nat):Int):=by
     by_cases q:i≤j
     · rw [Nat.max_eq_right q];exact fj
     · rw [Nat.max_eq_left (by omega)];exact fi
   have haS:((min i j:Nat):Int)∈S:=by
     by_cases q:i≤j
     · rw [Nat.min_eq_left q];exact hiS
     · rw [Nat.min_eq_right (by omega)];exact hjS
   have hmin:(if j<i then (j:Int) else (i:Int))=((min i j:Nat):Int):=by split<;>omega
   have hmax:(if i<j then (j:Int) else (i:Int))=((max i j:Nat):Int):=by split<;>omega
   have hlo:min i j<s.sl.length:=by rw [I.len];omega
   have hhi:max i j<s.sl.length:=by rw [I.len];omega
   generalize min i j=p at *
   generalize max i j=q at *
   have k0:=c63 (n:=p)
   let a':Sl:=⟨a.bd,a.ty,if b.home<a.home then b.home else a.home,a.base || b.base⟩
   let b':Sl:=⟨true,ct p,b.home,b.base⟩
   have aO:a'.ty.Ok:=I.ok a (bA ha)
   have k1:=c393 I.MF (by omega) (by omega) ha a'
   have hb1:(ij s p a a').sl[q]?=some b:=by rw [cJ,List.getElem?_set,if_neg hab,hb]
   have k2:=c393 (I.T3 (i:=p) (o:=a) aO) (by omega) (by omega) hb1 b'
   obtain ⟨J,hu⟩:=Mc I (l':=a') (h':=b') ha hb hab fa fb rfl rfl rfl rfl haS
   refine ⟨ij (ij s p a a') q b b',?_,J,.inr hu⟩
   generalize ij (ij s p a a') q b b'=s2 at *
   generalize ij s p a a'=s1 at *
   simp [a',b',ct] at k0 k1 k2
   rw [ah (af:=g397) rfl rfl (by decide)]
   cases hab1:a.base
   · simp [hab1] at k1
     simp (disch:=omega) [-getElem?_pos,g397,hxi,hyj,hne,hmin,hmax,ha,hb,hlo,hhi,k0,k1,k2,hab1]
   · simp [hab1] at k1
     simp (disch:=omega) [-getElem?_pos,g397,hxi,hyj,hne,hmin,hmax,ha,hb,hlo,hhi,k0,k1,k2,hab1]
end Go.Ab.Lw
namespace Go.Ab.Lw
open Ev
def zS:List AV:=[.own [] 0,.own [] 1]
def qe (v:Sl):List AV:=[.pv (.bool v.bd),.pv (vI v.ty.kind),.pv (.str v.ty.name),.pv (vI v.ty.id),.pv (vI v.ty.home),.pv (.aE (v.ty.args.map Ty.pv)),.pv (vI v.home),.pv (.bool v.base)]
def Md (s:ef) (q:aH):Option (bo×St):=some (.ret,⟨[(6,.aB 6 0),(7,.pv (vI 13))],[(6,sC s)],[],q⟩)
theorem O9 {s:ef} {i:Nat} {t:Ty} {v:Sl} {out:List Int} {r:List Ty} (hr:Sm r):∀(n k:Nat),r.length-k=n→k≤r.length →
   (∃q,cl AP g398L0 ⟨[(1,.pv (vI i)),(3,.aB 3 0),(5,.aB 5 0),(6,.aB 6 0),(8,.aB 8 0),(9,.pv (.aE (out.map vI))),(15,.pv (.aE (r.map Ty.pv))),(16,.pv (vI k))],[(3,sC s),(5,tC t),(6,zS),(8,qe v)],[],[0,0]⟩=Md s q) ∨
   cl AP g398L0 ⟨[(1,.pv (vI i)),(3,.aB 3 0),(5,.aB 5 0),(6,.aB 6 0),(8,.aB 8 0),(9,.pv (.aE (out.map vI))),(15,.pv (.aE (r.map Ty.pv))),(16,.pv (vI k))],[(3,sC s),(5,tC t),(6,zS),(8,qe v)],[],[0,0]⟩ =
     some (.exit 0,⟨[(1,.pv (vI i)),(3,.aB 3 0),(5,.aB 5 0),(6,.aB 6 0),(8,.aB 8 0),(9,.pv (.aE (out.map vI))),(15,.pv (.aE (r.map Ty.pv))),(16,.pv (vI r.length)),(57,.pv (.bool false))],[(3,sC s),(5,tC t),(6,zS),(8,qe v)],[],[0,0]⟩)
 | 0,k,hn,hk=>by
   have:k=r.length:=by omega
   subst this
   refine .inr ?_
   rw [g398L0e]
   simp [g398B0,sC,tC,zS,qe]
 | n+1,k,hn,hk=>by
   have hk:k<r.length:=by omega
   obtain ⟨x,hx⟩:=bM hk
   unfold Sm at hr
   by_cases hg:v.home<x.home
   · refine .inl ?_
     rw [g398L0e]
     simp (disch:=omega) [-getElem?_pos,g398B0,sC,tC,zS,qe,Md,hx,hk,hg]
   · have ih:=O9 (s:=s) (i:=i) (t:=t) (v:=v) (out:=out) hr n (k+1) (by omega) (by omega)
     have e1:cl AP g398L0 ⟨[(1,.pv (vI i)),(3,.aB 3 0),(5,.aB 5 0),(6,.aB 6 0),(8,.aB 8 0),(9,.pv (.aE (out.map vI))),(15,.pv (.aE (r.map Ty.pv))),(16,.pv (vI k))],[(3,sC s),(5,tC t),(6,zS),(8,qe v)],[],[0,0]⟩=cl AP g398L0 ⟨[(1,.pv (vI i)),(3,.aB 3 0),(5,.aB 5 0),(6,.aB 6 0),(8,.aB 8 0),(9,.pv (.aE (out.map vI))),(15,.pv (.aE (r.map Ty.pv))),(16,.pv (vI (k+1:Nat)))],[(3,sC s),(5,tC t),(6,zS),(8,qe v)],[],[0,0]⟩:=by
       conv=>lhs;rw [g398L0e]
       simp (disch:=omega) [-getElem?_pos,g398B0,sC,tC,zS,qe,hx,hk,hg,az]
     rw [e1]
     exact ih
theorem O_ {s:ef} {i:Nat} {t:Ty} {v:Sl} {out:List Int} (hr:Sm out):∀(n k:Nat),out.length-k=n→k≤out.length →
   (∃q,cl AP g398L1 ⟨[(1,.pv (vI i)),(3,.aB 3 0),(5,.aB 5 0),(6,.aB 6 0),(8,.aB 8 0),(9,.pv (.aE (out.map vI))),(17,.pv (vI k))],[(3,sC s),(5,tC t),(6,zS),(8,qe v)],[],[0,0]⟩=Md s q) ∨
   cl AP g398L1 ⟨[(1,.pv (vI i)),(3,.aB 3 0),(5,.aB 5 0),(6,.aB 6 0),(8,.aB 8 0),(9,.pv (.aE (out.map vI))),(17,.pv (vI k))],[(3,sC s),(5,tC t),(6,zS),(8,qe v)],[],[0,0]⟩ =
     some (.exit 2,⟨[(1,.pv (vI i)),(3,.aB 3 0),(5,.aB 5 0),(6,.aB 6 0),(8,.aB 8 0),(9,.pv (.aE (out.map vI))),(17,.pv (vI out.length)),(72,.pv (.bool false))],[(3,sC s),(5,tC t),(6,zS),(8,qe v)],[],[0,0]⟩)
 | 0,k,hn,hk=>by
   have:k=out.length:=by omega
   subst this
   refine .inr ?_
   rw [g398L1e]
   simp [g398B1,sC,tC,zS,qe]
 | n+1,k,hn,hk=>by
   have hk:k<out.length:=by omega
   obtain ⟨x,hx⟩:=bM hk
   unfold Sm at hr
   by_cases hg:(s.sl.length:Int)≤x∧v.home<0
   · obtain ⟨g1,g2⟩:=hg
     refine .inl ?_
     rw [g398L1e]
     simp (disch:=omega) [-getElem?_pos,g398B1,sC,tC,zS,qe,Md,hx,hk,g1,g2]
   · have ih:=O_ (s:=s) (i:=i) (t:=t) (v:=v) (out:=out) hr n (k+1) (by omega) (by omega)
     have e1:cl AP g398L1 ⟨[(1,.pv (vI i)),(3,.aB 3 0),(5,.aB 5 0),(6,.aB 6 0),(8,.aB 8 0),(9,.pv (.aE (out.map vI))),(17,.pv (vI k))],[(3,sC s),(5,tC t),(6,zS),(8,qe v)],[],[0,0]⟩=cl AP g398L1 ⟨[(1,.pv (vI i)),(3,.aB 3 0),(5,.aB 5 0),(6,.aB 6 0),(8,.aB 8 0),(9,.pv (.aE (out.map vI))),(17,.pv (vI (k+1:Nat)))],[(3,sC s),(5,tC t),(6,zS),(8,qe v)],[],[0,0]⟩:=by
       conv=>lhs;rw [g398L1e]
       by_cases g1:(s.sl.length:Int)≤x
       · have g2:¬v.home<0:=fun h=>hg ⟨g1,h⟩
         simp (disch:=omega) [-getElem?_pos,g398B1,sC,tC,zS,qe,hx,hk,g1,g2,az]
       · simp (disch:=omega) [-getElem?_pos,g398B1,sC,tC,zS,qe,hx,hk,g1,az]
     rw [e1]
     exact ih
structure Kp (s s':ef) (c:Nat):Prop where
 len:s'.sl.length=s.sl.length
 tr:s'.tr.length≤s.tr.length+c
 IK:∀(k:Nat) o',s'.sl[k]?=some o'→∃o,s.sl[k]?=some o∧o'.bd=o.bd∧o'.ty=o.ty
 ub:ub s'.sl=ub s.sl
theorem Kp.IJ {s s':ef} {c:Nat} (h:Kp s s' c) {i v:Int} (e:Edge s'.sl i v):Edge s.sl i v:=by
 obtain ⟨k,x,rfl,hx,hb,ho⟩:=e
 obtain ⟨o,hk,h1,h2⟩:=h.IK k x hx
 exact ⟨k,o,rfl,hk,by rw [←h1];exact hb,by rw [←h2];exact ho⟩
theorem Kp.set {s s':ef} {c:Nat} (h:Kp s s' c) {k:Nat} {o x:Sl} (ho:s'.sl[k]?=some o) (hb:x.bd=o.bd) (ht:x.ty=o.ty):Kp s (ij s' k o x) (c+1) where
 len:=by rw [cJ,List.length_set,h.len]
 tr:=by rw [m9];have:=h.tr;omega
 IK:=by
   intro j o' hj
   rw [cJ,List.getElem?_set] at hj
   by_cases e:k=j
   · subst e
     have hl:k<s'.sl.length:=by obtain ⟨h,_⟩:=List.getElem?_eq_some_iff.1 ho;exact h
     rw [if_pos rfl,if_pos hl] at hj
     cases hj
     obtain ⟨p,h1,h2,h3⟩:=h.IK k o ho
     exact ⟨p,h1,by rw [hb,h2],by rw [ht,h3]⟩
   · rw [if_neg e] at hj
     exact h.IK j o' hj
 ub:=by rw [cJ,rK ho hb,h.ub]
theorem Kp.refl {s:ef}:Kp s s 0:=⟨rfl,by omega,fun k o h=>⟨o,h,rfl,rfl⟩,rfl⟩
theorem Kp.ik {s s':ef} {c d:Nat} (h:Kp s s' c) (hd:c≤d):Kp s s' d:=⟨h.len,by have:=h.tr;omega,h.IK,h.ub⟩
end Go.Ab.Lw
namespace Go.Ab.Lw
open Ev
def oh (n:Nat) (l:List Int):Nat:=(l.filter fun w:Int=>decide (w<(n:Int))).length
theorem EZ {n:Nat} {l:List Int} (hd:l.Nodup) (h0:∀w∈l,0≤w):oh n l≤n:=by
 have h1:(l.filter fun w=>decide (w<(n:Int))).Nodup:=hd.filter _
 have h2:∀x∈(l.filter fun w=>decide (w<(n:Int))),x∈(List.range n).map (fun k:Nat=>(k:Int)):=by
   intro x hx
   simp at hx
   simp
   exact ⟨x.toNat,by have:=h0 x hx.1;omega,by have:=h0 x hx.1;omega⟩
 have:=gS h1 h2
 simpa [oh] using this
theorem Kp.MF {n M:Nat} {S:List Int} {s s':ef} {c:Nat} (I:Inv n M S s) (h:Kp s s' c) (hc:c≤n):s'.Ok n (M+n+10):=⟨by rw [h.len,I.len];omega,by have:=h.tr;have:=I.ME;have:0≤(n+2)*Lw.ub s.sl:=Nat.zero_le _;omega,by
 intro x hx
 obtain ⟨k,hk⟩:=List.mem_iff_getElem?.1 hx
 obtain ⟨o,ho,_,e⟩:=h.IK k x hk
 rw [e]
 exact I.ok o (bA ho)⟩
theorem E_ {N M:Nat} {S:List Int} {s:ef} (I:Inv N M S s) (hN:N≤1000000) (hM:M≤100000000) {i:Nat} {t:Ty} {v:Sl} {out:List Int} (hr:Sm out) (hd:out.Nodup) (h0:∀w∈out,0≤w):∀(n k:Nat),out.length-k=n→k≤out.length→∀s':ef,Kp s s' (oh N (out.take k))→∃s2,Kp s s2 (oh N out) ∧
   cl AP g398L2 ⟨[(1,.pv (vI i)),(3,.aB 3 0),(5,.aB 5 0),(6,.aB 6 0),(8,.aB 8 0),(9,.pv (.aE (out.map vI))),(18,.pv (vI k))],[(3,sC s'),(5,tC t),(6,zS),(8,qe v)],[],[0,0]⟩ =
     some (.exit 4,⟨[(1,.pv (vI i)),(3,.aB 3 0),(5,.aB 5 0),(6,.aB 6 0),(8,.aB 8 0),(9,.pv (.aE (out.map vI))),(18,.pv (vI out.length)),(92,.pv (.bool false))],[(3,sC s2),(5,tC t),(6,zS),(8,qe v)],[],[0,0]⟩)
 | 0,k,hn,hk,s',hK=>by
   have:k=out.length:=by omega
   subst this
   refine ⟨s',by simpa using hK,?_⟩
   rw [g398L2e]
   simp [g398B2,sC,tC,zS,qe]
 | n+1,k,hn,hk,s',hK=>by
   have hk:k<out.length:=by omega
   obtain ⟨x,hx⟩:=bM hk
   have hx0:=h0 x (bA hx)
   have hl:=hK.len
   rw [I.len] at hl
   have htk:out.take (k+1)=out.take k++[x]:=by rw [List.take_add_one,hx];rfl
   have hsub:oh N (out.take k)≤N:=EZ (hd.sublist (List.take_sublist _ _)) (fun w hw=>h0 w (List.mem_of_mem_take hw))
   have hs:=hr
   unfold Sm at hr
   by_cases hg:x<(N:Int)
   · obtain ⟨j,rfl⟩:∃j:Nat,x=j:=⟨x.toNat,by omega⟩
     have hj:j<s'.sl.length:=by omega
     obtain ⟨o,ho⟩:=bM hj
     have hcnt:oh N (out.take (k+1))=oh N (out.take k)+1:=by
       rw [htk]
       simp [oh,hg]
     by_cases hh:v.home<o.home
     · have c:=c393 (hK.MF I hsub) hN (by omega) ho ⟨o.bd,o.ty,v.home,o.base⟩
       have hK2:=hK.set (x:=⟨o.bd,o.ty,v.home,o.base⟩) ho rfl rfl
       rw [←hcnt] at hK2
       obtain ⟨s2,h2,e⟩:=E_ (i:=i) (t:=t) (v:=v) I hN hM hs hd h0 n (k+1) (by omega) (by omega) _ hK2
       refine ⟨s2,h2,?_⟩
       generalize ij s' j o ⟨o.bd,o.ty,v.home,o.base⟩=s1 at *
       rw [g398L2e] at e ⊢
       simp [sC,tC,zS,qe] at e
       simp at c
       simp (disch:=omega) [-getElem?_pos,g398B2,sC,tC,zS,qe,hx,hk,hj,ho,hh,c,az]
       rw [g398L2e]
       simp [e]
     · have hK2:Kp s s' (oh N (out.take (k+1))):=hK.ik (by omega)
       obtain ⟨s2,h2,e⟩:=E_ (i:=i) (t:=t) (v:=v) I hN hM hs hd h0 n (k+1) (by omega) (by omega) s' hK2
       refine ⟨s2,h2,?_⟩
       rw [g398L2e] at e ⊢
       simp [sC,tC,zS,qe] at e
       simp (disch:=omega) [-getElem?_pos,g398B2,sC,tC,zS,qe,hx,hk,hj,ho,hh,az]
       rw [g398L2e]
       simp [e]
   · have hcnt:oh N (out.take (k+1))=oh N (out.take k):=by
       rw [htk]
       simp [oh,hg]
     have hK2:Kp s s' (oh N (out.take (k+1))):=by rw [hcnt];exact hK
     obtain ⟨s2,h2,e⟩:=E_ (i:=i) (t:=t) (v:=v) I hN hM hs hd h0 n (k+1) (by omega) (by omega) s' hK2
     refine ⟨s2,h2,?_⟩
     have hg':¬x<(s'.sl.length:Int):=by omega
     rw [g398L2e] at e ⊢
     simp [sC,tC,zS,qe] at e
     simp (disch:=omega) [-getElem?_pos,g398B2,sC,tC,zS,qe,hx,hk,hg',az]
     rw [g398L2e]
     simp [e]
end Go.Ab.Lw
namespace Go.Ab.Lw
open Ev
def UR (n M:Nat) (S:List Int) (s s':ef) (e:Int):Prop:=e=0→Inv n M S s'∧(s'=s∨ub s'.sl<ub s.sl)
theorem AB {n M:Nat} {S:List Int} {s s2:ef} (I:Inv n M S s) {i:Nat} {v:Sl} {t:Ty} (hv:s.sl[i]?=some v) (fi:¬qd s.sl (i:Int)) {c:Nat} (hK:Kp s s2 c) (hc:c≤n) {o:Sl} (ho:s2.sl[i]?=some o) (ht:t.Ok) (hwf:t.Kw) (hw:∀w,iH t w→w∈S) (hnr:¬RT s.sl t i) {x:Sl} (hb:x.bd=true) (hx:x.ty=t) :
   Inv n M S (ij s2 i o x)∧ub (ij s2 i o x).sl<ub s.sl:=by
 have hob:o.bd=false:=by
   obtain ⟨o2,h1,h2,_⟩:=hK.IK i o ho
   rw [hv] at h1;cases h1
   rw [h2];exact xG hv fi
 have u2:=xD ho hob hb
 have hu:=hK.ub
 have hp:=I.ME
 have hl:=I.len
 refine ⟨⟨by rw [cJ,List.length_set,hK.len,I.len],?_,?_,?_,?_,?_⟩,?_⟩
 · rw [m9,cJ]
   have:(n+2)*ub s.sl=(n+2)*ub (s2.sl.set i x)+(n+2):=by rw [←hu,←u2,Nat.mul_add,Nat.mul_one]
   have:=hK.tr
   omega
 · intro y hy
   rw [cJ] at hy
   rcases mem_set hy with rfl | hy
   · rw [hx];exact ht
   · obtain ⟨k,hk⟩:=List.mem_iff_getElem?.1 hy
     obtain ⟨p,h1,_,h3⟩:=hK.IK k y hk
     rw [h3];exact I.ok p (bA h1)
 · intro y hy w hw2
   rw [cJ] at hy
   rcases mem_set hy with rfl | hy
   · rw [hx] at hw2;exact hw w hw2
   · obtain ⟨k,hk⟩:=List.mem_iff_getElem?.1 hy
     obtain ⟨p,h1,_,h3⟩:=hK.IK k y hk
     rw [h3] at hw2;exact I.m8 p (bA h1) w hw2
 · rw [cJ]
   refine Ax (I.Mb.of fun a b=>hK.IJ) ?_
   intro w ho2 hr
   rw [hx] at ho2
   refine hnr ⟨w,ho2,?_⟩
   have key:∀{a b:Int},EW s2.sl a b→EW s.sl a b:=by
     intro a b h
     induction h with
     | refl=>exact .refl _
     | step e _ ih=>exact .step (hK.IJ e) ih
   exact key hr
 · intro y hy
   rw [cJ] at hy
   rcases mem_set hy with rfl | hy
   · rw [hx];exact hwf
   · obtain ⟨k,hk⟩:=List.mem_iff_getElem?.1 hy
     obtain ⟨p,h1,_,h3⟩:=hK.IK k y hk
     rw [h3];exact I.wf p (bA h1)
 · rw [cJ];omega
theorem c398 {n M:Nat} {S:List Int} {s:ef} (I:Inv n M S s) (hn:n≤1000000) (hM:M≤100000000) (hf:S.length<1099511627776) (hS0:∀w∈S,0≤w) {i:Nat} (hi:i<n) (fi:¬qd s.sl (i:Int)) {t:Ty} (ht:t.Ok) (hwf:t.Kw) (hw:∀w,iH t w→w∈S) :
   ∃s' e,(aL AP).p 398 [s.pv,vI i,t.pv]=some [s'.pv,vI e]∧UR n M S s s' e:=by
 have hl:=I.len
 have his:i<s.sl.length:=by omega
 obtain ⟨v,hv⟩:=bM his
 obtain ⟨out,k1,hc,hall⟩:=c372 (by omega) I.Mb I.ok I.m8 hf ht hw
 have hsm:=hc.len
 have k2:=c95 hsm (y:=(i:Int))
 obtain ⟨a,b,ar,k3,_⟩:=c194g ht
 have hsl:Sm s.sl:=by unfold Sm;omega
 obtain ⟨u,bb,k4,hu,hun⟩:=c358 hsl I.ok ht
 obtain ⟨r,k5,hr⟩:=c59t hu hun
 have A:=O9 (s:=s) (i:=i) (t:=t) (v:=v) (out:=out) hr _ 0 rfl (by omega)
 have B:=O_ (s:=s) (i:=i) (t:=t) (v:=v) (out:=out) hsm _ 0 rfl (by omega)
 have h0:∀w∈out,0≤w:=fun w hw=>hS0 w (hc.sub w hw)
 obtain ⟨s2,hK,C⟩:=E_ (i:=i) (t:=t) (v:=v) I hn hM hsm hc.nodup h0 _ 0 rfl (by omega) s (by simpa [oh] using Kp.refl)
 have hcn:oh n out≤n:=EZ hc.nodup h0
 have hi2:i<s2.sl.length:=by rw [hK.len];exact his
 obtain ⟨o,ho⟩:=bM hi2
 let x:Sl:=⟨true,t,v.home,v.base⟩
 have k6:=c393 (hK.MF I hcn) hn (by omega) ho x
 by_cases q1:(i:Int)∈out
 · rw [decide_eq_true q1] at k2
   refine ⟨s,12,?_,by intro h;cases h⟩
   rw [ah (af:=g398) rfl rfl (by decide)]
   simp at k1
   simp (disch:=omega) [-getElem?_pos,g398,his,hv,k1,k2]
 · rw [decide_eq_false q1] at k2
   have hnr:¬RT s.sl t i:=fun h=>q1 (hall i h fi)
   have J:=AB I (x:=x) hv fi hK hcn ho ht hwf hw hnr rfl rfl
   generalize ij s2 i o x=s3 at *
   simp [x] at k6
   simp at k1 k3 k4 k5
   rw [g398L0e] at A
   rw [g398L1e] at B
   rw [g398L2e] at C
   simp [sC,tC,zS,qe,Md] at A B C
   by_cases q2:ar=true∧v.base=true
   · obtain ⟨q3,q4⟩:=q2
     refine ⟨s,14,?_,by intro h;cases h⟩
     rw [ah (af:=g398) rfl rfl (by decide)]
     simp (disch:=omega) [-getElem?_pos,g398,his,hv,k1,k2,k3,q3,q4]
   · rcases A with ⟨q,A⟩ | A
     · refine ⟨s,13,?_,by intro h;cases h⟩
       rw [ah (af:=g398) rfl rfl (by decide)]
       cases ar with
       | true=>
         have q4:v.base=false:=by cases e:v.base with | false=>rfl | true=>exact absurd ⟨rfl,e⟩ q2
         simp [q4] at A
         simp (disch:=omega) [-getElem?_pos,g398,his,hv,k1,k2,k3,k4,k5,q4,g398L0e,A]
       | false=>simp (disch:=omega) [-getElem?_pos,g398,his,hv,k1,k2,k3,k4,k5,g398L0e,A]
     · rcases B with ⟨q,B⟩ | B
       · refine ⟨s,13,?_,by intro h;cases h⟩
         rw [ah (af:=g398) rfl rfl (by decide)]
         cases ar with
         | true=>
           have q4:v.base=false:=by cases e:v.base with | false=>rfl | true=>exact absurd ⟨rfl,e⟩ q2
           simp [q4] at A B
           simp (disch:=omega) [-getElem?_pos,g398,his,hv,k1,k2,k3,k4,k5,q4,g398L0e,A,g398L1e,B]
         | false=>simp (disch:=omega) [-getElem?_pos,g398,his,hv,k1,k2,k3,k4,k5,g398L0e,A,g398L1e,B]
       · refine ⟨s3,0,?_,fun _=>⟨J.1,.inr J.2⟩⟩
         rw [ah (af:=g398) rfl rfl (by decide)]
         cases ar with
         | true=>
           have q4:v.base=false:=by cases e:v.base with | false=>rfl | true=>exact absurd ⟨rfl,e⟩ q2
           simp [q4] at A B C k6
           simp (disch:=omega) [-getElem?_pos,g398,his,hv,k1,k2,k3,k4,k5,q4,g398L0e,A,g398L1e,B,g398L2e,C,k6]
         | false=>simp (disch:=omega) [-getElem?_pos,g398,his,hv,k1,k2,k3,k4,k5,g398L0e,A,g398L1e,B,g398L2e,C,k6]
end Go.Ab.Lw
namespace Go.Ab.Lw
open Ev
theorem AD {s:List Sl} {rk:Int→Nat} (hr:∀i v,Edge s i v→rk v<rk i):∀(m:Nat) (t:Ty),iQ s (wk s m t)≠none→∃(i:Nat) (l:List Nat),t.kind=1∧t.id=i∧l.length=m∧(i::l).Pairwise (fun a b:Nat=>rk (b:Int)<rk (a:Int))∧∀a∈i::l,a<s.length
 | 0,t,h=>by
   cases hb:iQ s t with
   | none=>exact absurd hb h
   | some x=>
     obtain ⟨k,i,hi,hx,_⟩:=gM hb
     have hl:i<s.length:=by obtain ⟨h,_⟩:=List.getElem?_eq_some_iff.1 hx;exact h
     exact ⟨i,[],k,hi,rfl,by simp,by simpa using hl⟩
 | m+1,t,h=>by
   cases hb:iQ s t with
   | none=>
     have:wk s (m+1) t=t:=by simp [wk,hb]
     rw [this] at h
     exact absurd hb h
   | some x=>
     obtain ⟨k,i,hi,hx,hbd⟩:=gM hb
     have hl:i<s.length:=by obtain ⟨h,_⟩:=List.getElem?_eq_some_iff.1 hx;exact h
     have e:wk s (m+1) t=wk s m x.ty:=by simp [wk,hb]
     rw [e] at h
     obtain ⟨j,l,k2,hj,hn,hp,ha⟩:=AD hr m x.ty h
     have ed:Edge s (i:Int) (j:Int):=⟨i,x,rfl,hx,hbd,by rw [←hj];exact .var k2⟩
     have hlt:=hr _ _ ed
     refine ⟨i,j::l,k,hi,by simp [hn],?_,?_⟩
     · rw [List.pairwise_cons]
       refine ⟨?_,hp⟩
       intro b hb
       simp only [List.mem_cons] at hb
       rcases hb with rfl | hb
       · exact hlt
       · have:=(List.pairwise_cons.1 hp).1 b hb;omega
     · intro a hm
       simp only [List.mem_cons] at hm
       rcases hm with rfl | hm
       · exact hl
       · exact ha a (by simpa using hm)
theorem tT {s:List Sl} (h:I7 s) {t:Ty}:iQ s (lp s t)=none:=by
 obtain ⟨rk,hr⟩:=h
 cases hb:iQ s (lp s t) with
 | none=>rfl
 | some x=>
   exfalso
   obtain ⟨i,l,_,_,hl,hp,ha⟩:=AD hr (s.length+1) t (by unfold lp at hb;rw [hb];simp)
   have hd:(i::l).Nodup:=hp.imp (fun {a b} h e=>by rw [e] at h;omega)
   have:=gS hd (S:=List.range s.length) (fun a h=>by simpa using ha a h)
   simp at this
   omega
theorem lq {s:List Sl} {S:List Int} (hs:∀x∈s,∀w,iH x.ty w→w∈S):∀{m:Nat} {t:Ty},(∀w,iH t w→w∈S)→∀w,iH (wk s m t) w→w∈S
 | 0,t,h=>h
 | m+1,t,h=>by
   unfold wk
   split
   · rename_i x hx
     obtain ⟨_,i,_,hi,_⟩:=gM hx
     exact lq hs (hs x (bA hi))
   · exact h
theorem Su {n M:Nat} {S:List Int} {s:ef} {x y:Ty} (hx:x.Ok) (hxy:x.args.length=y.args.length)
   (H:∀s',Inv n M S s'→(s'=s∨ub s'.sl<ub s.sl)→∀(i:Nat) a b,x.args[i]?=some a→y.args[i]?=some b→∃s2 e,(aL AP).p 391 [s'.pv,a.pv,b.pv]=some [s2.pv,vI e]∧UR n M S s' s2 e) :
   ∀(m i:Nat),x.args.length-i=m→i≤x.args.length→∀(s':ef) (e:Int),UR n M S s s' e→∃(s2:ef) (e2:Int) (i2:Nat),
   cl AP g391L0 ⟨[(3,.aB 3 0),(6,.aB 6 0),(8,.aB 8 0),(9,.aB 9 0),(10,.pv (vI e)),(11,.pv (vI i))],[(3,sC s'),(6,zS),(8,tC x),(9,tC y)],[],[0,0]⟩ =
     some (.exit 1,⟨[(3,.aB 3 0),(6,.aB 6 0),(8,.aB 8 0),(9,.aB 9 0),(10,.pv (vI e2)),(11,.pv (vI i2)),(109,.pv (.bool false))],[(3,sC s2),(6,zS),(8,tC x),(9,tC y)],[],[0,0]⟩)∧UR n M S s s2 e2
 | 0,i,hm,hi,s',e,h=>by
   have:i=x.args.length:=by omega
   subst this
   refine ⟨s',e,x.args.length,?_,h⟩
   rw [g391L0e]
   simp [g391B0,sC,tC,zS]
 | m+1,i,hm,hi,s',e,h=>by
   have hi:i<x.args.length:=by omega
   obtain ⟨a,ha⟩:=bM hi
   have hiy:i<y.args.length:=by omega
   obtain ⟨b,hb⟩:=bM hiy
   have hsm:=hx.sm
   unfold Sm at hsm
   by_cases he:e=0
   · obtain ⟨I,hu⟩:=h he
     obtain ⟨s1,e1,c,h1⟩:=H s' I hu i a b ha hb
     have h2:UR n M S s s1 e1:=fun q=>by
       obtain ⟨J,ju⟩:=h1 q
       refine ⟨J,?_⟩
       rcases ju with rfl | ju
       · exact hu
       · rcases hu with rfl | hu
         · exact .inr ju
         · exact .inr (by omega)
     obtain ⟨s2,e2,i2,eq,h3⟩:=Su hx hxy H m (i+1) (by omega) (by omega) s1 e1 h2
     refine ⟨s2,e2,i2,?_,h3⟩
     rw [g391L0e] at eq ⊢
     simp [sC,tC,zS] at eq
     simp at c
     simp (disch:=omega) [-getElem?_pos,g391B0,sC,tC,zS,hi,hiy,ha,hb,he,c,az]
     rw [g391L0e]
     simp [eq]
   · refine ⟨s',e,i,?_,h⟩
     rw [g391L0e]
     simp (disch:=omega) [-getElem?_pos,g391B0,sC,tC,zS,hi,he]
end Go.Ab.Lw
namespace Go.Ab.Lw
open Ev
theorem oi {s:List Sl} {t:Ty} (h:nu s t=true):t.kind=1∧∃i:Nat,t.id=i∧i<s.length:=by
 simp [nu] at h
 exact ⟨h.1,t.id.toNat,by omega,by omega⟩
theorem pn {s:List Sl} (hs:∀x∈s,x.ty.Kw):∀{m:Nat} {t:Ty},t.Kw→(wk s m t).Kw
 | 0,t,h=>h
 | m+1,t,h=>by
   unfold wk
   split
   · rename_i x hx
     obtain ⟨_,i,_,hi,_⟩:=gM hx
     exact pn hs (hs x (bA hi))
   · exact h
theorem Sv {n M:Nat} {S:List Int} {s:ef} (I:Inv n M S s) (hn:n≤1000000) (hM:M≤100000000) (hf:S.length<1099511627776) (hS0:∀w∈S,0≤w) {a b:Ty} (ha:a.Ok) (hb:b.Ok) (wa:a.Kw) (wb:b.Kw) (oa:∀w,iH a w→w∈S) (ob:∀w,iH b w→w∈S) {r1:Nat} (k1:(aL AP).p 355 [s.pv,a.pv,vI (200:Nat)]=some [vI r1])
   (H:r1≤200→∀s',Inv n M S s'→(s'=s∨ub s'.sl<ub s.sl)→∀(i:Nat) x y,(lp s.sl a).args[i]?=some x→(lp s.sl b).args[i]?=some y→∃s2 e,(aL AP).p 391 [s'.pv,x.pv,y.pv]=some [s2.pv,vI e]∧UR n M S s' s2 e) :
   ∃s' e,(aL AP).p 391 [s.pv,a.pv,b.pv]=some [s'.pv,vI e]∧UR n M S s s' e:=by
 have hl:=I.len
 have hsm:Sm s.sl:=by unfold Sm;omega
 obtain ⟨r2,k2,_,_,_⟩:=c355 hsm I.ok (m:=200) (by omega) hb
 have k3:=c386 hsm (t:=a)
 have k4:=c386 hsm (t:=b)
 have xf:=tT I.Mb (t:=a)
 have yf:=tT I.Mb (t:=b)
 have xO:(lp s.sl a).Ok:=mu I.ok ha
 have yO:(lp s.sl b).Ok:=mu I.ok hb
 have xo:∀w,iH (lp s.sl a) w→w∈S:=lq I.m8 oa
 have yo:∀w,iH (lp s.sl b) w→w∈S:=lq I.m8 ob
 change (aL AP).p 386 [s.pv,a.pv]=some [(lp s.sl a).pv] at k3
 change (aL AP).p 386 [s.pv,b.pv]=some [(lp s.sl b).pv] at k4
 have xw:(lp s.sl a).Kw:=pn I.wf wa
 have yw:(lp s.sl b).Kw:=pn I.wf wb
 generalize lp s.sl a=x at *
 generalize lp s.sl b=y at *
 have k5:=c396 (s:=s) (t:=x)
 have k6:=c396 (s:=s) (t:=y)
 simp at k1 k2 k3 k4
 by_cases h1:200<r1
 · refine ⟨s,15,?_,by intro h;cases h⟩
   have h1':(200:Int)<r1:=by omega
   rw [ah (af:=g391) rfl rfl (by decide)]
   simp [g391,k1,h1']
 · have h1':¬(200:Int)<r1:=by omega
   have H:=H (by omega)
   by_cases h2:200<r2
   · refine ⟨s,15,?_,by intro h;cases h⟩
     have h2':(200:Int)<r2:=by omega
     rw [ah (af:=g391) rfl rfl (by decide)]
     simp [g391,k1,k2,h1',h2']
   · have h2':¬(200:Int)<r2:=by omega
     cases sx:nu s.sl x with
     | true=>
       obtain ⟨xk,i,xi,hi⟩:=oi sx
       have fi:¬qd s.sl (i:Int):=by rw [←xi];exact jD xk xf
       rw [sx] at k5
       cases sy:nu s.sl y with
       | true=>
         obtain ⟨yk,j,yj,hj⟩:=oi sy
         have fj:¬qd s.sl (j:Int):=by rw [←yj];exact jD yk yf
         rw [sy] at k6
         obtain ⟨s',c,J⟩:=c397 I hn hM xi yj (by omega) (by omega) fi fj (by rw [←xi];exact xo _ (.var xk)) (by rw [←yj];exact yo _ (.var yk))
         refine ⟨s',0,?_,fun _=>J⟩
         simp at k5 k6 c
         rw [ah (af:=g391) rfl rfl (by decide)]
         simp [g391,k1,k2,k3,k4,k5,k6,h1',h2',c]
       | false=>
         rw [sy] at k6
         obtain ⟨s',e,c,J⟩:=c398 I hn hM hf hS0 (by omega) fi yO yw yo
         refine ⟨s',e,?_,J⟩
         simp [xi] at k3 k5 k6 c
         rw [ah (af:=g391) rfl rfl (by decide)]
         simp [g391,k1,k2,k3,k4,k5,k6,h1',h2',xi,c]
     | false=>
       rw [sx] at k5
       cases sy:nu s.sl y with
       | true=>
         obtain ⟨yk,j,yj,hj⟩:=oi sy
         have fj:¬qd s.sl (j:Int):=by rw [←yj];exact jD yk yf
         rw [sy] at k6
         obtain ⟨s',e,c,J⟩:=c398 I hn hM hf hS0 (by omega) fj xO xw xo
         refine ⟨s',e,?_,J⟩
         simp [yj] at k4 k5 k6 c
         rw [ah (af:=g391) rfl rfl (by decide)]
         simp [g391,k1,k2,k3,k4,k5,k6,h1',h2',yj,c]
       | false=>
         rw [sy] at k6
         simp at k5 k6
         by_cases q:x.kind=y.kind∧x.name=y.name∧x.id=y.id∧x.home=y.home∧x.args.length=y.args.length
         · obtain ⟨q1,q2,q3,q4,q5⟩:=q
           obtain ⟨s2,e2,i2,eq,U⟩:=Su xO q5 H _ 0 rfl (by omega) s 0 (fun _=>⟨I,.inl rfl⟩)
           refine ⟨s2,e2,?_,U⟩
           rw [g391L0e] at eq
           simp [sC,tC,zS] at eq
           rw [ah (af:=g391) rfl rfl (by decide)]
           simp [g391,k1,k2,k3,k4,k5,k6,h1',h2']
           simp only [q1,q2,q3,q4,q5] at *
           simp [g391L0e,eq]
         · refine ⟨s,11,?_,by intro h;cases h⟩
           rw [ah (af:=g391) rfl rfl (by decide)]
           by_cases q1:x.kind=y.kind
           · have p1:=eq_true q1
             by_cases q2:x.name=y.name
             · have p2:=eq_true q2
               by_cases q3:x.id=y.id
               · have p3:=eq_true q3
                 by_cases q4:x.home=y.home
                 · have p4:=eq_true q4
                   have q5:¬x.args.length=y.args.length:=fun e=>q ⟨q1,q2,q3,q4,e⟩
                   have q6:¬(x.args.length:Int)=y.args.length:=by omega
                   clear q q1 q2 q3 q4
                   simp [g391,k1,k2,k3,k4,k5,k6,h1',h2',p1,p2,p3,p4,q5,q6]
                 · clear q q1 q2 q3
                   simp [g391,k1,k2,k3,k4,k5,k6,h1',h2',p1,p2,p3,q4]
               · clear q q1 q2
                 simp [g391,k1,k2,k3,k4,k5,k6,h1',h2',p1,p2,q3]
             · clear q q1
               simp [g391,k1,k2,k3,k4,k5,k6,h1',h2',p1,q2]
           · simp [g391,k1,k2,k3,k4,k5,k6,h1',h2',q1]
theorem rL {S:List Int} {t:Ty} (hw:t.Kw) (h:∀w,iH t w→w∈S):∀z∈t.args,∀w,iH z w→w∈S:=by
 intro z hz w ho
 by_cases k:t.kind=1
 · rw [hw.var k] at hz;cases hz
 · exact h w (.arg k hz ho)
def Qy (n M:Nat) (S:List Int) (s:ef):Prop:=∀a b:Ty,a.Ok→b.Ok→a.Kw→b.Kw→(∀w,iH a w→w∈S)→(∀w,iH b w→w∈S)→∃s2 e,(aL AP).p 391 [s.pv,a.pv,b.pv]=some [s2.pv,vI e]∧UR n M S s s2 e
theorem c391r {n M:Nat} {S:List Int} {s:ef} (I:Inv n M S s) (hn:n≤1000000) (hM:M≤100000000) (hf:S.length<1099511627776) (hS0:∀w∈S,0≤w)
   (IH:∀s':ef,ub s'.sl<ub s.sl→Inv n M S s'→Qy n M S s') (r:Nat) :
   ∀a b:Ty,Tr s.sl a r→a.Ok→b.Ok→a.Kw→b.Kw→(∀w,iH a w→w∈S)→(∀w,iH b w→w∈S)→∃s2 e,(aL AP).p 391 [s.pv,a.pv,b.pv]=some [s2.pv,vI e]∧UR n M S s s2 e:=by
 induction r using Nat.strongRecOn with
 | ind r ih=>
   intro a b ht ha hb wa wb oa ob
   have hl:=I.len
   have hsm:Sm s.sl:=by unfold Sm;omega
   obtain ⟨r1,k1,_,_,_⟩:=c355 hsm I.ok (m:=200) (by omega) ha
   obtain ⟨ns,hT,hr⟩:=ht.inv
   have xO:(lp s.sl a).Ok:=mu I.ok ha
   have yO:(lp s.sl b).Ok:=mu I.ok hb
   have xw:(lp s.sl a).Kw:=pn I.wf wa
   have yw:(lp s.sl b).Kw:=pn I.wf wb
   have xo:=rL xw (lq I.m8 oa:∀w,iH (lp s.sl a) w→w∈S)
   have yo:=rL yw (lq I.m8 ob:∀w,iH (lp s.sl b) w→w∈S)
   refine Sv I hn hM hf hS0 ha hb wa wb oa ob k1 ?_
   intro _ s' I' hu i x y hx hy
   have hi:i<(lp s.sl a).args.length:=by obtain ⟨h,_⟩:=List.getElem?_eq_some_iff.1 hx;exact h
   have mx:=bA hx
   have my:=bA hy
   rcases hu with rfl | hu
   · obtain ⟨m,hm⟩:=bM (l:=ns) (i:=i) (by rw [hT.1];exact hi)
     have:=xC hm
     exact ih m (by omega) x y (hT.2 i x m hx hm) (xO.iv x mx) (yO.iv y my) (xw.iv x mx) (yw.iv y my) (xo x mx) (yo y my)
   · exact IH s' hu I' x y (xO.iv x mx) (yO.iv y my) (xw.iv x mx) (yw.iv y my) (xo x mx) (yo y my)
theorem c391 {n M:Nat} {S:List Int} (hn:n≤1000000) (hM:M≤100000000) (hf:S.length<1099511627776) (hS0:∀w∈S,0≤w) (u:Nat):∀s:ef,ub s.sl=u→Inv n M S s→Qy n M S s:=by
 induction u using Nat.strongRecOn with
 | ind u IH=>
   intro s hu I a b ha hb wa wb oa ob
   have hl:=I.len
   have hsm:Sm s.sl:=by unfold Sm;omega
   have IH':∀s':ef,ub s'.sl<ub s.sl→Inv n M S s'→Qy n M S s':=fun s' h I'=>IH _ (by omega) s' rfl I'
   obtain ⟨r1,k1,_,_,ht⟩:=c355 hsm I.ok (m:=200) (by omega) ha
   have xO:(lp s.sl a).Ok:=mu I.ok ha
   have yO:(lp s.sl b).Ok:=mu I.ok hb
   have xw:(lp s.sl a).Kw:=pn I.wf wa
   have yw:(lp s.sl b).Kw:=pn I.wf wb
   have xo:=rL xw (lq I.m8 oa:∀w,iH (lp s.sl a) w→w∈S)
   have yo:=rL yw (lq I.m8 ob:∀w,iH (lp s.sl b) w→w∈S)
   refine Sv I hn hM hf hS0 ha hb wa wb oa ob k1 ?_
   intro h200 s' I' hu i x y hx hy
   have hi:i<(lp s.sl a).args.length:=by obtain ⟨h,_⟩:=List.getElem?_eq_some_iff.1 hx;exact h
   have mx:=bA hx
   have my:=bA hy
   rcases hu with rfl | hu
   · obtain ⟨ns,hT,hr⟩:=(ht h200).inv
     obtain ⟨m,hm⟩:=bM (l:=ns) (i:=i) (by rw [hT.1];exact hi)
     exact c391r I' hn hM hf hS0 IH' m x y (hT.2 i x m hx hm) (xO.iv x mx) (yO.iv y my) (xw.iv x mx) (yw.iv y my) (xo x mx) (yo y my)
   · exact IH' s' hu I' x y (xO.iv x mx) (yO.iv y my) (xw.iv x mx) (yw.iv y my) (xo x mx) (yo y my)
end Go.Ab.Lw
namespace Go.Ab.Lw
open Ev
structure Fit (S:List Int) (t:Ty):Prop where
 ok:t.Ok
 wf:t.Kw
 m8:∀w,iH t w→w∈S
structure T4 (n M:Nat) (S:List Int):Prop where
 n:n≤1000000
 m:M≤100000000
 IB:S.length<1099511627776
 nn:∀w∈S,0≤w
theorem c385 {n M:Nat} {S:List Int} (N:T4 n M S) {s:ef} (I:Inv n M S s) {a b:Ty} (fa:Fit S a) (fb:Fit S b):∃s' e,(aL AP).p 385 [s.pv,a.pv,b.pv]=some [s'.pv,vI e]∧Inv n M S s':=by
 obtain ⟨s',e,c,U⟩:=c391 N.n N.m N.IB N.nn _ s rfl I a b fa.ok fb.ok fa.wf fb.wf fa.m8 fb.m8
 simp at c
 by_cases he:e=0
 · refine ⟨s',0,?_,(U he).1⟩
   subst he
   rw [ah (af:=g385) rfl rfl (by decide)]
   simp [g385,c]
 · refine ⟨s,e,?_,I⟩
   rw [ah (af:=g385) rfl rfl (by decide)]
   simp [g385,c,he]
end Go.Ab.Lw
namespace Go.Ab.Lw
open Ev
theorem Me {n M:Nat} {S:List Int} {s:ef} (I:Inv n M S s) {i:Nat} {o x:Sl} (ho:s.sl[i]?=some o) (hb:x.bd=o.bd) (ht:x.ty=o.ty):Inv n (M+1) S (ij s i o x) where
 len:=by rw [cJ,List.length_set,I.len]
 ME:=by rw [m9,cJ,rK ho hb];have:=I.ME;omega
 ok:=by
   intro y hy
   rw [cJ] at hy
   rcases mem_set hy with rfl | hy
   · rw [ht];exact I.ok o (bA ho)
   · exact I.ok y hy
 m8:=by
   intro y hy
   rw [cJ] at hy
   rcases mem_set hy with rfl | hy
   · rw [ht];exact I.m8 o (bA ho)
   · exact I.m8 y hy
 Mb:=by rw [cJ];exact Aw I.Mb ho hb ht
 wf:=by
   intro y hy
   rw [cJ] at hy
   rcases mem_set hy with rfl | hy
   · rw [ht];exact I.wf o (bA ho)
   · exact I.wf y hy
theorem Inv.ik {n M M':Nat} {S S':List Int} {s:ef} (I:Inv n M S s) (h:M≤M') (hS:∀w∈S,w∈S'):Inv n M' S' s:=⟨I.len,by have:=I.ME;omega,I.ok,fun x hx w ho=>hS w (I.m8 x hx w ho),I.Mb,I.wf⟩
theorem c394 {n M:Nat} {S:List Int} (N:T4 n M S) (hS:∀w∈S,w<n) {s:ef} (I:Inv n M S s) {t:Ty} (ft:Fit S t):∃s',(aL AP).p 394 [s.pv,t.pv]=some [s'.pv]∧Inv n (M+1) S s':=by
 have hl:=I.len
 have hn:=N.n
 have hM:=N.m
 have hsm:Sm s.sl:=by unfold Sm;omega
 have k3:=c386 hsm (t:=t)
 have xo:∀w,iH (wk s.sl (s.sl.length+1) t) w→w∈S:=lq I.m8 ft.m8
 generalize wk s.sl (s.sl.length+1) t=x at *
 by_cases k:x.kind=1
 · have ho:=xo _ (.var k)
   have h0:=N.nn _ ho
   have h1:=hS _ ho
   obtain ⟨i,hi⟩:∃i:Nat,x.id=i:=⟨x.id.toNat,by omega⟩
   have hil:i<s.sl.length:=by omega
   obtain ⟨o,hoo⟩:=bM hil
   have c:=c393 I.MF hn (by omega) hoo ⟨o.bd,o.ty,o.home,true⟩
   refine ⟨_,?_,Me I hoo (x:=⟨o.bd,o.ty,o.home,true⟩) rfl rfl⟩
   generalize ij s i o ⟨o.bd,o.ty,o.home,true⟩=s1 at *
   simp [k,hi] at k3
   simp at c
   rw [ah (af:=g394) rfl rfl (by decide)]
   simp (disch:=omega) [-getElem?_pos,g394,k3,hil,hoo,c]
 · refine ⟨s,?_,I.ik (by omega) (fun _ h=>h)⟩
   simp at k3
   rw [ah (af:=g394) rfl rfl (by decide)]
   simp [g394,k3,k]
def eV (n:Nat):List Int:=(List.range n).map fun k:Nat=>(k:Int)
theorem eZ {n:Nat} {w:Int}:w∈eV n↔0≤w∧w<n:=by
 simp only [eV,List.mem_map,List.mem_range]
 constructor
 · rintro ⟨k,h,rfl⟩;omega
 · intro h;exact ⟨w.toNat,by omega,by omega⟩
theorem Qz {n M:Nat} (hn:n≤1000000) (hM:M≤100000000):T4 n M (eV n):=⟨hn,hM,by simp [eV];omega,fun w h=>(eZ.1 h).1⟩
theorem vH {n M:Nat} {s:ef} (I:Inv n M (eV n) s) (home:Int) (b:Bool) {M':Nat} (hM:M+ub s.sl+n+4≤M'):Inv (n+1) M' (eV (n+1)) (dN s home b) where
 len:=by simp [dN,I.len]
 ME:=by
   have:=I.ME
   have hu:ub (dN s home b).sl=ub s.sl+1:=by simp [dN,ub,List.countP_append]
   have ht:(dN s home b).tr.length=s.tr.length+1:=by simp [dN]
   rw [hu,ht]
   have:(n+1+2)*(ub s.sl+1)=(n+2)*ub s.sl+ub s.sl+n+3:=by rw [Nat.mul_add,Nat.add_right_comm n 1 2,Nat.add_mul (n+2) 1];omega
   omega
 ok:=by
   intro x hx
   simp [dN] at hx
   rcases hx with hx | rfl
   · exact I.ok x hx
   · exact df rfl
 m8:=by
   intro x hx w ho
   simp [dN] at hx
   rcases hx with hx | rfl
   · have:=eZ.1 (I.m8 x hx w ho);exact eZ.2 (by omega)
   · cases ho with
     | var q=>simp [bO] at q
     | arg _ ha _=>simp [bO] at ha
 Mb:=L8 I.Mb rfl
 wf:=by
   intro x hx
   simp [dN] at hx
   rcases hx with hx | rfl
   · exact I.wf x hx
   · exact ⟨by simp [bO],by simp [bO],by simp [bO]⟩
end Go.Ab.Lw
namespace Go.Ab.Lw
open Ev
mutual
def Ty.mB (l:List cm):Ty→Ty
 | ⟨k,n,i,h,as⟩=>if k=5∧0≤pg l n then cV (pg l n) else ⟨k,n,i,h,Ty.Mf l as⟩
def Ty.Mf (l:List cm):List Ty→List Ty
 | []=>[]
 | a::r=>a.mB l::Ty.Mf l r
end
theorem Ty.AE (l:List cm):∀as:List Ty,Ty.Mf l as=as.map (Ty.mB l)
 | []=>by simp [Ty.Mf]
 | a::r=>by simp [Ty.Mf,Ty.AE l r]
theorem Ty.xH (l:List cm) (t:Ty):t.mB l=if t.kind=5∧0≤pg l t.name then cV (pg l t.name) else ⟨t.kind,t.name,t.id,t.home,t.args.map (Ty.mB l)⟩:=by
 cases t;simp only [Ty.mB,Ty.AE]
theorem Sw {l:List cm} {t:Ty} (hS:Sm t.args) (h:∀x∈t.args,(aL AP).p 198 [x.pv,.aE (l.map .str)]=some [(x.mB l).pv]):∀(n i:Nat),t.args.length-i=n→i≤t.args.length→∀acc:List Ty,acc=(t.args.take i).map (Ty.mB l) →
   cl AP g198L0 ⟨[(1,.pv (.aE (l.map .str))),(2,.aB 2 0),(4,.aB 4 0),(6,.aB 6 0),(7,.pv (vI i))],
     [(2,Ql t),(4,[.pv (vI 0),.pv (.str []),.pv (vI 0),.pv (vI 0),.own [] 0]),(6,[.pv (vI t.kind),.pv (.str t.name),.pv (vI t.id),.pv (vI t.home),.own (acc.map Ty.pv) 1])],[],[0,acc.length]⟩ =
     some (.exit 0,⟨[(1,.pv (.aE (l.map .str))),(2,.aB 2 0),(4,.aB 4 0),(6,.aB 6 0),(7,.pv (vI t.args.length)),(26,.pv (.bool false))],
     [(2,Ql t),(4,[.pv (vI 0),.pv (.str []),.pv (vI 0),.pv (vI 0),.own [] 0]),(6,[.pv (vI t.kind),.pv (.str t.name),.pv (vI t.id),.pv (vI t.home),.own ((t.args.map (Ty.mB l)).map Ty.pv) 1])],[],[0,t.args.length]⟩)
 | 0,i,hn,hi,acc,ha=>by
   have:i=t.args.length:=by omega
   subst this
   subst ha
   rw [g198L0e]
   simp [g198B0]
 | n+1,i,hn,hi,acc,ha=>by
   have hi:i<t.args.length:=by omega
   obtain ⟨x,hx⟩:=bM hi
   unfold Sm at hS
   have hb:(acc.length+1)*64≤140737488355328:=by subst ha;simp;omega
   have hc:=h x (bA hx)
   have ih:=Sw hS h n (i+1) (by omega) (by omega) (acc++[x.mB l]) (by rw [List.take_add_one,hx,ha];simp)
   rw [g198L0e] at ih ⊢
   simp at ih hc
   simp (disch:=omega) [-getElem?_pos,g198B0,hx,hi,hc,hb,az]
   rw [g198L0e]
   simp [ih]
theorem c198 {l:List cm} (hl:Sm l) {t:Ty} (hO:t.Ok) (hC:t.Cw):(aL AP).p 198 [t.pv,.aE (l.map .str)]=some [(t.mB l).pv]:=by
 revert hO hC
 refine Ty.gg (p:=fun t=>t.Ok→t.Cw→(aL AP).p 198 [t.pv,.aE (l.map .str)]=some [(t.mB l).pv]) ?_ t
 intro t ih hO hC
 have k1:=c216 hl (y:=t.name)
 have k2:=c72 (n:=pg l t.name)
 have h:=Sw hO.sm (fun x hx=>ih x hx (hO.iv x hx) (hC.iv x hx)) t.args.length 0 (by omega) (by omega) [] (by simp)
 rw [ah (af:=g198) rfl rfl (by decide),Ty.xH]
 rw [g198L0e] at h
 simp at k2 h
 by_cases e1:t.kind=5
 · have ea:=hC.bare (by rw [e1];decide)
   by_cases e2:0≤pg l t.name
   · simp [g198,k1,e1,e2,k2,cV]
   · simp [g198,k1,e1,e2,ea]
 · simp [g198,e1,g198L0e,h]
end Go.Ab.Lw
namespace Go.Ab.Lw
open Ev
def fE (out:List cm) (x:cm):List cm:=if x∈out then out else out++[x]
structure jW (S out:List cm):Prop where
 nodup:out.Nodup
 sub:∀x∈out,x∈S
 IB:S.length<1099511627776
theorem jW.len {S out:List cm} (h:jW S out):Sm out:=by
 have:=gS h.nodup h.sub
 have:=h.IB
 unfold Sm;omega
theorem jW.put {S out:List cm} (h:jW S out) {x:cm} (hx:x∈S):jW S (fE out x):=by
 unfold fE
 split
 · exact h
 · rename_i e
   refine ⟨?_,?_,h.IB⟩
   · rw [List.nodup_append]
     refine ⟨h.nodup,by simp,?_⟩
     intro a ha b hb
     simp at hb
     subst hb
     intro e';subst e';exact e ha
   · intro y hy
     simp at hy
     rcases hy with hy | rfl
     · exact h.sub y hy
     · exact hx
theorem jW.fold {S:List cm}:∀{l:List cm} {out:List cm},jW S out→(∀x∈l,x∈S)→jW S (l.foldl fE out)
 | [],_,h,_=>h
 | x::r,out,h,hx=>by
   simp only [List.foldl_cons]
   exact jW.fold (h.put (hx x (by simp))) (fun y hy=>hx y (by simp [hy]))
theorem vJ:∀{l:List cm} {out:List cm} {x:cm},x∈out→x∈l.foldl fE out
 | [],_,_,h=>h
 | y::r,out,x,h=>by
   simp only [List.foldl_cons]
   apply vJ
   unfold fE
   split
   · exact h
   · simp [h]
mutual
def Ty.gH:Ty→List cm
 | ⟨k,n,_,_,as⟩=>(if k=5 then [n] else [])++Ty.AF as
def Ty.AF:List Ty→List cm
 | []=>[]
 | a::r=>a.gH++Ty.AF r
end
theorem Ty.vK:∀l:List Ty,Ty.AF l=l.flatMap Ty.gH
 | []=>by simp [Ty.AF]
 | a::r=>by simp [Ty.AF,Ty.vK r]
theorem Ty.Fa (t:Ty):t.gH=(if t.kind=5 then [t.name] else [])++t.args.flatMap Ty.gH:=by
 cases t;simp only [Ty.gH,Ty.vK]
def eg (t:Ty):List cm:=t.gH.foldl fE []
theorem Sx {S:List cm} {t:Ty} (hS:Sm t.args) (h:∀x∈t.args,∀out,jW S out→(aL AP).i 222 [.own (out.map .str) 0,.pv x.pv] [] [out.length]=some ([.own ((x.gH.foldl fE out).map .str) 0],[],[(x.gH.foldl fE out).length]))
   (hk:∀y∈t.args.flatMap Ty.gH,y∈S):∀(n i:Nat),t.args.length-i=n→i≤t.args.length→∀out,jW S out →
   cl AP g222L0 ⟨[(0,.own (out.map .str) 0),(3,.aB 3 0),(5,.pv (vI i))],[(3,Ql t)],[],[out.length]⟩ =
     some (.exit 0,⟨[(0,.own ((((t.args.drop i).flatMap Ty.gH).foldl fE out).map .str) 0),(3,.aB 3 0),(5,.pv (vI t.args.length)),(25,.pv (.bool false))],[(3,Ql t)],[],[(((t.args.drop i).flatMap Ty.gH).foldl fE out).length]⟩)
 | 0,i,hn,hi,out,hc=>by
   have:i=t.args.length:=by omega
   subst this
   rw [g222L0e]
   simp [g222B0]
 | n+1,i,hn,hi,out,hc=>by
   have hi:i<t.args.length:=by omega
   obtain ⟨x,hx⟩:=bM hi
   unfold Sm at hS
   have hkx:∀y∈x.gH,y∈S:=fun y hy=>hk y (by simp only [List.mem_flatMap];exact ⟨x,bA hx,hy⟩)
   have k:=h x (bA hx) out hc
   have ih:=Sx (t:=t) (by unfold Sm;exact hS) h hk n (i+1) (by omega) (by omega) _ (hc.fold hkx)
   rw [g222L0e] at ih ⊢
   rw [cX hx]
   simp at k ih
   simp (disch:=omega) [-getElem?_pos,g222B0,hx,hi,k,az]
   rw [g222L0e]
   simp [ih]
theorem c222 {S:List cm} {t:Ty} (hO:t.Ok) (hk:∀y∈t.gH,y∈S):∀out,jW S out →
   (aL AP).i 222 [.own (out.map .str) 0,.pv t.pv] [] [out.length]=some ([.own ((t.gH.foldl fE out).map .str) 0],[],[(t.gH.foldl fE out).length]):=by
 revert hO hk
 refine Ty.gg (p:=fun t=>t.Ok→(∀y∈t.gH,y∈S)→∀out,jW S out →
   (aL AP).i 222 [.own (out.map .str) 0,.pv t.pv] [] [out.length]=some ([.own ((t.gH.foldl fE out).map .str) 0],[],[(t.gH.foldl fE out).length])) ?_ t
 intro t ih hO hk out hc
 rw [Ty.Fa] at hk ⊢
 have hkb:∀y∈(if t.kind=5 then [t.name] else []),y∈S:=fun y hy=>hk y (List.mem_append_left _ hy)
 have hka:∀y∈t.args.flatMap Ty.gH,y∈S:=fun y hy=>hk y (List.mem_append_right _ hy)
 have h:=Sx (S:=S) hO.sm (fun x hx out hc=>ih x hx (hO.iv x hx) (fun y hy=>hka y (by simp only [List.mem_flatMap];exact ⟨x,hx,hy⟩)) out hc) hka _ 0 rfl (by omega) _ (hc.fold hkb)
 have hl:=hc.len
 have k:=c216 hl (y:=t.name)
 have k2:=LS (s:=out) (y:=t.name)
 unfold Sm at hl
 have hb:(out.length+1)*16≤140737488355328:=by omega
 have hh:bF 1 (out.map PV.str)=true:=by cases out<;>simp
 rw [aP (af:=g222) rfl (by simp [g222]),List.foldl_append]
 rw [g222L0e] at h
 by_cases e1:t.kind=5
 · by_cases e2:t.name∈out
   · simp [e2] at k2
     have k3:¬pg out t.name<0:=by omega
     simp [e1,fE,e2] at h
     simp [g222,e1,k,k3,g222L0e,h,fE,e2]
   · simp [e2] at k2
     simp [e1,fE,e2] at h
     simp [g222,e1,k,k2,g222L0e,h,fE,e2,hb,hh]
 · simp [e1] at h
   simp [g222,e1,g222L0e,h]
theorem c196 {S:List cm} (hS:S.length<1099511627776) {t:Ty} (hO:t.Ok) (hk:∀y∈t.gH,y∈S):(aL AP).p 196 [t.pv]=some [.aE ((eg t).map .str)]:=by
 have k:=c222 hO hk [] ⟨by simp,by simp,hS⟩
 rw [ah (af:=g196) rfl rfl (by decide)]
 unfold eg
 simp at k
 simp [g196,k]
end Go.Ab.Lw
namespace Go.Ab.Lw
open Ev
def UE (pos:Int) (name:cm) (ps:List cm) (cs:List nc):List AV:=[.pv (vI pos),.pv (.str name),.own (ps.map .str) 1,.own (cs.map nc.pv) 2]
@[simp] theorem T5 (pos:Int) (name:cm) (ps:List cm) (cs:List nc):UE pos name ps cs=[.pv (vI pos),.pv (.str name),.own (ps.map .str) 1,.own (cs.map nc.pv) 2]:=rfl
end Go.Ab.Lw
namespace Go.Ab.Lw
open Ev
structure Small (ds:List Dt):Prop where
 num:Sm ds
 par:∀d∈ds,Sm d.params
 gU:∀d∈ds,Sm d.cons
 UF:Sm (ds.flatMap Dt.cons)
 Uq:∀d∈ds,∀c∈d.cons,Sm c.fields∧(∀x∈c.fields,x.Ok)∧∀x∈c.fields,x.Cw
theorem Oe {l:List Dt} {b:Nat} (h:∀d∈l,d.cons.length≤b):(l.flatMap Dt.cons).length≤l.length*b:=by
 induction l with
 | nil=>simp
 | cons a r ih=>
   have h1:=h a (by simp)
   have h2:=ih (fun x hx=>h x (by simp [hx]))
   simp only [List.flatMap_cons,List.length_append,List.length_cons,Nat.add_mul]
   omega
end Go.Ab.Lw
namespace Go.Ab.Lw
open Ev
def AG (a b:Ty):Ty:=⟨4,[45,62],0,0,[a,b]⟩
def ri (n:Nat):List Ty:=(List.range n).map fun i:Nat=>cV i
theorem po {n:Nat}:(ri n).length=n:=by simp [ri]
theorem IL {n:Nat}:ri (n+1)=ri n++[cV n]:=by simp [ri,List.range_succ]
def T6 (d:Dt):List AV:=[.pv (vI d.pos),.pv (.str d.name),.pv (.aE (d.params.map .str)),.pv (.aE (d.cons.map nc.pv))]
@[simp] theorem T7 (d:Dt):T6 d=[.pv (vI d.pos),.pv (.str d.name),.pv (.aE (d.params.map .str)),.pv (.aE (d.cons.map nc.pv))]:=rfl
def Mg (d:Dt):Ty:=⟨4,d.name,0,0,ri d.params.length⟩
theorem Sy {d:Dt} (hS:Sm d.params):∀(n i:Nat),d.params.length-i=n→i≤d.params.length →
   cl AP g221L0 ⟨[(1,.aB 1 0),(2,.aB 2 0),(3,.own ((ri i).map Ty.pv) 0),(4,.pv (vI i))],[(1,T6 d),(2,[.pv (vI 0),.pv (.str []),.pv (vI 0),.pv (vI 0),.own [] 1])],[],[i,0]⟩ =
     some (.exit 0,⟨[(1,.aB 1 0),(2,.aB 2 0),(3,.own ((ri d.params.length).map Ty.pv) 0),(4,.pv (vI d.params.length)),(9,.pv (.bool false))],[(1,T6 d),(2,[.pv (vI 0),.pv (.str []),.pv (vI 0),.pv (vI 0),.own [] 1])],[],[d.params.length,0]⟩)
 | 0,i,hn,hi=>by
   have:i=d.params.length:=by omega
   subst this
   have hl:=po (n:=d.params.length)
   rw [g221L0e]
   simp [g221B0,hl]
 | n+1,i,hn,hi=>by
   have hi:i<d.params.length:=by omega
   unfold Sm at hS
   have hl:=po (n:=i)
   have hl2:=po (n:=i+1)
   have hb:(i+1)*64≤140737488355328:=by omega
   have k:=c72 (n:=i)
   have ih:=Sy hS n (i+1) (by omega) (by omega)
   rw [g221L0e] at ih ⊢
   rw [IL] at ih
   simp [cV,hl] at ih k
   simp (disch:=omega) [-getElem?_pos,g221B0,hi,k,hl,hb,az]
   rw [g221L0e]
   simp [ih,hl]
theorem c221 {d:Dt} (hS:Sm d.params):(aL AP).p 221 [d.pv]=some [(Mg d).pv]:=by
 have h:=Sy hS _ 0 rfl (by omega)
 have hl:=po (n:=d.params.length)
 have k:=c62 (s:=d.name) (l:=ri d.params.length) (by unfold Sm at hS ⊢;omega)
 rw [ah (af:=g221) rfl rfl (by decide)]
 rw [g221L0e] at h
 simp [ri] at h
 simp [ri] at k
 simp [g221,g221L0e,h,k,Mg,ri]
def D_ (ps:List cm) (fs:List Ty) (t:Ty):Ty:=fs.foldr (fun f t=>AG (f.mB ps) t) t
theorem IM {ps:List cm} {fs:List Ty} {k:Nat} {x t:Ty} (h:fs[k]?=some x):D_ ps (fs.take (k+1)) t=D_ ps (fs.take k) (AG (x.mB ps) t):=by
 rw [List.take_add_one,h]
 simp [D_]
def qY (ds:List Dt) (s:cm):Option Sc:=(lN ds s 0).bind fun q=>(ds[q.1]?).bind fun d=>(d.cons[q.2]?).map fun c=>⟨d.params.length,D_ d.params c.fields (Mg d)⟩
theorem Sz {ds:List Dt} {i:Nat} {d:Dt} (hd:ds[i]?=some d) (hp:Sm d.params) {fs:List Ty} (hS:Sm fs) (hO:∀x∈fs,x.Ok) (hC:∀x∈fs,x.Cw):∀(k:Nat),k≤fs.length→∀t:Ty,
   cl AP g193L0 ⟨[(0,.pv (.aE (ds.map Dt.pv))),(4,.aB 4 0),(6,.pv (vI i)),(9,.aB 9 0),(10,.pv (.aE (fs.map Ty.pv))),(11,.pv (vI ((k:Int)-1)))],
     [(4,[.pv (vI 0),.pv (vI 0),.pv (.str []),.pv (vI 0),.pv (vI 0),.own [] 0]),(9,Ql t)],[],[0]⟩ =
   some (.exit 0,⟨[(0,.pv (.aE (ds.map Dt.pv))),(4,.aB 4 0),(6,.pv (vI i)),(9,.aB 9 0),(10,.pv (.aE (fs.map Ty.pv))),(11,.pv (vI (-1))),(40,.pv (.bool false))],
     [(4,[.pv (vI 0),.pv (vI 0),.pv (.str []),.pv (vI 0),.pv (vI 0),.own [] 0]),(9,Ql (D_ d.params (fs.take k) t))],[],[0]⟩)
 | 0,hk,t=>by
   rw [g193L0e]
   simp [g193B0,D_]
 | k+1,hk,t=>by
   obtain ⟨x,hx⟩:=bM (l:=fs) (i:=k) (by omega)
   unfold Sm at hS
   have ih:=Sz hd hp (fs:=fs) (by unfold Sm;exact hS) hO hC k (by omega) (AG (x.mB d.params) t)
   have e1:((k+1:Nat):Int)-1=k:=by omega
   have q1:=c198 hp (hO x (bA hx)) (hC x (bA hx))
   have q2:=c69 (a:=x.mB d.params) (b:=t)
   rw [g193L0e,e1,IM hx]
   simp [AG] at ih q1 q2
   simp (disch:=omega) [-getElem?_pos,g193B0,hd,hx,q1,q2,az,ih,AG]
theorem c193 {ds:List Dt} (hS:Sm ds) (hc:∀d∈ds,Sm d.cons) (hp:∀d∈ds,Sm d.params) (hf:∀d∈ds,∀c∈d.cons,Sm c.fields∧(∀x∈c.fields,x.Ok)∧∀x∈c.fields,x.Cw) {s:cm} :
   (aL AP).p 193 [.aE (ds.map Dt.pv),.str s]=some (N0 (qY ds s)):=by
 have k:=c191 hS hc (s:=s)
 rw [ah (af:=g193) rfl rfl (by decide)]
 cases e:lN ds s 0 with
 | none=>
   rw [e] at k
   simp [rF] at k
   simp [g193,k,qY,e,N0,mh]
 | some q=>
   rw [e] at k
   obtain ⟨_,d,c,hd,hcc,_⟩:=xE e
   simp only [Nat.sub_zero] at hd
   obtain ⟨f1,f2,f3⟩:=hf d (bA hd) c (bA hcc)
   have k2:=c221 (hp d (bA hd))
   have h:=Sz hd (hp d (bA hd)) f1 f2 f3 c.fields.length (Nat.le_refl _) (Mg d)
   rw [List.take_length] at h
   rw [g193L0e] at h
   unfold Sm at f1
   simp [rF] at k
   simp at k2 h
   simp (disch:=omega) [-getElem?_pos,g193,k,hd,hcc,k2,qY,e,N0,az,g193L0e,h]
end Go.Ab.Lw
namespace Go.Ab.Lw
open Ev
def xT:List cm→List cm→Bool
 | _,[]=>false
 | pre,s::r=>decide (s∈pre) || xT (pre++[s]) r
def UG (a b:List (PV×PV)):Sh:=[some [.dQ a],some [.dQ b]]
@[simp] theorem T8 (a b:List (PV×PV)):UG a b=[some [.dQ a],some [.dQ b]]:=rfl
def T9 (c:nc):List AV:=[.pv (vI c.pos),.pv (.str c.name),.pv (.aE (c.fields.map Ty.pv))]
@[simp] theorem Tn (c:nc):T9 c=[.pv (vI c.pos),.pv (.str c.name),.pv (.aE (c.fields.map Ty.pv))]:=rfl
end Go.Ab.Lw
namespace Go.Ab.Lw
open Ev
theorem D' {l:List cm} {t:Ty} (h:t.Ok):(t.mB l).Ok:=by
 revert h
 refine Ty.gg (p:=fun t=>t.Ok→(t.mB l).Ok) ?_ t
 intro t ih h
 rw [Ty.xH]
 split
 · exact df rfl
 · refine ⟨by have:=h.sm;unfold Sm at this ⊢;simpa using this,?_⟩
   intro x hx
   simp only [List.mem_map] at hx
   obtain ⟨y,hy,rfl⟩:=hx
   exact ih y hy (h.iv y hy)
end Go.Ab.Lw
namespace Go.Ab.Lw
open Ev
def fieldsOf (ds:List Dt) (s:cm) (as:List Ty):Option (List Ty):=(lN ds s 0).bind fun q=>(ds[q.1]?).bind fun d=>(d.cons[q.2]?).bind fun c=>if as.length=d.params.length then some (c.fields.map fun f=>(f.mB d.params).m7 as) else none
def SA (o:Option (List Ty)):List PV:=[.aE ((o.getD []).map Ty.pv),.bool o.isSome]
theorem SB {ds:List Dt} {i:Nat} {d:Dt} (hd:ds[i]?=some d) (hp:Sm d.params) {as:List Ty} (ha:Sm as) {fs:List Ty} (hS:Sm fs) (hO:∀x∈fs,x.Ok) (hC:∀x∈fs,x.Cw):∀(n j:Nat),fs.length-j=n→j≤fs.length→∀acc:List Ty,acc=(fs.take j).map (fun f=>(f.mB d.params).m7 as) →
   cl AP g207L0 ⟨[(0,.pv (.aE (ds.map Dt.pv))),(2,.pv (.aE (as.map Ty.pv))),(8,.pv (vI i)),(11,.own (acc.map Ty.pv) 0),(12,.pv (.aE (fs.map Ty.pv))),(13,.pv (vI j))],[],[],[acc.length]⟩ =
     some (.exit 0,⟨[(0,.pv (.aE (ds.map Dt.pv))),(2,.pv (.aE (as.map Ty.pv))),(8,.pv (vI i)),(11,.own ((fs.map (fun f=>(f.mB d.params).m7 as)).map Ty.pv) 0),(12,.pv (.aE (fs.map Ty.pv))),(13,.pv (vI fs.length)),(46,.pv (.bool false))],[],[],[fs.length]⟩)
 | 0,j,hn,hj,acc,hacc=>by
   have:j=fs.length:=by omega
   subst this
   subst hacc
   rw [g207L0e]
   simp [g207B0]
 | n+1,j,hn,hj,acc,hacc=>by
   have hj:j<fs.length:=by omega
   obtain ⟨x,hx⟩:=bM hj
   have q1:=c198 hp (hO x (bA hx)) (hC x (bA hx))
   have q2:=c48 ha (t:=x.mB d.params) (D' (hO x (bA hx)))
   unfold Sm at hS
   have hb:(acc.length+1)*64≤140737488355328:=by subst hacc;simp;omega
   have ih:=SB hd hp ha (fs:=fs) (by unfold Sm;exact hS) hO hC n (j+1) (by omega) (by omega) (acc++[(x.mB d.params).m7 as]) (by rw [List.take_add_one,hx,hacc];simp)
   generalize x.mB d.params=u at q1 q2 ih
   generalize u.m7 as=v at q2 ih
   rw [g207L0e] at ih ⊢
   simp at ih q1 q2
   simp (disch:=omega) [-getElem?_pos,g207B0,hd,hx,hj,q1,q2,hb,az]
   rw [g207L0e]
   simp [ih]
theorem c207 {ds:List Dt} (h:Small ds) {as:List Ty} (ha:Sm as) {s:cm}:(aL AP).p 207 [.aE (ds.map Dt.pv),.str s,.aE (as.map Ty.pv)]=some (SA (fieldsOf ds s as)):=by
 have k:=c191 h.num h.gU (s:=s)
 rw [ah (af:=g207) rfl rfl (by decide)]
 cases e:lN ds s 0 with
 | none=>
   rw [e] at k
   simp [rF] at k
   simp [g207,k,fieldsOf,e,SA]
 | some q=>
   rw [e] at k
   obtain ⟨_,d,c,hd,hc,_⟩:=xE e
   simp only [Nat.sub_zero] at hd
   obtain ⟨f1,f2,f3⟩:=h.Uq d (bA hd) c (bA hc)
   have hl:=SB hd (h.par d (bA hd)) ha f1 f2 f3 _ 0 rfl (by omega) [] rfl
   rw [g207L0e] at hl
   simp [rF] at k
   by_cases e2:as.length=d.params.length
   · simp at hl
     simp (disch:=omega) [-getElem?_pos,g207,k,hd,hc,fieldsOf,e,SA,e2,g207L0e,hl]
   · have e3:¬(as.length:Int)=d.params.length:=by omega
     simp (disch:=omega) [-getElem?_pos,g207,k,hd,hc,fieldsOf,e,SA,e2,e3]
end Go.Ab.Lw
namespace Go.Ab.Lw
open Ev
theorem AH {S:List Ty} (hf:S.length<1099511627776) {l:List Ty} (hG:∀t∈l,Good S t):Sm (vars l):=by
 have c0:lM (S.map Ty.id) []:=tG (by simpa using hf)
 refine (c0.fold (l:=l.flatMap Ty.nodes) ?_).len
 intro x hx hk
 simp only [List.mem_flatMap] at hx
 obtain ⟨t,ht,hx⟩:=hx
 exact List.mem_map_of_mem ((hG t ht).sub x (vD (hG t ht).wf x hx hk))
end Go.Ab.Lw
namespace Go.Ab.Lw
open Ev
mutual
def Ty.kj (k:Int):Ty→Bool
 | ⟨q,_,_,_,as⟩=>decide (q=k) || Ty.AI k as
def Ty.AI (k:Int):List Ty→Bool
 | []=>false
 | a::r=>a.kj k || Ty.AI k r
end
theorem Ty.vL (k:Int):∀l:List Ty,Ty.AI k l=l.any (Ty.kj k)
 | []=>by simp [Ty.AI]
 | a::r=>by simp [Ty.AI,Ty.vL k r]
theorem Ty.Fb (k:Int) (t:Ty):t.kj k=(decide (t.kind=k) || t.args.any (Ty.kj k)):=by
 cases t;simp only [Ty.kj,Ty.vL]
theorem SC {t:Ty} {k:Int} (hS:Sm t.args) (h:∀x∈t.args,(aL AP).p 351 [x.pv,vI k]=some [.bool (x.kj k)]):∀(n i:Nat),t.args.length-i=n→i≤t.args.length →
   cl AP g351L0 ⟨[(1,.pv (vI k)),(2,.aB 2 0),(5,.pv (vI i))],[(2,[.pv (vI t.kind),.pv (.str t.name),.pv (vI t.id),.pv (vI t.home),.pv (.aE (t.args.map Ty.pv))])],[],[]⟩ =
     if (t.args.drop i).any (Ty.kj k)=true then some (.ret,⟨[(4,.pv (.bool true))],[],[],[]⟩)
     else some (.exit 0,⟨[(1,.pv (vI k)),(2,.aB 2 0),(5,.pv (vI t.args.length)),(14,.pv (.bool false))],[(2,[.pv (vI t.kind),.pv (.str t.name),.pv (vI t.id),.pv (vI t.home),.pv (.aE (t.args.map Ty.pv))])],[],[]⟩)
 | 0,i,hn,hi=>by
   have:i=t.args.length:=by omega
   subst this
   rw [g351L0e]
   simp [g351B0]
 | n+1,i,hn,hi=>by
   have hi:i<t.args.length:=by omega
   obtain ⟨x,hx⟩:=bM hi
   unfold Sm at hS
   have c:=h x (bA hx)
   have ih:=SC hS h n (i+1) (by omega) (by omega)
   rw [g351L0e] at ih ⊢
   rw [cX hx,List.any_cons]
   cases e:x.kj k with
   | true=>
     rw [e] at c
     simp at c
     simp (disch:=omega) [-getElem?_pos,g351B0,hx,hi,c]
   | false=>
     rw [e] at c
     simp at c
     rw [Bool.false_or,←ih]
     simp (disch:=omega) [-getElem?_pos,g351B0,hx,hi,c,az]
     rw [g351L0e]
     simp [g351B0]
theorem c351 {t:Ty} {k:Int} (hO:t.Ok):(aL AP).p 351 [t.pv,vI k]=some [.bool (t.kj k)]:=by
 revert hO
 refine Ty.gg (p:=fun t=>t.Ok→(aL AP).p 351 [t.pv,vI k]=some [.bool (t.kj k)]) ?_ t
 intro t ih hO
 have h:=SC (k:=k) hO.sm (fun x hx=>ih x hx (hO.iv x hx)) _ 0 rfl (by omega)
 rw [ah (af:=g351) rfl rfl (by decide),Ty.Fb]
 rw [g351L0e] at h
 by_cases e:t.kind=k
 · simp [g351,e]
 · cases e':t.args.any (Ty.kj k) with
   | true=>simp only [List.drop_zero,e'] at h;simp at h;simp [g351,e,g351L0e,h]
   | false=>simp only [List.drop_zero,e'] at h;simp at h;simp [g351,e,g351L0e,h]
end Go.Ab.Lw
namespace Go.Ab.Lw
open Ev
def vr (x:Ty):List Int:=if x.kind=1 then [x.id] else []
end Go.Ab.Lw
namespace Go.Ab.Lw
open Ev
def lr (h:Int):Nat→List Ty
 | 0=>[]
 | n+1=>lr h n++[lf h n]
theorem mC (h:Int):∀n,(lr h n).length=n
 | 0=>rfl
 | n+1=>by simp [lr,mC h n]
theorem SD {T:Ty} {h:Int} {nm:List cm} {q:List AV} (hq7:q=T.cl) (hS:nm.length<1000000000):∀(n i:Nat),nm.length-i=n→i≤nm.length →
   cl AP g327L0 ⟨[(1,.pv (vI h)),(4,.aB 4 0),(5,.aB 5 0),(6,.pv (.aE (nm.map .str))),(7,.aB 7 0),(8,.own ((lr h i).map Ty.pv) 0),(9,.pv (vI i))],
     [(4,[.pv (vI 0),.pv (.str []),.pv (vI 0),.pv (vI 0),.own [] 1]),(5,[.pv (vI 0),.pv (vI 0),.pv (.str []),.pv (vI 0),.pv (vI 0),.own [] 2]),(7,q)],[],[i,0,0]⟩ =
     some (.exit 0,⟨[(1,.pv (vI h)),(4,.aB 4 0),(5,.aB 5 0),(6,.pv (.aE (nm.map .str))),(7,.aB 7 0),(8,.own ((lr h nm.length).map Ty.pv) 0),(9,.pv (vI nm.length)),(18,.pv (.bool false))],
     [(4,[.pv (vI 0),.pv (.str []),.pv (vI 0),.pv (vI 0),.own [] 1]),(5,[.pv (vI 0),.pv (vI 0),.pv (.str []),.pv (vI 0),.pv (vI 0),.own [] 2]),(7,q)],[],[nm.length,0,0]⟩)
 | 0,i,hn,hi=>by
   have:i=nm.length:=by omega
   subst this
   have hl:=mC h nm.length
   subst hq7
   generalize lr h nm.length=R at *
   rw [g327L0e]
   simp [g327B0,hl,Ty.cl]
 | n+1,i,hn,hi=>by
   have hi:i<nm.length:=by omega
   have ih:=SD (h:=h) hq7 hS n (i+1) (by omega) (by omega)
   have k:=c71 (n:=h) (m:=i)
   have hl:=mC h i
   have hb:(i+1)*64≤140737488355328:=by omega
   have hr:(lr h (i+1)).map Ty.pv=(lr h i).map Ty.pv++[(lf h i).pv]:=by simp [lr]
   rw [hr] at ih
   subst hq7
   generalize lr h i=R at *
   rw [g327L0e] at ih ⊢
   simp [hl,Ty.cl,lf] at ih k
   simp (disch:=omega) [-getElem?_pos,g327B0,hi,hl,k,hb,Ty.cl,az]
   rw [g327L0e]
   simp [hl,ih]
theorem c327 {S:List cm} (hf:S.length<1000000000) {t:Ty} (hO:t.Ok) (hC:t.Cw) (hk:∀y∈t.gH,y∈S) {h:Int}:(aL AP).p 327 [t.pv,vI h]=some [((t.mB (eg t)).m7 (lr h (eg t).length)).pv,(As.mk (eg t).length (t.mB (eg t))).pv]:=by
 have hcn:=jW.fold (S:=S) (l:=t.gH) (out:=[]) ⟨by simp,by simp,by omega⟩ hk
 have hnl:(eg t).length<1000000000:=by
   have:=gS hcn.nodup hcn.sub
   unfold eg
   omega
 have k1:=c196 (S:=S) (by omega) hO hk
 have k2:=c198 (l:=eg t) (by unfold Sm;omega) hO hC
 have hbO:=D' (l:=eg t) hO
 have k3:=c48 (s:=lr h (eg t).length) (by unfold Sm;rw [mC];omega) hbO
 generalize eg t=nm at *
 generalize t.mB nm=T at *
 have h4:=SD (h:=h) (T:=T) (nm:=nm) rfl hnl _ 0 rfl (by omega)
 generalize lr h nm.length=R at *
 generalize T.m7 R=U at *
 rw [g327L0e] at h4
 simp [lr,Ty.cl] at h4
 simp at k1 k2 k3
 rw [ah (af:=g327) rfl rfl (by decide)]
 simp [g327,k1,k2,g327L0e,h4,k3]
end Go.Ab.Lw
namespace Go.Ab.Lw
open Ev
theorem c325 {S:List cm} (hf:S.length<1000000000) {t:Ty} (hO:t.Ok) (hC:t.Cw) (hk:∀y∈t.gH,y∈S):(aL AP).p 325 [t.pv]=some [((t.mB (eg t)).m7 (lr 98 (eg t).length)).pv]:=by
 have k:=c327 hf hO hC hk (h:=98)
 generalize (t.mB (eg t)).m7 (lr 98 (eg t).length)=U at *
 simp at k
 rw [ah (af:=g325) rfl rfl (by decide)]
 simp [g325,k]
theorem SE {vs:List Int} (hv:Sm vs) {t:Ty}:∀(n i:Nat),vs.length-i=n→i≤vs.length→∀acc:List As,acc.length≤i →
   cl AP g363L0 ⟨[(1,.aB 1 0),(2,.aB 2 0),(3,.pv (.aE (vs.map vI))),(4,.own (acc.map As.pv) 0),(5,.pv (vI i))],[(1,tC t),(2,zC 1)],[],[acc.length,0]⟩ =
     some (.exit 0,⟨[(1,.aB 1 0),(2,.aB 2 0),(3,.pv (.aE (vs.map vI))),(4,.own ((acc++(vs.drop i).map fun v=>As.mk v bu).map As.pv) 0),(5,.pv (vI vs.length)),(12,.pv (.bool false))],[(1,tC t),(2,zC 1)],[],[(acc++(vs.drop i).map fun v=>(⟨v,bu⟩:As)).length,0]⟩)
 | 0,i,hn,hi,acc,ha=>by
   have:i=vs.length:=by omega
   subst this
   rw [g363L0e]
   simp [g363B0,tC,zC]
 | n+1,i,hn,hi,acc,ha=>by
   have hi:i<vs.length:=by omega
   obtain ⟨x,hx⟩:=bM hi
   unfold Sm at hv
   have hb:(acc.length+1)*72≤140737488355328:=by omega
   have k:=c34
   have ih:=SE (t:=t) hv n (i+1) (by omega) (by omega) (acc++[⟨x,bu⟩]) (by simp;omega)
   rw [g363L0e] at ih ⊢
   rw [cX hx]
   simp [tC,zC,bu] at ih k
   simp (disch:=omega) [-getElem?_pos,g363B0,tC,zC,bu,hx,hi,k,az,hb]
   rw [g363L0e]
   simp [ih]
theorem c363 {S:List Ty} (hf:S.length<1099511627776) (hSo:∀x∈S,x.Ok) {t:Ty} (hG:Good S t):(aL AP).p 363 [t.pv]=some [(t.sub ((vars [t]).map fun v=>As.mk v bu)).pv]:=by
 have k1:=vars56 hf hSo (l:=[t]) (by simp [Sm]) (by simpa using hG)
 have hv:=AH hf (l:=[t]) (by simpa using hG)
 have h:=SE (t:=t) hv _ 0 rfl (by omega) [] (by simp)
 have k2:=c46 (s:=(vars [t]).map fun v=>As.mk v bu) (by unfold Sm at *;simpa using hv) hG.ok
 generalize vars [t]=vs at *
 rw [g363L0e] at h
 simp [tC,zC] at h
 simp at k1 k2
 rw [ah (af:=g363) rfl rfl (by decide)]
 simp [g363,k1,k2,g363L0e,h]
end Go.Ab.Lw
namespace Go.Ab.Lw
open Ev
def gz (k:Nat):List AV:=[.pv (vI 0),.pv (vI 0),.pv (.str []),.pv (vI 0),.pv (vI 0),.own [] k]
end Go.Ab.Lw
namespace Go.Ab.Lw
open Ev
theorem SF {l:List Ex} (hl:l.length≤2000) {k:Int} (IH:∀x∈l,∃b,(aL AP).p 307 [x.pv,vI k]=some [.bool b]):∀(n i:Nat),l.length-i=n→i≤l.length →
   cl AP g307L0 ⟨[(1,.pv (vI k)),(5,.pv (.aE (l.map Ex.pv))),(6,.pv (vI i))],[],[],[]⟩=some (.ret,⟨[(4,.pv (.bool true))],[],[],[]⟩) ∨
   cl AP g307L0 ⟨[(1,.pv (vI k)),(5,.pv (.aE (l.map Ex.pv))),(6,.pv (vI i))],[],[],[]⟩=some (.exit 0,⟨[(1,.pv (vI k)),(5,.pv (.aE (l.map Ex.pv))),(6,.pv (vI l.length)),(16,.pv (.bool false))],[],[],[]⟩)
 | 0,i,hn,hi=>by
   have:i=l.length:=by omega
   subst this
   refine .inr ?_
   rw [g307L0e]
   simp [g307B0]
 | n+1,i,hn,hi=>by
   have hi:i<l.length:=by omega
   obtain ⟨x,hx⟩:=bM hi
   obtain ⟨b,c⟩:=IH x (bA hx)
   have he:=LU.len x
   have ho:=LU.of x
   cases b with
   | true=>
     refine .inl ?_
     simp at c he ho
     rw [g307L0e]
     simp (disch:=omega) [-getElem?_pos,g307B0,hx,hi,c,he,ho]
   | false=>
     have ih:=SF hl IH n (i+1) (by omega) (by omega)
     have e1:cl AP g307L0 ⟨[(1,.pv (vI k)),(5,.pv (.aE (l.map Ex.pv))),(6,.pv (vI i))],[],[],[]⟩=cl AP g307L0 ⟨[(1,.pv (vI k)),(5,.pv (.aE (l.map Ex.pv))),(6,.pv (vI (i+1:Nat)))],[],[],[]⟩:=by
       conv=>lhs;rw [g307L0e]
       simp at c he ho
       simp (disch:=omega) [-getElem?_pos,g307B0,hx,hi,c,az,he,ho]
     rw [e1]
     exact ih
theorem c307 {e:Ex} (h:e.Ok) (k:Int):∃b,(aL AP).p 307 [e.pv,vI k]=some [.bool b]:=by
 induction h with
 | @mk e hk ha hv ht hc ih=>
   have k1:=c145 (Ex.Ok.mk hk ha hv ht hc)
   have hl:e.ch.length≤2000:=by rw [Ex.mm];omega
   have L:=SF hl ih _ 0 rfl (by omega)
   rw [g307L0e] at L
   simp at L k1
   by_cases q:e.kind=k
   · refine ⟨true,?_⟩
     rw [ah (af:=g307) rfl rfl (by decide)]
     simp [g307,q]
   · rcases L with L | L
     · refine ⟨true,?_⟩
       rw [ah (af:=g307) rfl rfl (by decide)]
       simp [g307,q,k1,g307L0e,L]
     · refine ⟨false,?_⟩
       rw [ah (af:=g307) rfl rfl (by decide)]
       simp [g307,q,k1,g307L0e,L]
end Go.Ab.Lw
namespace Go.Ab.Lw
open Ev
def il (i:Nat):List Int→List As
 | []=>[]
 | v::r=>⟨v,ct i⟩::il (i+1) r
theorem Mh {i:Nat} {l:List Int}:(il i l).length=l.length:=by
 induction l generalizing i with
 | nil=>rfl
 | cons a r ih=>simp [il,ih]
theorem O' {l:List Ty} {vs:List Int} (hv:Sm vs):∀(n i:Nat),vs.length-i=n→i≤vs.length→∀acc:List As,acc.length≤i →
   cl AP g395L0 ⟨[(0,.pv (.aE (l.map Ty.pv))),(3,.pv (.aE (vs.map vI))),(4,.own (acc.map As.pv) 0),(5,.pv (vI i))],[],[],[acc.length]⟩ =
     some (.exit 0,⟨[(0,.pv (.aE (l.map Ty.pv))),(3,.pv (.aE (vs.map vI))),(4,.own ((acc++il i (vs.drop i)).map As.pv) 0),(5,.pv (vI vs.length)),(13,.pv (.bool false))],[],[],[(acc++il i (vs.drop i)).length]⟩)
 | 0,i,hn,hi,acc,ha=>by
   have:i=vs.length:=by omega
   subst this
   rw [g395L0e]
   simp [g395B0,il]
 | n+1,i,hn,hi,acc,ha=>by
   have hi:i<vs.length:=by omega
   obtain ⟨x,hx⟩:=bM hi
   unfold Sm at hv
   have hb:(acc.length+1)*72≤140737488355328:=by omega
   have k:=c63 (n:=i)
   have ih:=O' (l:=l) hv n (i+1) (by omega) (by omega) (acc++[As.mk x (ct i)]) (by simp;omega)
   rw [g395L0e] at ih ⊢
   rw [cX hx]
   simp [ct] at ih k
   simp (disch:=omega) [-getElem?_pos,g395B0,hx,hi,k,az,hb,il,ct]
   rw [g395L0e]
   simp [ih]
theorem Pa {l:List Ty} (hl:Sm l) (hO:∀t∈l,t.Ok) {s:List As} (hs:Sm s):∀(n i:Nat),l.length-i=n→i≤l.length→∀acc:List Ty,acc.length≤i →
   cl AP g395L1 ⟨[(0,.pv (.aE (l.map Ty.pv))),(4,.own (s.map As.pv) 0),(6,.own (acc.map Ty.pv) 1),(7,.pv (vI i))],[],[],[s.length,acc.length]⟩ =
     some (.exit 2,⟨[(0,.pv (.aE (l.map Ty.pv))),(4,.own (s.map As.pv) 0),(6,.own ((acc++(l.drop i).map (Ty.sub s)).map Ty.pv) 1),(7,.pv (vI l.length)),(29,.pv (.bool false))],[],[],[s.length,(acc++(l.drop i).map (Ty.sub s)).length]⟩)
 | 0,i,hn,hi,acc,ha=>by
   have:i=l.length:=by omega
   subst this
   rw [g395L1e]
   simp [g395B1]
 | n+1,i,hn,hi,acc,ha=>by
   have hi:i<l.length:=by omega
   obtain ⟨x,hx⟩:=bM hi
   have hl':=hl
   unfold Sm at hl
   have hb:(acc.length+1)*64≤140737488355328:=by omega
   have k:=c46 hs (hO x (bA hx))
   have ih:=Pa hl' hO hs n (i+1) (by omega) (by omega) (acc++[x.sub s]) (by simp;omega)
   rw [g395L1e] at ih ⊢
   rw [cX hx]
   simp at ih k
   simp (disch:=omega) [-getElem?_pos,g395B1,hx,hi,k,az,hb]
   rw [g395L1e]
   simp [ih]
theorem c395i {S:List Ty} (hf:S.length<1099511627776) (hSo:∀x∈S,x.Ok) {l:List Ty} (hl:Sm l) (hG:∀t∈l,Good S t):(aL AP).i 395 [.pv (.aE (l.map Ty.pv))] [] []=some ([.own ((l.map (Ty.sub (il 0 (vars l)))).map Ty.pv) 0],[],[l.length]):=by
 have k1:=vars56 hf hSo hl hG
 have hv:=AH hf hG
 have h1:=O' (l:=l) hv _ 0 rfl (by omega) [] (by simp)
 have hs:Sm (il 0 (vars l)):=by unfold Sm at *;rw [Mh];exact hv
 have h2:=Pa hl (fun t ht=>(hG t ht).ok) hs _ 0 rfl (by omega) [] (by simp)
 generalize vars l=vs at *
 rw [g395L0e] at h1
 rw [g395L1e] at h2
 simp at h1 h2 k1
 generalize il 0 vs=s at *
 rw [aP (af:=g395) rfl (by simp [g395])]
 simp [g395,k1,g395L0e,h1,g395L1e,h2]
end Go.Ab.Lw
namespace Go.Ab.Lw
open Ev
theorem c377 {s:List As} (hs:Sm s) {c:Sc} (hO:c.ty.Ok):(aL AP).p 377 [.aE (s.map As.pv),c.pv]=some [(As.mk c.id (c.ty.sub s)).pv]:=by
 have k:=c22 hs hO
 generalize c.ty.sub s=u at *
 simp at k
 rw [ah (af:=g377) rfl rfl (by decide)]
 simp [g377,k]
theorem Pb {l:List En} (hl:Sm l) {g:Ty} {b:PV}:∀(n i:Nat),l.length-i=n→i≤l.length→∀acc:List Ty,acc.length≤i →
   cl AP g376L0 ⟨[(2,.pv b),(3,.aB 3 0),(6,.aB 6 0),(8,.own (acc.map Ty.pv) 0),(9,.pv (.aE (l.map En.pv))),(10,.pv (vI i))],[(3,tC g),(6,[.own [] 1,.own [] 2])],[],[acc.length,0,0]⟩ =
     some (.exit 0,⟨[(2,.pv b),(3,.aB 3 0),(6,.aB 6 0),(8,.own ((acc++(l.drop i).map fun x=>x.sc.ty).map Ty.pv) 0),(9,.pv (.aE (l.map En.pv))),(10,.pv (vI l.length)),(21,.pv (.bool false))],[(3,tC g),(6,[.own [] 1,.own [] 2])],[],[(acc++(l.drop i).map fun x=>x.sc.ty).length,0,0]⟩)
 | 0,i,hn,hi,acc,ha=>by
   have:i=l.length:=by omega
   subst this
   rw [g376L0e]
   simp [g376B0,tC]
 | n+1,i,hn,hi,acc,ha=>by
   have hi:i<l.length:=by omega
   obtain ⟨x,hx⟩:=bM hi
   unfold Sm at hl
   have hb:(acc.length+1)*64≤140737488355328:=by omega
   have ih:=Pb (g:=g) (b:=b) hl n (i+1) (by omega) (by omega) (acc++[x.sc.ty]) (by simp;omega)
   rw [g376L0e] at ih ⊢
   rw [cX hx]
   simp [tC] at ih
   simp (disch:=omega) [-getElem?_pos,g376B0,tC,hx,hi,az,hb]
   rw [g376L0e]
   simp [ih]
end Go.Ab.Lw
namespace Go.Ab.Lw
open Ev
def uB:Nat→ef
 | 0=>⟨[],[]⟩
 | i+1=>dN (uB i) 1000000 false
theorem Mi:∀i,ub (uB i).sl=i
 | 0=>rfl
 | i+1=>by
   have:=Mi i
   simp only [ub] at this
   simp [uB,dN,ub,List.countP_append,this]
theorem xI:∀i,Inv i (i*i+4*i) (eV i) (uB i)
 | 0=>⟨rfl,by simp [uB,ub],by simp [uB],by simp [uB],⟨fun _=>0,by rintro i v ⟨k,x,_,h,_⟩;simp [uB] at h⟩,by simp [uB]⟩
 | i+1=>by
   have I:=xI i
   refine vH I 1000000 false ?_
   rw [Mi]
   have:(i+1)*(i+1)=i*i+2*i+1:=by rw [Nat.add_mul,Nat.mul_add];omega
   omega
theorem Pc {vs:List Int} (hv:vs.length≤5000):∀(n i:Nat),vs.length-i=n→i≤vs.length→∀acc:List As,acc.length≤i →
   cl AP g376L1 ⟨[(2,.pv (.aE [])),(6,.aB 6 0),(11,.pv (.aE (vs.map vI))),(12,.aB 12 0),(13,.own (acc.map As.pv) 0),(14,.pv (vI i))],[(6,[.own [] 1,.own [] 2]),(12,sC (uB i))],[],[acc.length,0,0]⟩ =
     some (.exit 2,⟨[(2,.pv (.aE [])),(6,.aB 6 0),(11,.pv (.aE (vs.map vI))),(12,.aB 12 0),(13,.own ((acc++il i (vs.drop i)).map As.pv) 0),(14,.pv (vI vs.length)),(42,.pv (.bool false))],[(6,[.own [] 1,.own [] 2]),(12,sC (uB vs.length))],[],[(acc++il i (vs.drop i)).length,0,0]⟩)
 | 0,i,hn,hi,acc,ha=>by
   have:i=vs.length:=by omega
   subst this
   rw [g376L1e]
   simp [g376B1,sC,il]
 | n+1,i,hn,hi,acc,ha=>by
   have hi:i<vs.length:=by omega
   obtain ⟨x,hx⟩:=bM hi
   have hb:(acc.length+1)*72≤140737488355328:=by omega
   have k0:=c95 (s:=[]) (by simp [Sm]) (y:=x)
   have I:=xI i
   have hq:i*i≤5000*5000:=Nat.mul_le_mul (by omega) (by omega)
   have k:=c381 I.MF (by omega) (by omega) 1000000 false
   rw [I.len] at k
   have ih:=Pc hv n (i+1) (by omega) (by omega) (acc++[As.mk x (ct i)]) (by simp;omega)
   simp only [uB] at ih
   generalize dN (uB i) 1000000 false=s1 at *
   generalize uB i=s0 at *
   rw [g376L1e] at ih ⊢
   rw [cX hx]
   simp [ct] at k
   simp [sC,ct] at ih
   simp at k0
   simp (disch:=omega) [-getElem?_pos,g376B1,sC,hx,hi,k,k0,az,hb,il,ct]
   rw [g376L1e]
   simp [ih]
end Go.Ab.Lw
namespace Go.Ab.Lw
open Ev
theorem c376 {S:List Ty} (hf:S.length≤5000) (hSo:∀x∈S,x.Ok) {g:Ty} (hg:Good S g) {l:List En} (hl:Sm l) (hl2:l.length<1000000) (hG:∀x∈l,Good S x.sc.ty):∃vs:List Int,vs=vars (g::(dX l).map fun x=>x.sc.ty)∧vs.length≤5000 ∧
   (aL AP).p 376 [g.pv,.aE (l.map En.pv),.aE []]=some [(uB vs.length).pv,.aE ((il 0 vs).map As.pv)]:=by
 have hsl:=tI l
 have k1:=c201 hl
 have hG2:∀t∈(g::(dX l).map fun x=>x.sc.ty),Good S t:=by
   intro t ht
   simp only [List.mem_cons,List.mem_map] at ht
   rcases ht with rfl | ⟨x,hx,rfl⟩
   · exact hg
   · exact hG x (ml l x hx)
 have hs:Sm (dX l):=by unfold Sm at *;omega
 have h1:=Pb hs (g:=g) (b:=.aE []) _ 0 rfl (by omega) [] (by simp)
 have k2:=vars56 (by omega) hSo (l:=g::(dX l).map fun x=>x.sc.ty) (by unfold Sm at *;simp;omega) hG2
 have hv:(vars (g::(dX l).map fun x=>x.sc.ty)).length≤5000:=by
   have c0:lM (S.map Ty.id) []:=tG (by simp;omega)
   have c1:=c0.fold (l:=(g::(dX l).map fun x=>x.sc.ty).flatMap Ty.nodes) (by
     intro x hx hk
     simp only [List.mem_flatMap] at hx
     obtain ⟨t,ht,hx⟩:=hx
     exact List.mem_map_of_mem ((hG2 t ht).sub x (vD (hG2 t ht).wf x hx hk)))
   have:=gS c1.nodup c1.sub
   rw [List.length_map] at this
   unfold vars
   omega
 refine ⟨_,rfl,hv,?_⟩
 generalize vars (g::(dX l).map fun x=>x.sc.ty)=vs at *
 have h2:=Pc hv _ 0 rfl (by omega) [] (by simp)
 have k3:=c388
 have hb:(1+(dX l).length)*64≤140737488355328:=by omega
 rw [g376L0e] at h1
 rw [g376L1e] at h2
 generalize uB vs.length=s2 at *
 simp [tC] at h1
 simp [uB,sC] at h2
 have hh:=EN.head ((dX l).map fun x=>x.sc.ty)
 generalize dX l=E at *
 simp at k1 k2 k3 hh
 rw [ah (af:=g376) rfl rfl (by decide)]
 by_cases hE:E=[]
 · subst hE
   simp at h1 k1 k2
   simp (disch:=omega) [g376,k1,g376L0e,h1,hb,hh,k2,k3,g376L1e,h2]
 · simp (disch:=omega) [g376,k1,g376L0e,h1,hb,hh,hE,k2,k3,g376L1e,h2]
end Go.Ab.Lw
namespace Go.Ab.Lw
open Ev
def pq (s:ef):Nat→ef
 | 0=>s
 | i+1=>dN (pq s i) 1000000 false
theorem Pd {s:List Sl}:ub s≤s.length:=List.countP_le_length
theorem m_ {n M:Nat} {s:ef} (I:Inv n M (eV n) s):∀i,Inv (n+i) (M+i*(2*(n+i)+4)) (eV (n+i)) (pq s i)
 | 0=>by simpa [pq] using I
 | i+1=>by
   have J:=m_ I i
   have hu:ub (pq s i).sl≤n+i:=by have:=Pd (s:=(pq s i).sl);rw [J.len] at this;exact this
   refine vH J 1000000 false ?_
   have:(i+1)*(2*(n+(i+1))+4)=i*(2*(n+i)+4)+i*2+(2*(n+(i+1))+4):=by
     rw [Nat.add_mul,Nat.one_mul,show 2*(n+(i+1))+4=(2*(n+i)+4)+2 by omega,Nat.mul_add]
   omega
def AJ (c:Sc):List AV:=[.pv (vI c.id),.pv (vI c.ty.kind),.pv (.str c.ty.name),.pv (vI c.ty.id),.pv (vI c.ty.home),.pv (.aE (c.ty.args.map Ty.pv))]
theorem Pe {n M:Nat} {s:ef} (I:Inv n M (eV n) s) {c:Sc} {K:Nat} (hc:c.id=K) (hN:n+K≤10000) (hM:M≤1000000) {g:Ty} {p3:PV} {p4:PV}:∀(k i:Nat),K-i=k→i≤K→∀acc:List Ty,acc.length=i →
   cl AP g389L0 ⟨[(3,.pv p3),(4,.pv p4),(5,.aB 5 0),(6,.aB 6 0),(7,.aB 7 0),(13,.own (acc.map Ty.pv) 0),(14,.pv (vI i))],[(5,sC (pq s i)),(6,AJ c),(7,tC g)],[],[acc.length]⟩ =
     some (.exit 0,⟨[(3,.pv p3),(4,.pv p4),(5,.aB 5 0),(6,.aB 6 0),(7,.aB 7 0),(13,.own ((acc++(List.range' i (K-i)).map fun j=>ct (n+j:Nat)).map Ty.pv) 0),(14,.pv (vI K)),(39,.pv (.bool false))],[(5,sC (pq s K)),(6,AJ c),(7,tC g)],[],[K]⟩)
 | 0,i,hk,hi,acc,ha=>by
   have:i=K:=by omega
   subst this
   rw [g389L0e]
   simp [g389B0,sC,AJ,tC,hc,ha]
 | k+1,i,hk,hi,acc,ha=>by
   have hi:i<K:=by omega
   have J:=m_ I i
   have hq:i*(2*(n+i)+4)≤10000*20004:=Nat.mul_le_mul (by omega) (by omega)
   have c1:=c381 J.MF (by omega) (by omega) 1000000 false
   rw [J.len] at c1
   have ih:=Pe I hc hN hM (g:=g) (p3:=p3) (p4:=p4) k (i+1) (by omega) (by omega) (acc++[ct (n+i:Nat)]) (by simp;omega)
   have hr:List.range' i (K-i)=i::List.range' (i+1) (K-(i+1)):=by
     rw [show K-i=(K-(i+1))+1 by omega,List.range'_succ]
   have hb:(acc.length+1)*64≤140737488355328:=by omega
   simp only [pq] at ih
   rw [hr]
   generalize dN (pq s i) 1000000 false=s1 at *
   generalize pq s i=s0 at *
   rw [g389L0e] at ih ⊢
   simp [ct] at c1
   simp [sC,AJ,tC,ct,hc] at ih
   simp (disch:=omega) [-getElem?_pos,g389B0,sC,AJ,tC,hc,hi,c1,az,hb,ct]
   rw [g389L0e]
   simp [ih]
end Go.Ab.Lw
namespace Go.Ab.Lw
open Ev
def AL (t:Ty):Prop:=t.Ok∧t.Kw
theorem Pf {s:ef} {x:Ty} (hx:x.Ok) {ns:List Nat} (hns:ns.length=x.args.length) (IH:∀(i:Nat) a n,x.args[i]?=some a→ns[i]?=some n→∃u:Ty,(aL AP).p 373 [s.pv,a.pv]=some [u.pv]∧AL u∧u.nodes.length=n):∀(k i:Nat),x.args.length-i=k→i≤x.args.length→∀acc:List Ty,acc.length=i→(∀u∈acc,AL u)→(acc.flatMap Ty.nodes).length=(ns.take i).sum→∃us:List Ty,
   cl AP g373L0 ⟨[(2,.aB 2 0),(3,.aB 3 0),(4,.aB 4 0),(5,.aB 5 0),(6,.pv (vI i))],[(2,sC s),(3,tC x),(4,zC 0),(5,uC x acc 1)],[],[0,acc.length]⟩ =
     some (.exit 0,⟨[(2,.aB 2 0),(3,.aB 3 0),(4,.aB 4 0),(5,.aB 5 0),(6,.pv (vI x.args.length)),(16,.pv (.bool false))],[(2,sC s),(3,tC x),(4,zC 0),(5,uC x us 1)],[],[0,us.length]⟩)∧us.length=x.args.length∧(∀u∈us,AL u)∧(us.flatMap Ty.nodes).length=ns.sum
 | 0,i,hk,hi,acc,ha,hu,hc=>by
   have:i=x.args.length:=by omega
   subst this
   refine ⟨acc,?_,ha,hu,by rw [hc,←hns,List.take_length]⟩
   rw [g373L0e]
   simp [g373B0,sC,tC,zC,uC]
 | k+1,i,hk,hi,acc,ha,hu,hc=>by
   have hi:i<x.args.length:=by omega
   obtain ⟨a,hax⟩:=bM hi
   obtain ⟨n,hn⟩:=bM (l:=ns) (i:=i) (by omega)
   have hsm:=hx.sm
   unfold Sm at hsm
   obtain ⟨u,e,hO,hnn⟩:=IH i a n hax hn
   obtain ⟨us,e',h1,h2,h3⟩:=Pf hx hns IH k (i+1) (by omega) (by omega) (acc++[u]) (by simp;omega) (by
     intro y hy;simp at hy;rcases hy with hy | rfl
     · exact hu y hy
     · exact hO) (by rw [List.take_add_one,hn,List.flatMap_append,List.length_append,hc];simp [hnn])
   refine ⟨us,?_,h1,h2,h3⟩
   have hb:(acc.length+1)*64≤140737488355328:=by omega
   rw [g373L0e] at e' ⊢
   simp at e
   simp [sC,tC,zC,uC] at e'
   simp (disch:=omega) [-getElem?_pos,g373B0,sC,tC,zC,uC,hi,hax,az,e,hb]
   rw [g373L0e]
   simp [e']
theorem c373k {s:ef} (hs:Sm s.sl) (hO:∀x∈s.sl,x.ty.Ok) (hW:∀x∈s.sl,x.ty.Kw) (r:Nat):∀t:Ty,Tr s.sl t r→AL t→∃u:Ty,(aL AP).p 373 [s.pv,t.pv]=some [u.pv]∧AL u∧u.nodes.length=r:=by
 induction r using Nat.strongRecOn with
 | ind r ih=>
   intro t ht hto
   have k:=c386 hs (t:=t)
   have hw:(wk s.sl (s.sl.length+1) t).Ok:=mu hO hto.1
   have hk:(wk s.sl (s.sl.length+1) t).Kw:=pn hW hto.2
   obtain ⟨ns,hn,hr⟩:=ht.inv
   unfold lp at hn
   obtain ⟨us,e,h1,h2,h3⟩:=Pf (s:=s) hw hn.1 (fun i a n hi hni=>by
     have:=xC hni
     exact ih n (by omega) a (hn.2 i a n hi hni) ⟨hw.iv a (bA hi),hk.iv a (bA hi)⟩) _ 0 rfl (by omega) [] rfl (by simp) rfl
   refine ⟨⟨(wk s.sl (s.sl.length+1) t).kind,(wk s.sl (s.sl.length+1) t).name,(wk s.sl (s.sl.length+1) t).id,(wk s.sl (s.sl.length+1) t).home,us⟩,?_,⟨⟨by have:=hw.sm;unfold Sm at *;simp only;omega,fun y hy=>(h2 y hy).1⟩,.mk (fun q=>?_) hk.nm fun y hy=>(h2 y hy).2⟩,by rw [Ty.aS];simp only [List.length_cons];omega⟩
   · rw [ah (af:=g373) rfl rfl (by decide)]
     rw [g373L0e] at e
     generalize wk s.sl (s.sl.length+1) t=x at *
     simp at k
     simp [sC,tC,zC,uC] at e
     simp [g373,k,g373L0e,e]
   · have:=hk.hd q
     refine ⟨this.1,?_⟩
     rw [this.2] at h1
     exact List.length_eq_zero_iff.1 h1
theorem QA:bO.Kw:=.bare rfl (by simp [bO]) (by simp [bO])
theorem c358k {s:ef} (hs:Sm s.sl) (hO:∀x∈s.sl,x.ty.Ok) (hW:∀x∈s.sl,x.ty.Kw) {t:Ty} (ht:AL t):∃(u:Ty) (b:Bool),(aL AP).p 358 [s.pv,t.pv]=some [u.pv,.bool b]∧AL u∧u.nodes.length≤4000:=by
 obtain ⟨r,e,h1,h2,h3⟩:=c355 hs hO (m:=4000) (by omega) ht.1
 simp at e
 by_cases hr:r≤4000
 · obtain ⟨u,e2,hu,hnu⟩:=c373k hs hO hW r t (h3 hr) ht
   refine ⟨u,true,?_,hu,by omega⟩
   simp at e2
   have hr':¬(4000:Int)<r:=by omega
   rw [ah (af:=g358) rfl rfl (by decide)]
   simp [g358,e,hr',e2]
 · refine ⟨bO,false,?_,⟨df rfl,QA⟩,by rw [Ty.aS];simp [bO]⟩
   have hr':(4000:Int)<r:=by omega
   rw [ah (af:=g358) rfl rfl (by decide)]
   simp [g358,e,hr',bO]
def nd (n:Nat):Ty:=⟨4,[45,62],0,0,[ct n,ct (n+1:Nat)]⟩
theorem tU {n:Int}:(ct n).Kw:=.bare rfl (by simp [ct]) (by simp [ct])
theorem pw {S:List Int} {n:Int} (h:n∈S):Fit S (ct n):=⟨df rfl,tU,fun w ho=>by rw [jV (t:=ct n) rfl ho];exact h⟩
theorem tV {n:Nat}:Fit (eV (n+2)) (nd n) where
 ok:=⟨by simp [nd,Sm],by intro x hx;simp [nd] at hx;rcases hx with rfl | rfl<;>exact df rfl⟩
 wf:=.mk (by simp [nd]) (by simp [nd]) (by intro x hx;simp [nd] at hx;rcases hx with rfl | rfl<;>exact tU)
 m8:=by
   intro w ho
   cases ho with
   | var q=>simp [nd] at q
   | arg _ ha ho=>
     simp [nd] at ha
     rcases ha with rfl | rfl
     · exact (pw (S:=eV (n+2)) (eZ.2 (by omega))).m8 w ho
     · exact (pw (S:=eV (n+2)) (eZ.2 (by omega))).m8 w ho
theorem xJ {s:ef} {i:Nat} {v:Sl} (h:s.sl[i]?=some v):∀k,(pq s k).sl[i]?=some v
 | 0=>h
 | k+1=>by
   have ih:=xJ h k
   have hl:i<(pq s k).sl.length:=by obtain ⟨h,_⟩:=List.getElem?_eq_some_iff.1 ih;exact h
   simp only [pq,dN]
   rw [List.getElem?_append_left hl]
   exact ih
theorem Ea {s:ef} {v:Int}:∀{k:Nat},qd (pq s k).sl v→qd s.sl v
 | 0,h=>h
 | k+1,h=>by
   obtain ⟨j,x,e,hx,hb⟩:=h
   simp only [pq,dN] at hx
   by_cases hl:j<(pq s k).sl.length
   · rw [List.getElem?_append_left hl] at hx
     exact Ea (k:=k) ⟨j,x,e,hx,hb⟩
   · rw [List.getElem?_append_right (by omega)] at hx
     have:j-(pq s k).sl.length=0:=by
       have:=(List.getElem?_eq_some_iff.1 hx).1
       simpa using this
     rw [this] at hx
     simp at hx
     subst hx
     cases hb
theorem QB {s:List Sl} {v:Int} (h:qd s v):v<s.length:=by
 obtain ⟨k,x,e,hx,_⟩:=h
 have:=(List.getElem?_eq_some_iff.1 hx).1
 omega
theorem Of {n M:Nat} {s:ef} (I:Inv n M (eV n) s) {i:Nat} {v:Sl} (hv:s.sl[i]?=some v) (hf:¬qd s.sl (i:Int)) :
   Inv (n+2) (M+2*(2*(n+2)+4)) (eV (n+2)) (ij (pq s 2) i v ⟨true,nd n,v.home,v.base⟩):=by
 have J:=m_ I 2
 have h1:=xJ hv 2
 have fi:¬qd (pq s 2).sl (i:Int):=fun h=>hf (Ea h)
 have hi:i<n:=by have:=(List.getElem?_eq_some_iff.1 hv).1;rw [I.len] at this;exact this
 refine (AB J (t:=nd n) h1 fi Kp.refl (by omega) h1 tV.ok tV.wf tV.m8 ?_ rfl rfl).1
 rintro ⟨w,ho,hr⟩
 have hw:n≤w:=by
   cases ho with
   | var q=>simp [nd] at q
   | arg _ ha ho=>
     simp [nd] at ha
     rcases ha with rfl | rfl
     · rw [jV (t:=ct n) rfl ho];simp [ct]
     · have:=jV (t:=ct ((n:Int)+1)) rfl ho;simp [ct] at this;omega
 have hnb:¬qd (pq s 2).sl w:=fun h=>by
   have:=QB (Ea h)
   rw [I.len] at this
   omega
 have:=tR hr hnb
 omega
end Go.Ab.Lw
