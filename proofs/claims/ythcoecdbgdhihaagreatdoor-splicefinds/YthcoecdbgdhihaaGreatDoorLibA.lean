import Derived.Test.YthcoecdbgdhihaaGreatDoorCodeA
import Derived.Test.YthcoecdbgdhihaaGreatDoorAbBridge
import Derived.Test.YthcoecdbgdhihaaGreatDoorAbForce
import Derived.KernelRfl
/-
  The program's data.
  The makers: what their functions FY.
  The makers: what their functions FY.
  The data declarations that programs are made of: what the reader makes of their text.
  The makers: data declarations, chosen by bits.
  The makers: types and substitutions off the tape.
  Types and substitutions: what replaces variables.
  Types: rebuilding with new leaves.
  Types and substitutions: the program's replacing, finding, composing.
  Substitutions: composing; equality of types and of substitutions.
  Chapter 13: the plain laws, and the law that composition composes.
  Chapter 13: equality of substitutions; the laws SubstAssociates and SubstEqual.
  Functions of package slices over any elements.
  Which types are valid.
  Contexts: their entries; looking names up.
  What the pure data of a parameter looks LL.
  Chapter 3: what its laws make; the laws TypesValid and TypesEqual.
  The variables of types, by the program and by the reference.
  The reference's variables of types; they are the program's.
  Contexts: schemes, adding, hidden entries; what law 19 makes.
  Law 19 makes contexts; the law EnvironLooks.
  The maker of types over any list of data types.
  Correct types in declarations.
  Expressions.
  slices.DeleteFunc over an array of texts that may be written.
  Arrays of structs in shared memory: their cells one behind the other.
  Expressions: children, the part at a path, and the names that are bound.
  Chapter 3: opening.
  Contexts: their free variables; the law EnvironSeen.
  Types by the kinds of their nodes.
  How many nodes an expression has; expressions whose texts are known.
  The names that are visible at a path.
  The holes of an expression.
  The holes of an expression, by the reference; the same of programs.
  Raw expressions: what the maker gives.
  The maker of raw expressions.
  The maker of raw expressions: cases; all depths.
  The reference's store of type variables: what it looks LL, bound variables, walks.
  The reference's store: sizes and resolved types.
  The reference's store: resolving, new variables, changes.
  Chapter 13: valid and idempotent substitutions.
  The reference's store: a slot is set.
  The reference's unifier: arrows, rigid constants, variables of a store, joining.
  The reference's store: acyclic stores.
  The reference's store: a finder HH.
  The reference's store: a finder finds every variable that is reached and not bound.
  Expressions: other children.
  Chapter 9: where a constructor is.
  Scopes: the errors of a case itself, by the reference.
  Scopes: the first error of an expression.
  Positions are numbered.
  The reference's store: the variables of a type.
  The reference's unifier: joining two variables.
  The reference's unifier: joining two variables, the walk.
  The reference's unifier: binding a variable, the loops.
  The reference's unifier: binding a variable.
  The reference's unifier: binding a variable, the walk.
  The reference's unifier: ends of walks, the loop over the arguments.
  The reference's unifier.
  The reference's unifier, from outside; marking a variable.
  The search's reference: a variable is marked; new variables bq a store fit.
  Chapter 9: written type variables become quantified ones.
  Chapter 9: the names of written type variables.
  Chapter 9: declarations off the tape.
  Chapter 9: the scheme of a constructor.
  Chapter 9: the first error of a list of declarations, by the program.
  The law DeclareFinds.
  The law DeclareFields.
  The law EnvironSeen.
  Valid schemes: the program's and the reference's answers are one.
  Closing and mono, by the program.
  Signatures of the reference.
  The maker of programs: small parts, 2.
  The maker of programs: the scheme of a let.
  The maker of programs: does an expression have a part of a kind?
  The search's reference: canonical variables.
  The search's reference: a scheme under a substitution; the beginning of a store.
  The search's reference: the beginning of a store, new variables.
  The search's reference: the beginning of a store.
  The search's reference: an element, its new variables.
  The reference's store: kinds of resolved types; a variable becomes an arrow.
  The search's reference: an element, its arguments.
  The search's reference: an element, its resolved types.
  Matching, by the program.
  Instances, by the program.
  Instances, by the reference.
  Matching, by the reference.
-/
set_option linter.unusedVariables false
set_option linter.unusedSimpArgs false
set_option linter.unnecessarySimpa false
set_option maxRecDepth 100000
set_option maxHeartbeats 8000000
namespace Go.Ab.Lw
structure Ty where
 kind:Int
 name:List UInt8
 id:Int
 home:Int
 args:List Ty
 deriving Inhabited
noncomputable instance:DecidableEq Ty:=fun _ _=>Classical.propDecidable _
mutual
def Ty.pv:Ty→PV
 | ⟨k,n,i,h,as⟩=>.agg [.int .i64 k,.str n,.int .i64 i,.int .i64 h,.aJ (Ty.dt as)]
def Ty.dt:List Ty→List PV
 | []=>[]
 | a::r=>a.pv::Ty.dt r
end
theorem Ty.nJ:∀l:List Ty,Ty.dt l=l.map Ty.pv
 | []=>by simp [Ty.dt]
 | a::r=>by simp [Ty.dt,Ty.nJ r]
@[simp] theorem Ty.lz (t:Ty):t.pv=.agg [.int .i64 t.kind,.str t.name,.int .i64 t.id,.int .i64 t.home,.aJ (t.args.map Ty.pv)]:=by
 cases t;simp only [Ty.pv,Ty.nJ]
theorem Ty.eP {p:Ty→Prop} (h:∀t:Ty,(∀x∈t.args,p x)→p t):∀t,p t
 | ⟨k,n,i,hm,as⟩=>h _ (fun x _hx=>Ty.eP h x)
termination_by t=>SizeOf.sizeOf t
decreasing_by have:=_root_.List.sizeOf_lt_of_mem _hx;simp at *;omega
structure pH where
 pos:Int
 name:List UInt8
 fields:List Ty
 deriving Inhabited
structure Dt where
 pos:Int
 name:List UInt8
 params:List (List UInt8)
 cons:List pH
 deriving Inhabited
def pH.pv (c:pH):PV:=.agg [.int .i64 c.pos,.str c.name,.aJ (c.fields.map Ty.pv)]
def Dt.pv (d:Dt):PV:=.agg [.int .i64 d.pos,.str d.name,.aJ (d.params.map .str),.aJ (d.cons.map pH.pv)]
@[simp] theorem pH.lz (c:pH):c.pv=.agg [.int .i64 c.pos,.str c.name,.aJ (c.fields.map Ty.pv)]:=rfl
@[simp] theorem Dt.lz (d:Dt):d.pv=.agg [.int .i64 d.pos,.str d.name,.aJ (d.params.map .str),.aJ (d.cons.map pH.pv)]:=rfl
structure As where
 id:Int
 ty:Ty
 deriving Inhabited
def As.pv (a:As):PV:=.agg [.int .i64 a.id,.int .i64 a.ty.kind,.str a.ty.name,.int .i64 a.ty.id,.int .i64 a.ty.home,.aJ (a.ty.args.map Ty.pv)]
@[simp] theorem As.lz (a:As):a.pv=.agg [.int .i64 a.id,.int .i64 a.ty.kind,.str a.ty.name,.int .i64 a.ty.id,.int .i64 a.ty.home,.aJ (a.ty.args.map Ty.pv)]:=rfl
@[simp] theorem As.eta (t:As):As.mk t.id t.ty=t:=rfl
abbrev vI (n:Int):PV:=.int .i64 n
def tp (L:List Int) (i:Int):Sh:=[some [.pv (.aJ (L.map vI)),.pv (vI i)]]
@[simp] theorem P6 (L:List Int) (i:Int):tp L i=[some [.pv (.aJ (L.map vI)),.pv (vI i)]]:=rfl
def Sm {α:Type} (l:List α):Prop:=l.length<1099511627776
def Ql {α:Type} (l:List α):Prop:=l.length≤9223372036854775807
@[simp] theorem PJ (n:Nat):((n:Int)<0)↔False:=by simp
@[simp] theorem Po (n:Nat):((n:Int)+1<0)↔False:=by simp;omega
theorem cY {α:Type} {l:List α} {i:Nat} {x:α} (h:l[i]?=some x):l.drop i=x::l.drop (i+1):=by
 obtain ⟨hi,rfl⟩:=List.getElem?_eq_some_iff.1 h
 exact List.drop_eq_getElem_cons hi
theorem bO {α:Type} {l:List α} {i:Nat} (h:i<l.length):∃x,l[i]?=some x:=⟨_,List.getElem?_eq_getElem h⟩
theorem bz {α:Type} {l:List α} {i:Nat} {x:α} (h:l[i]?=some x):x∈l:=List.mem_of_getElem? h
theorem NY {α:Type} {l:List α} {i:Nat} (h:l.length≤i):l.drop i=[]:=List.drop_eq_nil_of_le h
end Go.Ab.Lw
namespace Go.Ab.Lw
open Ev
theorem c26 {n m:Int} (h1:1≤m) (h2:m<4611686018427387904):∃r,(aQ AP).p 26 [vI n,vI m]=some [vI r]∧0≤r∧r<m:=by
 rw [aw (af:=g26) rfl rfl (by decide)]
 have a1:=Int.tmod_lt_of_pos n (show 0<m by omega)
 have a2:=Int.lt_tmod_of_pos n (show 0<m by omega)
 have e1:¬m<1:=by omega
 have e2:¬m=0:=by omega
 by_cases h:n.tmod m<0
 · refine ⟨n.tmod m+m,?_,by omega,by omega⟩
   simp (disch:=omega) [g26,e1,e2,h,aA]
 · refine ⟨n.tmod m,?_,by omega,by omega⟩
   simp [g26,e1,e2,h]
theorem c63 {n:Int}:(aQ AP).p 63 [vI n]=some [(Ty.mk 1 [] n 0 []).pv]:=by
 rw [aw (af:=g63) rfl rfl (by decide)]
 simp [g63]
theorem c71 {n m:Int}:(aQ AP).p 71 [vI n,vI m]=some [(Ty.mk 3 [] m n []).pv]:=by
 rw [aw (af:=g71) rfl rfl (by decide)]
 simp [g71]
theorem c72 {n:Int}:(aQ AP).p 72 [vI n]=some [(Ty.mk 2 [] n 0 []).pv]:=by
 rw [aw (af:=g72) rfl rfl (by decide)]
 simp [g72]
theorem c62 {s:List UInt8} {l:List Ty} (h:Sm l):(aQ AP).p 62 [.str s,.aJ (l.map Ty.pv)]=some [(Ty.mk 4 s 0 0 l).pv]:=by
 unfold Sm at h
 rw [aw (af:=g62) rfl rfl (by decide)]
 cases l with
 | nil=>simp [g62]
 | cons a r=>
   have:(r.length+1)*64≤140737488355328:=by simp at h;omega
   simp [g62,this]
theorem c34:(aQ AP).p 34 []=some [(Ty.mk 4 [73,110,116] 0 0 []).pv]:=by
 rw [aw (af:=g34) rfl rfl (by decide)]
 have h:=c62 (s:=[73,110,116]) (l:=[]) (by simp [Sm])
 simp at h
 simp [g34,h]
theorem c69 {a b:Ty}:(aQ AP).p 69 [a.pv,b.pv]=some [(Ty.mk 4 [45,62] 0 0 [a,b]).pv]:=by
 rw [aw (af:=g69) rfl rfl (by decide)]
 have h:=c62 (s:=[45,62]) (l:=[a,b]) (by simp [Sm])
 simp at h
 simp [g69,h]
theorem c15 {l:List Int}:(aQ AP).p 15 [.aJ (l.map vI)]=some [.bool (decide (l.length≤60))]:=by
 rw [aw (af:=g15) rfl rfl (by decide)]
 simp [g15]
 omega
end Go.Ab.Lw
namespace Go.Ab.Lw
open Ev
def ct (n:Int):Ty:=⟨1,[],n,0,[]⟩
def kq (h n:Int):Ty:=⟨3,[],n,h,[]⟩
def cQ (n:Int):Ty:=⟨2,[],n,0,[]⟩
def bA:Ty:=⟨4,[73,110,116],0,0,[]⟩
end Go.Ab.Lw
namespace Go.Ab.Lw
def NZ:List UInt8:=[100,97,116,97,32,66,111,111,108,32,61,32,84,114,117,101,32,124,32,70,97,108,115,101,59,32,100,97,116,97,32,79,112,116,105,111,110,32,97,32,61,32,78,111,110,101,32,124,32,83,111,109,101,32,97,59,32,100,97,116,97,32,76,105,115,116,32,97,32,61,32,78,105,108,32,124,32,67,111,110,115,32,97,32,40,76,105,115,116,32,97,41,59,100,97,116,97,32,80,97,105,114,32,97,32,98,32,61,32,80,97,105,114,32,97,32,98,59,32,100,97,116,97,32,78,97,116,32,61,32,90,101,114,111,32,124,32,83,117,99,99,32,78,97,116,59,32,100,97,116,97,32,70,117,110,32,97,32,98,32,61,32,70,117,110,32,40,97,32,45,62,32,98,41,59,32,100,97,116,97,32,84,119,111,32,97,32,61,32,66,111,116,104,32,97,32,97,32,124,32,79,110,101,32,40,79,112,116,105,111,110,32,97,41,59]
def KP:List PV:=[.aJ [.agg [.int .i64 4,.str [100,97,116,97],.int .i64 0],.agg [.int .i64 2,.str [66,111,111,108],.int .i64 5],.agg [.int .i64 5,.str [61],.int .i64 10],.agg [.int .i64 2,.str [84,114,117,101],.int .i64 12],.agg [.int .i64 5,.str [124],.int .i64 17],.agg [.int .i64 2,.str [70,97,108,115,101],.int .i64 19],.agg [.int .i64 5,.str [59],.int .i64 24],.agg [.int .i64 4,.str [100,97,116,97],.int .i64 26],.agg [.int .i64 2,.str [79,112,116,105,111,110],.int .i64 31],.agg [.int .i64 1,.str [97],.int .i64 38],.agg [.int .i64 5,.str [61],.int .i64 40],.agg [.int .i64 2,.str [78,111,110,101],.int .i64 42],.agg [.int .i64 5,.str [124],.int .i64 47],.agg [.int .i64 2,.str [83,111,109,101],.int .i64 49],.agg [.int .i64 1,.str [97],.int .i64 54],.agg [.int .i64 5,.str [59],.int .i64 55],.agg [.int .i64 4,.str [100,97,116,97],.int .i64 57],.agg [.int .i64 2,.str [76,105,115,116],.int .i64 62],.agg [.int .i64 1,.str [97],.int .i64 67],.agg [.int .i64 5,.str [61],.int .i64 69],.agg [.int .i64 2,.str [78,105,108],.int .i64 71],.agg [.int .i64 5,.str [124],.int .i64 75],.agg [.int .i64 2,.str [67,111,110,115],.int .i64 77],.agg [.int .i64 1,.str [97],.int .i64 82],.agg [.int .i64 5,.str [40],.int .i64 84],.agg [.int .i64 2,.str [76,105,115,116],.int .i64 85],.agg [.int .i64 1,.str [97],.int .i64 90],.agg [.int .i64 5,.str [41],.int .i64 91],.agg [.int .i64 5,.str [59],.int .i64 92],.agg [.int .i64 4,.str [100,97,116,97],.int .i64 93],.agg [.int .i64 2,.str [80,97,105,114],.int .i64 98],.agg [.int .i64 1,.str [97],.int .i64 103],.agg [.int .i64 1,.str [98],.int .i64 105],.agg [.int .i64 5,.str [61],.int .i64 107],.agg [.int .i64 2,.str [80,97,105,114],.int .i64 109],.agg [.int .i64 1,.str [97],.int .i64 114],.agg [.int .i64 1,.str [98],.int .i64 116],.agg [.int .i64 5,.str [59],.int .i64 117],.agg [.int .i64 4,.str [100,97,116,97],.int .i64 119],.agg [.int .i64 2,.str [78,97,116],.int .i64 124],.agg [.int .i64 5,.str [61],.int .i64 128],.agg [.int .i64 2,.str [90,101,114,111],.int .i64 130],.agg [.int .i64 5,.str [124],.int .i64 135],.agg [.int .i64 2,.str [83,117,99,99],.int .i64 137],.agg [.int .i64 2,.str [78,97,116],.int .i64 142],.agg [.int .i64 5,.str [59],.int .i64 145],.agg [.int .i64 4,.str [100,97,116,97],.int .i64 147],.agg [.int .i64 2,.str [70,117,110],.int .i64 152],.agg [.int .i64 1,.str [97],.int .i64 156],.agg [.int .i64 1,.str [98],.int .i64 158],.agg [.int .i64 5,.str [61],.int .i64 160],.agg [.int .i64 2,.str [70,117,110],.int .i64 162],.agg [.int .i64 5,.str [40],.int .i64 166],.agg [.int .i64 1,.str [97],.int .i64 167],.agg [.int .i64 5,.str [45,62],.int .i64 169],.agg [.int .i64 1,.str [98],.int .i64 172],.agg [.int .i64 5,.str [41],.int .i64 173],.agg [.int .i64 5,.str [59],.int .i64 174],.agg [.int .i64 4,.str [100,97,116,97],.int .i64 176],.agg [.int .i64 2,.str [84,119,111],.int .i64 181],.agg [.int .i64 1,.str [97],.int .i64 185],.agg [.int .i64 5,.str [61],.int .i64 187],.agg [.int .i64 2,.str [66,111,116,104],.int .i64 189],.agg [.int .i64 1,.str [97],.int .i64 194],.agg [.int .i64 1,.str [97],.int .i64 196],.agg [.int .i64 5,.str [124],.int .i64 198],.agg [.int .i64 2,.str [79,110,101],.int .i64 200],.agg [.int .i64 5,.str [40],.int .i64 204],.agg [.int .i64 2,.str [79,112,116,105,111,110],.int .i64 205],.agg [.int .i64 1,.str [97],.int .i64 212],.agg [.int .i64 5,.str [41],.int .i64 213],.agg [.int .i64 5,.str [59],.int .i64 214]],.agg [.int .i64 0,.int .i64 0]]
def cH:List Dt:=[⟨0,[66,111,111,108],[],[⟨12,[84,114,117,101],[]⟩,⟨19,[70,97,108,115,101],[]⟩]⟩,
 ⟨26,[79,112,116,105,111,110],[[97]],[⟨42,[78,111,110,101],[]⟩,⟨49,[83,111,109,101],[⟨5,[97],0,0,[]⟩]⟩]⟩,
 ⟨57,[76,105,115,116],[[97]],[⟨71,[78,105,108],[]⟩,⟨77,[67,111,110,115],[⟨5,[97],0,0,[]⟩,⟨4,[76,105,115,116],0,0,[⟨5,[97],0,0,[]⟩]⟩]⟩]⟩,
 ⟨93,[80,97,105,114],[[97],[98]],[⟨109,[80,97,105,114],[⟨5,[97],0,0,[]⟩,⟨5,[98],0,0,[]⟩]⟩]⟩,
 ⟨119,[78,97,116],[],[⟨130,[90,101,114,111],[]⟩,⟨137,[83,117,99,99],[⟨4,[78,97,116],0,0,[]⟩]⟩]⟩,
 ⟨147,[70,117,110],[[97],[98]],[⟨162,[70,117,110],[⟨4,[45,62],0,0,[⟨5,[97],0,0,[]⟩,⟨5,[98],0,0,[]⟩]⟩]⟩]⟩,
 ⟨176,[84,119,111],[[97]],[⟨189,[66,111,116,104],[⟨5,[97],0,0,[]⟩,⟨5,[97],0,0,[]⟩]⟩,⟨200,[79,110,101],[⟨4,[79,112,116,105,111,110],0,0,[⟨5,[97],0,0,[]⟩]⟩]⟩]⟩]
theorem N0:(aQ AP).p 118 [.str NZ]=some KP:=Fc.L_ (k:=400) (n:=20) (by kernel_rfl)
def P7 (g:Nat) (x:List PV):Option (List PV):=match g,x with
 | 118,[.str s]=>if s=NZ then some KP else none
 | _,_=>none
theorem Md:∀g x r,P7 g x=some r→(aQ AP).p g x=some r:=by
 intro g x r h
 unfold P7 at h
 split at h
 · split at h
   · rename_i e;subst e;cases h;exact N0
   · cases h
 · cases h
theorem c79:(aQ AP).p 79 []=some [.aJ (cH.map Dt.pv)]:=Fc.KM (k:=400) (n:=40) Md (by kernel_rfl)
end Go.Ab.Lw
namespace Go.Ab.Lw
open Ev
@[simp] theorem MX {l:List Dt}:bC 4 (l.map Dt.pv)=true:=by cases l<;>simp
@[simp] theorem MY {l:List Ty}:bC 5 (l.map Ty.pv)=true:=by cases l<;>simp
@[simp] theorem MZ {l:List As}:bC 6 (l.map As.pv)=true:=by cases l<;>simp
theorem HI {n:Int} (h1:0≤n) (h2:n<18446744073709551616):IntKind.u64.wrap n=n:=by
 simp [IntKind.wrap,IntKind.bits,IntKind.signed]
 omega
def N1 (bits:Int) (ds:List Dt):Option (bG×St):=
 some (.exit 0,⟨[(0,.pv (vI bits)),(3,.pv (.aJ (cH.map Dt.pv))),(4,.own (ds.map Dt.pv) 0),(5,.pv (vI 7)),(24,.pv (.bool false))],[],[],[ds.length]⟩)
theorem Pp (bits:Int):∀(n i:Nat),7-i=n→i≤7→∀acc:List Dt,(∀d∈acc,d∈cH)→acc.length≤1+i →
   ∃ds:List Dt,cl AP g32L0 ⟨[(0,.pv (vI bits)),(3,.pv (.aJ (cH.map Dt.pv))),(4,.own (acc.map Dt.pv) 0),(5,.pv (vI i))],[],[],[acc.length]⟩=N1 bits ds ∧
     (∀d∈ds,d∈cH)∧ds.length≤8
 | 0,i,hn,hi,acc,ha,hl=>by
   have:i=7:=by omega
   subst this
   refine ⟨acc,?_,ha,by omega⟩
   rw [g32L0e]
   have h7:cH.length=7:=rfl
   simp [g32B0,h7,N1]
 | n+1,i,hn,hi,acc,ha,hl=>by
   have h7:cH.length=7:=rfl
   have hi:i<7:=by omega
   obtain ⟨x,hx⟩:=bO (l:=cH) (i:=i) (by omega)
   have hb:(acc.length+1)*72≤140737488355328:=by omega
   obtain ⟨d1,e1,m1,l1⟩:=Pp bits n (i+1) (by omega) (by omega) (acc++[x]) (by
     intro d hd;simp at hd;rcases hd with hd | rfl
     · exact ha d hd
     · exact bz hx) (by simp;omega)
   obtain ⟨d2,e2,m2,l2⟩:=Pp bits n (i+1) (by omega) (by omega) acc ha (by omega)
   simp at e1 e2
   have hi':(i:Int)<7:=by omega
   have key:∀S,S=cl AP g32L0 ⟨[(0,.pv (vI bits)),(3,.pv (.aJ (cH.map Dt.pv))),(4,.own (acc.map Dt.pv) 0),(5,.pv (vI i))],[],[],[acc.length]⟩→S=N1 bits d1∨S=N1 bits d2:=by
     intro S hS
     rw [g32L0e] at hS
     simp (disch:=omega) [-getElem?_pos,g32B0,h7,hi',hx,aA,HI,hb,e1,e2] at hS
     subst hS
     (repeat' split)<;>simp
   rcases key _ rfl with h | h
   · exact ⟨d1,h,m1,l1⟩
   · exact ⟨d2,h,m2,l2⟩
theorem c32 (bits:Int):∃ds:List Dt,(aQ AP).p 32 [vI bits]=some [.aJ (ds.map Dt.pv)]∧(∀d∈ds,d∈cH)∧ds.length≤8:=by
 have hp:=c79
 have h7:cH.length=7:=rfl
 obtain ⟨x,hx⟩:=bO (l:=cH) (i:=1) (by decide)
 obtain ⟨d1,e1,m1,l1⟩:=Pp bits 7 0 rfl (by omega) [x] (by intro d hd;simp at hd;subst hd;exact bz hx) (by simp)
 obtain ⟨d2,e2,m2,l2⟩:=Pp bits 7 0 rfl (by omega) [] (by simp) (by simp)
 rw [g32L0e] at e1 e2
 simp at e1 e2
 have key:∀S,S=(aQ AP).p 32 [vI bits]→S=some [.aJ (d1.map Dt.pv)]∨S=some [.aJ (d2.map Dt.pv)]:=by
   intro S hS
   rw [aw (af:=g32) rfl rfl (by decide)] at hS
   simp [-getElem?_pos,g32,hp,g32L0e,hx,e1,e2,N1] at hS
   subst hS
   (repeat' split)<;>simp
 rcases key _ rfl with h | h
 · exact ⟨d1,h,m1,l1⟩
 · exact ⟨d2,h,m2,l2⟩
end Go.Ab.Lw
namespace Go.Ab.Lw
open Ev
inductive Made (lv:Ty→Prop):Ty→Prop
 | leaf {t:Ty}:lv t→Made lv t
 | int:Made lv bA
 | iR {d:Dt} {args:List Ty}:d∈cH→args.length=d.params.length→(∀x∈args,Made lv x)→Made lv ⟨4,d.name,0,0,args⟩
 | arrow {a b:Ty}:Made lv a→Made lv b→Made lv ⟨4,[45,62],0,0,[a,b]⟩
def Ty.av (t:Ty):AV:=.agg [.pv (vI t.kind),.pv (.str t.name),.pv (vI t.id),.pv (vI t.home),.pv (.aJ (t.args.map Ty.pv))]
@[simp] theorem Ty.P8 (t:Ty):t.av=.agg [.pv (vI t.kind),.pv (.str t.name),.pv (vI t.id),.pv (vI t.home),.pv (.aJ (t.args.map Ty.pv))]:=rfl
def tt (L:List Int) (ds:List Dt) (lv:List Ty) (dep:Nat):Prop:=∀i:Nat,i≤L.length→∃(t:Ty) (j:Nat),
 (aQ AP).i 27 [.bu 0 0,.pv (.aJ (ds.map Dt.pv)),.pv (.aJ (lv.map Ty.pv)),.pv (vI dep)] (tp L i) []=some ([t.av],tp L j,[])∧Made (·∈lv) t∧j≤L.length
theorem mT {r:Int} {n:Nat} (h0:0≤r) (h1:r<n):∃m:Nat,r=m∧m<n:=⟨r.toNat,by omega,by omega⟩
end Go.Ab.Lw
namespace Go.Ab.Lw
open Ev
inductive Ty.Ok:Ty→Prop
 | mk {t:Ty}:Sm t.args→(∀x∈t.args,Ty.Ok x)→Ty.Ok t
theorem Ty.Ok.sm {t:Ty} (h:t.Ok):Sm t.args:=by cases h;assumption
theorem Ty.Ok.gV {t:Ty} (h:t.Ok):∀x∈t.args,x.Ok:=by cases h;assumption
inductive Ty.Wf:Ty→Prop
 | mk {t:Ty}:(t.kind=1→t.args=[])→(∀x∈t.args,Ty.Wf x)→Ty.Wf t
theorem Ty.Wf.var {t:Ty} (h:t.Wf):t.kind=1→t.args=[]:=by cases h;assumption
theorem Ty.Wf.gV {t:Ty} (h:t.Wf):∀x∈t.args,x.Wf:=by cases h;assumption
def kr:List As→Int→Option Ty
 | [],_=>none
 | a::r,id=>if a.id=id then some a.ty else kr r id
mutual
def Ty.sub (s:List As):Ty→Ty
 | ⟨k,n,i,h,as⟩=>if k=1 then (kr s i).getD ⟨k,n,i,h,as⟩ else ⟨k,n,i,h,Ty.HJ s as⟩
def Ty.HJ (s:List As):List Ty→List Ty
 | []=>[]
 | a::r=>a.sub s::Ty.HJ s r
end
theorem Ty.yu (s:List As):∀l:List Ty,Ty.HJ s l=l.map (Ty.sub s)
 | []=>by simp [Ty.HJ]
 | a::r=>by simp [Ty.HJ,Ty.yu s r]
theorem Ty.sub_eq (s:List As) (t:Ty):t.sub s=if t.kind=1 then (kr s t.id).getD t else ⟨t.kind,t.name,t.id,t.home,t.args.map (Ty.sub s)⟩:=by
 cases t;simp only [Ty.sub,Ty.yu]
def HK (s:List As) (t:Ty):Option Ty→Option (bG×St)
 | some a=>some (.ret,⟨[(4,.aG 4 0)],[(4,[.pv (vI a.kind),.pv (.str a.name),.pv (vI a.id),.pv (vI a.home),.pv (.aJ (a.args.map Ty.pv))])],[],[0]⟩)
 | none=>some (.exit 0,⟨[(1,.pv (.aJ (s.map As.pv))),(2,.aG 2 0),(4,.aG 4 0),(5,.pv (vI s.length)),(14,.pv (.bool false))],
     [(2,[.pv (vI t.kind),.pv (.str t.name),.pv (vI t.id),.pv (vI t.home),.pv (.aJ (t.args.map Ty.pv))]),(4,[.pv (vI 0),.pv (.str []),.pv (vI 0),.pv (vI 0),.own [] 0])],[],[0]⟩)
theorem N2 {s:List As} (hS:Sm s) (t:Ty):∀(n i:Nat),s.length-i=n→i≤s.length →
   cl AP g46L0 ⟨[(1,.pv (.aJ (s.map As.pv))),(2,.aG 2 0),(4,.aG 4 0),(5,.pv (vI i))],
     [(2,[.pv (vI t.kind),.pv (.str t.name),.pv (vI t.id),.pv (vI t.home),.pv (.aJ (t.args.map Ty.pv))]),(4,[.pv (vI 0),.pv (.str []),.pv (vI 0),.pv (vI 0),.own [] 0])],[],[0]⟩=HK s t (kr (s.drop i) t.id)
 | 0,i,hn,hi=>by
   have:i=s.length:=by omega
   subst this
   rw [g46L0e]
   simp [g46B0,kr,HK]
 | n+1,i,hn,hi=>by
   have hi:i<s.length:=by omega
   obtain ⟨x,hx⟩:=bO hi
   unfold Sm at hS
   have ih:=N2 hS t n (i+1) (by omega) (by omega)
   simp at ih
   rw [g46L0e,cY hx]
   by_cases e:x.id=t.id
   · simp (disch:=omega) [-getElem?_pos,g46B0,hx,hi,e,kr,HK]
   · simp (disch:=omega) [-getElem?_pos,g46B0,hx,hi,e,kr,aA,ih]
theorem N3 {s:List As} {t:Ty} (hS:Sm t.args) (h:∀x∈t.args,(aQ AP).p 46 [x.pv,.aJ (s.map As.pv)]=some [(x.sub s).pv]):∀(n i:Nat),t.args.length-i=n→i≤t.args.length→∀acc:List Ty,acc=(t.args.take i).map (Ty.sub s) →
   cl AP g46L1 ⟨[(1,.pv (.aJ (s.map As.pv))),(2,.aG 2 0),(4,.aG 4 0),(6,.aG 6 0),(7,.pv (vI i))],
     [(2,[.pv (vI t.kind),.pv (.str t.name),.pv (vI t.id),.pv (vI t.home),.pv (.aJ (t.args.map Ty.pv))]),(4,[.pv (vI 0),.pv (.str []),.pv (vI 0),.pv (vI 0),.own [] 0]),
       (6,[.pv (vI t.kind),.pv (.str t.name),.pv (vI t.id),.pv (vI t.home),.own (acc.map Ty.pv) 1])],[],[0,acc.length]⟩ =
     some (.exit 2,⟨[(1,.pv (.aJ (s.map As.pv))),(2,.aG 2 0),(4,.aG 4 0),(6,.aG 6 0),(7,.pv (vI t.args.length)),(37,.pv (.bool false))],
     [(2,[.pv (vI t.kind),.pv (.str t.name),.pv (vI t.id),.pv (vI t.home),.pv (.aJ (t.args.map Ty.pv))]),(4,[.pv (vI 0),.pv (.str []),.pv (vI 0),.pv (vI 0),.own [] 0]),
       (6,[.pv (vI t.kind),.pv (.str t.name),.pv (vI t.id),.pv (vI t.home),.own ((t.args.map (Ty.sub s)).map Ty.pv) 1])],[],[0,t.args.length]⟩)
 | 0,i,hn,hi,acc,ha=>by
   have:i=t.args.length:=by omega
   subst this
   subst ha
   rw [g46L1e]
   simp [g46B1]
 | n+1,i,hn,hi,acc,ha=>by
   have hi:i<t.args.length:=by omega
   obtain ⟨x,hx⟩:=bO hi
   unfold Sm at hS
   have hb:(acc.length+1)*64≤140737488355328:=by subst ha;simp;omega
   have hc:=h x (bz hx)
   have ih:=N3 hS h n (i+1) (by omega) (by omega) (acc++[x.sub s]) (by rw [List.take_add_one,hx,ha];simp)
   rw [g46L1e] at ih ⊢
   simp at ih hc
   simp (disch:=omega) [-getElem?_pos,g46B1,hx,hi,hc,hb,aA]
   rw [g46L1e]
   simp [ih]
theorem c46 {s:List As} (hS:Sm s) {t:Ty} (hO:t.Ok):(aQ AP).p 46 [t.pv,.aJ (s.map As.pv)]=some [(t.sub s).pv]:=by
 revert hO
 refine Ty.eP (p:=fun t=>t.Ok→(aQ AP).p 46 [t.pv,.aJ (s.map As.pv)]=some [(t.sub s).pv]) ?_ t
 intro t ih hO
 rw [aw (af:=g46) rfl rfl (by decide)]
 by_cases hk:t.kind=1
 · have h:=N2 hS t _ 0 rfl (by omega)
   rw [g46L0e] at h
   simp at h
   cases hf:kr s t.id with
   | none=>
     rw [hf] at h
     simp [HK,hk] at h
     simp [g46,hk,g46L0e,h,Ty.sub_eq,hf]
   | some a=>
     rw [hf] at h
     simp [HK,hk] at h
     simp [g46,hk,g46L0e,h,Ty.sub_eq,hf]
 · have h:=N3 (s:=s) hO.sm (fun x hx=>ih x hx (hO.gV x hx)) _ 0 rfl (by omega) [] (by simp)
   rw [g46L1e] at h
   simp at h
   simp [g46,hk,g46L1e,h,Ty.sub_eq]
end Go.Ab.Lw
namespace Go.Ab.Lw
open Ev
def bP (sh:Sh):Prop:=∀cs,some cs∈sh→∀v∈cs,∃p,v=AV.pv p
theorem rU {bh ts:aN}:∀{cs:List AV},(∀v∈cs,∃p,v=AV.pv p)→bQ bh ts cs=(cs,bh,ts)
 | [],_=>rfl
 | v::r,h=>by
   obtain ⟨p,rfl⟩:=h v (by simp)
   simp only [rq,xH,rU (cs:=r) (fun v hv=>h v (by simp [hv]))]
theorem bP.norm:∀{sh:Sh},bP sh→∀bh ts,cm bh ts sh=(sh,bh,ts)
 | [],_,_,_=>rfl
 | none::sh,h,bh,ts=>by
   simp only [ru,bP.norm (sh:=sh) (fun cs hc=>h cs (by simp [hc]))]
 | some cs::sh,h,bh,ts=>by
   simp only [rz,rU (h cs (by simp)),bP.norm (sh:=sh) (fun cs hc=>h cs (by simp [hc]))]
theorem oH {n:Nat}:∀{cs:List AV},(∀v∈cs,∃p,v=AV.pv p)→cs.map (dB n)=cs
 | [],_=>rfl
 | v::r,h=>by
   obtain ⟨p,rfl⟩:=h v (by simp)
   simp only [List.map_cons,tP,oH (cs:=r) (fun v hv=>h v (by simp [hv]))]
theorem bP.shift:∀{sh:Sh},bP sh→∀n,gW n sh=sh
 | [],_,_=>rfl
 | none::sh,h,n=>by
   simp only [pz,bP.shift (sh:=sh) (fun cs hc=>h cs (by simp [hc]))]
 | some cs::sh,h,n=>by
   simp only [pA,oH (h cs (by simp)),bP.shift (sh:=sh) (fun cs hc=>h cs (by simp [hc]))]
theorem bP.app {a b:Sh} (ha:bP a) (hb:bP b):bP (a++b):=by
 intro cs hc
 simp only [List.mem_append] at hc
 rcases hc with hc | hc
 · exact ha cs hc
 · exact hb cs hc
theorem bP.one {cs:List AV} (h:∀v∈cs,∃p,v=AV.pv p):bP [some cs]:=by
 intro cs' hc
 simp at hc
 subst hc
 exact h
def Ty.cl (t:Ty):List AV:=[.pv (vI t.kind),.pv (.str t.name),.pv (vI t.id),.pv (vI t.home),.pv (.aJ (t.args.map Ty.pv))]
def Pq:List AV:=[.pv (vI 0),.pv (.str []),.pv (vI 0),.pv (vI 0),.pv (.aJ [])]
def jC (d:List Ty) (m:Nat):List AV:=d.flatMap Ty.cl++(List.replicate m Pq).flatten
theorem HL {d:List Ty}:(d.flatMap Ty.cl).length=d.length*5:=by
 induction d with
 | nil=>rfl
 | cons a r ih=>simp [ih,Ty.cl,Nat.add_mul]
theorem JZ {m:Nat}:((List.replicate m Pq).flatten).length=m*5:=by
 simp [Pq]
theorem yv {d:List Ty} {m:Nat}:(jC d m).length=(d.length+m)*5:=by
 simp only [jC,List.length_append,HL,JZ,Nat.add_mul]
theorem vJ {d:List Ty} {m:Nat}:∀v∈jC d m,∃p,v=AV.pv p:=by
 intro v hv
 simp only [jC,List.mem_append,List.mem_flatMap,List.mem_flatten,List.mem_replicate] at hv
 rcases hv with ⟨t,_,hv⟩ | ⟨l,⟨_,rfl⟩,hv⟩
 · simp [Ty.cl] at hv
   rcases hv with rfl | rfl | rfl | rfl | rfl<;>exact ⟨_,rfl⟩
 · simp [Pq] at hv
   rcases hv with rfl | rfl | rfl | rfl | rfl<;>exact ⟨_,rfl⟩
theorem eu {l:List AV} (h:∀v∈l,∃p,v=.pv p):dC l=false:=by
 cases l with
 | nil=>rfl
 | cons c r=>obtain ⟨p,rfl⟩:=h c (by simp);rfl
@[simp] theorem M0 {d:List Ty} {m:Nat}:dC (jC d m)=false:=eu vJ
theorem HM {a b:List AV} {x y:List PV} (ha:fE a=some x) (hb:fE b=some y):fE (a++b)=some (x++y):=by
 induction a generalizing x with
 | nil=>simp at ha;subst ha;exact hb
 | cons v r ih=>
   simp only [ot] at ha
   simp only [List.cons_append,ot]
   cases h1:kV v with
   | none=>rw [h1] at ha;cases ha
   | some p=>
     cases h2:fE r with
     | none=>rw [h1,h2] at ha;cases ha
     | some q=>
       rw [h1,h2] at ha
       simp at ha
       subst ha
       rw [ih h2];rfl
theorem HN:∀{d:List Ty},((fE (jC d 0)).bind (fF 5 true d.length)).map PV.aJ=some (.aJ (d.map Ty.pv)):=by
 have key:∀d:List Ty,∃ps,fE (d.flatMap Ty.cl)=some ps∧(chunk 5 d.length ps).map PV.agg=d.map Ty.pv:=by
   intro d
   induction d with
   | nil=>exact ⟨[],rfl,rfl⟩
   | cons t r ih=>
     obtain ⟨ps,h1,h2⟩:=ih
     refine ⟨[vI t.kind,.str t.name,vI t.id,vI t.home,.aJ (t.args.map Ty.pv)]++ps,?_,?_⟩
     · rw [List.flatMap_cons]
       exact HM (by simp [Ty.cl]) h1
     · simp only [List.length_cons,chunk]
       simp [h2]
 intro d
 obtain ⟨ps,h1,h2⟩:=key d
 have:jC d 0=d.flatMap Ty.cl:=by simp [jC]
 rw [this,h1]
 simp only [Option.bind_some,fF,if_true,Option.map_some,h2]
end Go.Ab.Lw
namespace Go.Ab.Lw
open Ev
theorem c22 {s:List As} (hS:Sm s) {t:Ty} (hO:t.Ok):(aQ AP).p 22 [.aJ (s.map As.pv),t.pv]=some [(t.sub s).pv]:=by
 have h:=c46 hS hO
 simp at h
 rw [aw (af:=g22) rfl rfl (by decide)]
 simp [g22,h]
end Go.Ab.Lw
namespace Go.Ab.Lw
open Ev
noncomputable instance:DecidableEq As:=fun _ _=>Classical.propDecidable _
theorem P9 {as bs:List Ty} (hS:Sm as) (hl:as.length=bs.length) (h:∀x∈as,∀y,(aQ AP).p 20 [x.pv,y.pv]=some [.bool (decide (x=y))]):∀(n i:Nat),as.length-i=n→i≤as.length →
   cl AP g57L0 ⟨[(0,.pv (.aJ (as.map Ty.pv))),(1,.pv (.aJ (bs.map Ty.pv))),(5,.pv (.int .i64 i))],[],[],[]⟩ =
     if as.drop i=bs.drop i then some (.exit 0,⟨[(0,.pv (.aJ (as.map Ty.pv))),(1,.pv (.aJ (bs.map Ty.pv))),(5,.pv (.int .i64 as.length)),(14,.pv (.bool false))],[],[],[]⟩)
     else some (.ret,⟨[(4,.pv (.bool false))],[],[],[]⟩)
 | 0,i,hn,hi=>by
   have:i=as.length:=by omega
   subst this
   rw [g57L0e]
   simp [g57B0,hl]
 | n+1,i,hn,hi=>by
   have hi:i<as.length:=by omega
   obtain ⟨x,hx⟩:=bO hi
   obtain ⟨y,hy⟩:=bO (hl ▸ hi)
   have hc:=h x (bz hx) y
   simp at hc
   rw [g57L0e,cY hx,cY hy]
   unfold Sm at hS
   have ih:=P9 hS hl h n (i+1) (by omega) (by omega)
   simp at ih
   simp (disch:=omega) [-getElem?_pos,g57B0,hx,hy,hi,hc,aA,ih]
   by_cases e:x=y<;>simp [e]
theorem c57 {as bs:List Ty} (hS:Sm as) (h:∀x∈as,∀y,(aQ AP).p 20 [x.pv,y.pv]=some [.bool (decide (x=y))]) :
   (aQ AP).p 57 [.aJ (as.map Ty.pv),.aJ (bs.map Ty.pv)]=some [.bool (decide (as=bs))]:=by
 rw [aw (af:=g57) rfl rfl (by decide)]
 by_cases hl:as.length=bs.length
 · have hL:=P9 hS hl h _ 0 rfl (by omega)
   simp at hL
   simp [g57,hl,hL]
   by_cases e:as=bs<;>simp [e]
 · have:¬as=bs:=fun e=>hl (by rw [e])
   simp [g57,hl,this]
   omega
theorem c20 {a b:Ty} (hO:a.Ok):(aQ AP).p 20 [a.pv,b.pv]=some [.bool (decide (a=b))]:=by
 revert b hO
 refine Ty.eP (p:=fun a=>∀{b:Ty},a.Ok→(aQ AP).p 20 [a.pv,b.pv]=some [.bool (decide (a=b))]) ?_ a
 intro a ih b hO
 have h:=c57 (bs:=b.args) hO.sm (fun x hx y=>ih x hx (hO.gV x hx))
 rw [aw (af:=g20) rfl rfl (by decide)]
 simp [g20,h]
 cases a;cases b
 simp
 (repeat' split)<;>simp_all
end Go.Ab.Lw
namespace Go.Ab.Lw
open Ev
theorem l0:∀{s:List As} {id:Int} {t:Ty},kr s id=some t→∃a∈s,a.ty=t
 | a::r,id,t,h=>by
   simp only [kr] at h
   split at h
   · cases h;exact ⟨a,by simp,rfl⟩
   · obtain ⟨b,hb,e⟩:=l0 h;exact ⟨b,by simp [hb],e⟩
theorem BB {s:List As} (hs:∀a∈s,a.ty.Ok) {t:Ty} (h:t.Ok):(t.sub s).Ok:=by
 revert h
 refine Ty.eP (p:=fun t=>t.Ok→(t.sub s).Ok) ?_ t
 intro t ih h
 rw [Ty.sub_eq]
 split
 · cases hf:kr s t.id with
   | none=>simpa using h
   | some a=>obtain ⟨b,hb,rfl⟩:=l0 hf;simpa using hs b hb
 · refine ⟨by have:=h.sm;unfold Sm at *;simpa using this,?_⟩
   intro x hx
   simp at hx
   obtain ⟨y,hy,rfl⟩:=hx
   exact ih y hy (h.gV y hy)
theorem vK:∀{a b:List As} {id:Int},kr (a++b) id=(kr a id).or (kr b id)
 | [],b,id=>by simp [kr]
 | x::a,b,id=>by
   simp only [List.cons_append,kr]
   split
   · rfl
   · exact vK
end Go.Ab.Lw
namespace Go.Ab.Lw
open Ev
def gp {α:Type} (p:α→Bool):List α→Option Nat
 | []=>none
 | a::r=>if p a=true then some 0 else (gp p r).map (·+1)
theorem l3 {α:Type} {p:α→Bool}:∀{l:List α},gp p l=none↔∀x∈l,p x=false
 | []=>by simp [gp]
 | a::r=>by
   simp only [gp]
   by_cases h:p a=true
   · simp [h]
   · have h:p a=false:=by simpa using h
     simp [h,l3]
end Go.Ab.Lw
namespace Go.Ab.Lw
open Ev
structure El {α:Type} (f:α→PV) (sz:Nat) (ag:Bool):Prop where
 len:∀x,(br (f x)).length=sz
 of:∀x,de ag sz (br (f x))=some (.pv (f x))
theorem El.head {α:Type} {f:α→PV} {sz:Nat} {ag:Bool} (h:El f sz ag) (l:List α):bC sz (l.map f)=true:=by
 cases l with
 | nil=>rfl
 | cons x r=>simp [bC,h.len x]
theorem kt:El vI 1 false:=⟨fun _=>rfl,fun _=>rfl⟩
theorem Me:El PV.str 1 false:=⟨fun _=>rfl,fun _=>rfl⟩
theorem Cl:El Ty.pv 5 true:=⟨fun x=>by simp,fun x=>by simp⟩
def Qm {α:Type} (f:α→PV) (F:AV) (s:List α) (sh:Sh) (i:Nat):Option Nat→Option (bG×St)
 | some k=>some (.ret,⟨[(4,.pv (vI (i+k:Nat)))],[],sh,[]⟩)
 | none=>some (.exit 0,⟨[(0,.pv (.aJ (s.map f))),(1,F),(7,.pv (vI s.length)),(8,.pv (vI s.length)),(9,.pv (.bool false))],[],sh,[]⟩)
def Fl (o:Option Nat):Int:=match o with | some k=>k | none=>-1
theorem HO {α:Type} {p:α→Bool} {s:List α}:decide (0≤Fl (gp p s))=s.any p:=by
 cases hi:gp p s with
 | none=>
   have:s.any p=false:=by rw [List.any_eq_false];intro x hx;rw [l3.1 hi x hx];simp
   rw [this];rfl
 | some k=>
   have:s.any p=true:=by
     cases e:s.any p with
     | true=>rfl
     | false=>rw [List.any_eq_false] at e;have:=l3.2 (fun x hx=>by simpa using e x hx);rw [hi] at this;cases this
   rw [this];simp [Fl]
end Go.Ab.Lw
namespace Go.Ab.Lw
open Ev
inductive Ty.Nm:Ty→Prop
 | mk {t:Ty}:Ql t.name→(∀x∈t.args,Ty.Nm x)→Ty.Nm t
end Go.Ab.Lw
namespace Go.Ab.Lw
open Ev
abbrev Sc:=As
structure En where
 name:List UInt8
 sc:Sc
 deriving Inhabited
def En.pv (a:En):PV:=.agg [.str a.name,.int .i64 a.sc.id,.int .i64 a.sc.ty.kind,.str a.sc.ty.name,.int .i64 a.sc.ty.id,.int .i64 a.sc.ty.home,.aJ (a.sc.ty.args.map Ty.pv)]
@[simp] theorem En.lz (a:En):a.pv=.agg [.str a.name,.int .i64 a.sc.id,.int .i64 a.sc.ty.kind,.str a.sc.ty.name,.int .i64 a.sc.ty.id,.int .i64 a.sc.ty.home,.aJ (a.sc.ty.args.map Ty.pv)]:=rfl
@[simp] theorem En.eta (t:En):En.mk t.name t.sc=t:=rfl
theorem N4:El En.pv 7 true:=⟨fun x=>by simp,fun x=>by simp⟩
noncomputable instance:DecidableEq En:=fun _ _=>Classical.propDecidable _
@[simp] theorem M1 {l:List En}:bC 7 (l.map En.pv)=true:=N4.head l
def lA:Sc:=⟨0,⟨0,[],0,0,[]⟩⟩
def Cm:List En→List UInt8→Option Sc
 | [],_=>none
 | a::r,s=>match Cm r s with
   | some c=>some c
   | none=>if a.name=s then some a.sc else none
theorem HP (l:List En) (a:En) (s:List UInt8):Cm (l++[a]) s=if a.name=s then some a.sc else Cm l s:=by
 induction l with
 | nil=>simp [Cm]
 | cons b r ih=>
   simp only [List.cons_append,Cm,ih]
   by_cases h:a.name=s
   · simp [h]
   · simp [h]
def J0 (o:Option Sc):List PV:=[(o.getD lA).pv,.bool o.isSome]
theorem N5 {l:List En} (hS:Sm l) {s:List UInt8}:∀(k:Nat),k≤l.length →
   cl AP g181L0 ⟨[(0,.pv (.aJ (l.map En.pv))),(1,.pv (.str s)),(4,.aG 4 0),(6,.pv (vI ((k:Int)-1)))],[(4,[.pv (vI 0),.pv (vI 0),.pv (.str []),.pv (vI 0),.pv (vI 0),.own [] 0])],[],[0]⟩ =
     match Cm (l.take k) s with
     | some c=>some (.ret,⟨[(4,.aG 4 0),(5,.pv (.bool true))],[(4,[.pv (vI c.id),.pv (vI c.ty.kind),.pv (.str c.ty.name),.pv (vI c.ty.id),.pv (vI c.ty.home),.pv (.aJ (c.ty.args.map Ty.pv))])],[],[0]⟩)
     | none=>some (.exit 0,⟨[(0,.pv (.aJ (l.map En.pv))),(1,.pv (.str s)),(4,.aG 4 0),(6,.pv (vI (-1))),(11,.pv (.bool false))],[(4,[.pv (vI 0),.pv (vI 0),.pv (.str []),.pv (vI 0),.pv (vI 0),.own [] 0])],[],[0]⟩)
 | 0,_=>by
   rw [g181L0e]
   simp [g181B0,Cm]
 | k+1,hk=>by
   obtain ⟨x,hx⟩:=bO (l:=l) (i:=k) (by omega)
   have ih:=N5 hS (s:=s) k (by omega)
   unfold Sm at hS
   have e1:((k+1:Nat):Int)-1=k:=by omega
   rw [g181L0e,e1,List.take_add_one,hx]
   simp only [Option.toList_some,HP]
   by_cases e:x.name=s
   · simp (disch:=omega) [-getElem?_pos,g181B0,hx,e]
   · simp (disch:=omega) [-getElem?_pos,g181B0,hx,e,aA]
     simpa using ih
theorem c181 {l:List En} (hS:Sm l) {s:List UInt8}:(aQ AP).p 181 [.aJ (l.map En.pv),.str s]=some (J0 (Cm l s)):=by
 have h:=N5 hS (s:=s) l.length (Nat.le_refl _)
 unfold Sm at hS
 rw [aw (af:=g181) rfl rfl (by decide)]
 rw [List.take_length] at h
 rw [g181L0e] at h
 cases e:Cm l s with
 | none=>
   rw [e] at h
   simp at h
   simp (disch:=omega) [g181,aA,g181L0e,h,J0,lA]
 | some c=>
   rw [e] at h
   simp at h
   simp (disch:=omega) [g181,aA,g181L0e,h,J0]
end Go.Ab.Lw
namespace Go.Ab.Lw
section
variable {P:Program} {n:Nat} {t e:TypeId} {p:PV}
theorem vL (hu:P.underlying t=some (.int .i64)) (h:rK P n t p):∃i,p=vI i:=by
 cases n with
 | zero=>simp [rK] at h
 | succ n=>simp only [rK,hu] at h;obtain ⟨i,rfl,_⟩:=h;exact ⟨i,rfl⟩
theorem HQ (hu:P.underlying t=some (.int .i64)) (h:rK P n t p):∃i,i≤9223372036854775807∧p=vI i:=by
 cases n with
 | zero=>simp [rK] at h
 | succ n=>
   simp only [rK,hu] at h
   obtain ⟨i,rfl,hw⟩:=h
   refine ⟨i,?_,rfl⟩
   simp [Lit.wf,IntKind.min,IntKind.max,IntKind.signed,IntKind.bits] at hw
   omega
theorem HR {α:Type} {f:α→PV} (hu:P.underlying t=some (.slice e)) (he:∀(m:Nat) (q:PV),rK P m e q→∃x,q=f x) (h:rK P n t p):∃l:List α,p=.aJ (l.map f):=by
 cases n with
 | zero=>simp [rK] at h
 | succ n=>
   simp only [rK,hu] at h
   obtain ⟨els,rfl,_,h⟩:=h
   have key:∀els:List PV,(∀q∈els,rK P n e q)→∃l:List α,els=l.map f:=by
     intro els
     induction els with
     | nil=>intro _;exact ⟨[],rfl⟩
     | cons q r ih=>
       intro h
       obtain ⟨x,rfl⟩:=he n q (h q (by simp))
       obtain ⟨l,rfl⟩:=ih (fun q hq=>h q (by simp [hq]))
       exact ⟨x::l,rfl⟩
   obtain ⟨l,rfl⟩:=key els h
   exact ⟨l,rfl⟩
theorem HS (hu:P.underlying t=some (.slice e)) (he:P.underlying e=some (.int .i64)) (h:rK P n t p):∃L:List Int,p=.aJ (L.map vI):=
 HR hu (fun _ _ h=>vL he h) h
end
end Go.Ab.Lw
namespace Go.Ab.Lw
open Ev
def nK (s:List UInt8):Ty:=⟨5,s,0,0,[]⟩
theorem c106 {s:List UInt8}:(aQ AP).p 106 [.str s]=some [(nK s).pv]:=by
 rw [aw (af:=g106) rfl rfl (by decide)]
 simp [g106,nK]
def lB:List Ty:=[nK [97],nK [98],nK [99]]
theorem c67:(aQ AP).p 67 []=some [.aJ (lB.map Ty.pv)]:=by
 have h1:=c106 (s:=[97]);have h2:=c106 (s:=[98]);have h3:=c106 (s:=[99])
 simp at h1 h2 h3
 rw [aw (af:=g67) rfl rfl (by decide)]
 simp [g67,h1,h2,h3,lB]
end Go.Ab.Lw
namespace Go.Ab.Lw
open Ev
theorem P_ {s:List Int} (hS:Sm s) (y:Int):∀(n i:Nat),s.length-i=n→i≤s.length →
   cl AP g95L0 ⟨[(0,.pv (.aJ (s.map vI))),(1,.pv (vI y)),(5,.pv (vI i))],[],[],[]⟩ =
     if y∈s.drop i then some (.ret,⟨[(4,.pv (.bool true))],[],[],[]⟩) else some (.exit 0,⟨[(0,.pv (.aJ (s.map vI))),(1,.pv (vI y)),(5,.pv (vI s.length)),(9,.pv (.bool false))],[],[],[]⟩)
 | 0,i,hn,hi=>by
   have:i=s.length:=by omega
   subst this
   rw [g95L0e]
   simp [g95B0]
 | n+1,i,hn,hi=>by
   have hi:i<s.length:=by omega
   obtain ⟨x,hx⟩:=bO hi
   unfold Sm at hS
   have ih:=P_ hS y n (i+1) (by omega) (by omega)
   simp at ih
   rw [g95L0e,cY hx]
   by_cases e:x=y
   · simp (disch:=omega) [-getElem?_pos,g95B0,hx,hi,e]
   · have e':¬y=x:=fun h=>e h.symm
     simp (disch:=omega) [-getElem?_pos,g95B0,hx,hi,e,e',aA,ih]
theorem c95 {s:List Int} (hS:Sm s) {y:Int}:(aQ AP).p 95 [.aJ (s.map vI),vI y]=some [.bool (decide (y∈s))]:=by
 have h:=P_ hS y _ 0 rfl (by omega)
 simp at h
 rw [aw (af:=g95) rfl rfl (by decide)]
 by_cases e:y∈s<;>simp [g95,h,e]
mutual
def Ty.nodes:Ty→List Ty
 | ⟨k,n,i,h,as⟩=>⟨k,n,i,h,as⟩::Ty.rV as
def Ty.rV:List Ty→List Ty
 | []=>[]
 | a::r=>a.nodes++Ty.rV r
end
theorem Ty.t8:∀l:List Ty,Ty.rV l=l.flatMap Ty.nodes
 | []=>by simp [Ty.rV]
 | a::r=>by simp [Ty.rV,Ty.t8 r]
theorem Ty.bg (t:Ty):t.nodes=t::t.args.flatMap Ty.nodes:=by cases t;simp only [Ty.nodes,Ty.t8]
theorem gD {α:Type} [DecidableEq α]:∀{l S:List α},l.Nodup→(∀x∈l,x∈S)→l.length≤S.length
 | [],_,_,_=>by simp
 | x::r,S,hn,h=>by
   have hx:=h x (by simp)
   have hr:=gD (l:=r) (S:=S.erase x) (List.nodup_cons.1 hn).2 (fun y hy=>by
     rw [List.mem_erase_of_ne]
     · exact h y (by simp [hy])
     · rintro rfl;exact (List.nodup_cons.1 hn).1 hy)
   have:=List.length_erase_of_mem hx
   have:0<S.length:=List.length_pos_of_mem hx
   simp;omega
def eC (out:List Int) (x:Ty):List Int:=if x.kind=1∧x.id∉out then out++[x.id] else out
structure kN (S out:List Int):Prop where
 nodup:out.Nodup
 sub:∀x∈out,x∈S
 Fm:S.length<1099511627776
theorem kN.len {S out:List Int} (h:kN S out):Sm out:=by
 have:=gD h.nodup h.sub
 have:=h.Fm
 unfold Sm;omega
theorem kN.add {S out:List Int} (h:kN S out) {x:Ty} (hx:x.kind=1→x.id∈S):kN S (eC out x):=by
 unfold eC
 split
 · rename_i e
   refine ⟨?_,?_,h.Fm⟩
   · rw [List.nodup_append]
     refine ⟨h.nodup,by simp,?_⟩
     intro a ha b hb
     simp at hb;subst hb
     rintro rfl;exact e.2 ha
   · intro y hy
     simp at hy
     rcases hy with hy | rfl
     · exact h.sub y hy
     · exact hx e.1
 · exact h
theorem kN.fold {S:List Int}:∀{l:List Ty} {out:List Int},kN S out→(∀x∈l,x.kind=1→x.id∈S)→kN S (l.foldl eC out)
 | [],_,h,_=>h
 | x::r,out,h,hx=>by
   simp only [List.foldl_cons]
   exact kN.fold (h.add (hx x (by simp))) (fun y hy=>hx y (by simp [hy]))
def vars (l:List Ty):List Int:=(l.flatMap Ty.nodes).foldl eC []
theorem rW {S:List Int} (h:S.length<1099511627776):kN S []:=⟨by simp,by simp,h⟩
end Go.Ab.Lw
namespace Go.Ab.Lw
open Ev
mutual
def Ty.eY (k:Int):Ty→List Ty
 | ⟨kd,n,i,h,as⟩=>if kd=k∧as.length=0 then [⟨kd,n,i,h,as⟩] else Ty.HT k as
def Ty.HT (k:Int):List Ty→List Ty
 | []=>[]
 | a::r=>a.eY k++Ty.HT k r
end
theorem Ty.Cn (k:Int):∀l:List Ty,Ty.HT k l=l.flatMap (Ty.eY k)
 | []=>by simp [Ty.HT]
 | a::r=>by simp [Ty.HT,Ty.Cn k r]
theorem Ty.lC (k:Int) (t:Ty):t.eY k=if t.kind=k∧t.args.length=0 then [t] else t.args.flatMap (Ty.eY k):=by cases t;simp only [Ty.eY,Ty.Cn]
noncomputable def gP (out:List Ty) (x:Ty):List Ty:=if x∈out then out else out++[x]
structure gf (S out:List Ty):Prop where
 nodup:out.Nodup
 sub:∀x∈out,x∈S
 Fm:S.length<1099511627776
 ok:∀x∈S,x.Ok
theorem gf.len {S out:List Ty} (h:gf S out):Sm out:=by
 have:=gD h.nodup h.sub
 have:=h.Fm
 unfold Sm;omega
theorem gf.add {S out:List Ty} (h:gf S out) {x:Ty} (hx:x∈S):gf S (gP out x):=by
 unfold gP
 split
 · exact h
 · rename_i e
   refine ⟨?_,?_,h.Fm,h.ok⟩
   · rw [List.nodup_append]
     refine ⟨h.nodup,by simp,?_⟩
     intro a ha b hb
     simp at hb;subst hb
     rintro rfl;exact e ha
   · intro y hy
     simp at hy
     rcases hy with hy | rfl
     · exact h.sub y hy
     · exact hx
theorem gf.fold {S:List Ty}:∀{l:List Ty} {out:List Ty},gf S out→(∀x∈l,x∈S)→gf S (l.foldl gP out)
 | [],_,h,_=>h
 | x::r,out,h,hx=>by
   simp only [List.foldl_cons]
   exact gf.fold (h.add (hx x (by simp))) (fun y hy=>hx y (by simp [hy]))
theorem N6 {S out:List Ty} (h:gf S out) (t:Ty):∀(n i:Nat),out.length-i=n→i≤out.length →
   cl AP g99L0 ⟨[(0,.own (out.map Ty.pv) 0),(4,.aG 4 0),(7,.pv (vI i))],[(4,[.pv (vI t.kind),.pv (.str t.name),.pv (vI t.id),.pv (vI t.home),.pv (.aJ (t.args.map Ty.pv))])],[],[out.length]⟩ =
     if t∈out.drop i then some (.ret,⟨[(6,.own (out.map Ty.pv) 0)],[],[],[out.length]⟩)
     else some (.exit 0,⟨[(0,.own (out.map Ty.pv) 0),(4,.aG 4 0),(7,.pv (vI out.length)),(22,.pv (.bool false))],[(4,[.pv (vI t.kind),.pv (.str t.name),.pv (vI t.id),.pv (vI t.home),.pv (.aJ (t.args.map Ty.pv))])],[],[out.length]⟩)
 | 0,i,hn,hi=>by
   have:i=out.length:=by omega
   subst this
   rw [g99L0e]
   simp [g99B0]
 | n+1,i,hn,hi=>by
   have hi:i<out.length:=by omega
   obtain ⟨x,hx⟩:=bO hi
   have hS:=h.len
   unfold Sm at hS
   have k:=c20 (b:=t) (h.ok x (h.sub x (bz hx)))
   have ih:=N6 h t n (i+1) (by omega) (by omega)
   rw [g99L0e] at ih ⊢
   rw [cY hx]
   simp at ih k
   by_cases e:x=t
   · subst e
     rw [decide_eq_true rfl] at k
     simp (disch:=omega) [-getElem?_pos,g99B0,hx,hi,k]
   · have e':¬t=x:=fun h=>e h.symm
     rw [decide_eq_false e] at k
     simp (disch:=omega) [-getElem?_pos,g99B0,hx,hi,k,e',aA]
     rw [g99L0e]
     simp [ih]
theorem N7 {S:List Ty} {kd:Int} {t:Ty} (hS:Sm t.args) (h:∀x∈t.args,∀out,gf S out→(aQ AP).i 99 [.own (out.map Ty.pv) 0,.pv x.pv,.pv (vI kd)] [] [out.length]=some ([.own (((x.eY kd).foldl gP out).map Ty.pv) 0],[],[((x.eY kd).foldl gP out).length]))
   (hk:∀x∈t.args.flatMap (Ty.eY kd),x∈S):∀(n i:Nat),t.args.length-i=n→i≤t.args.length→∀out,gf S out →
   cl AP g99L1 ⟨[(0,.own (out.map Ty.pv) 0),(2,.pv (vI kd)),(4,.aG 4 0),(8,.pv (vI i))],[(4,[.pv (vI t.kind),.pv (.str t.name),.pv (vI t.id),.pv (vI t.home),.pv (.aJ (t.args.map Ty.pv))])],[],[out.length]⟩ =
     some (.exit 2,⟨[(0,.own ((((t.args.drop i).flatMap (Ty.eY kd)).foldl gP out).map Ty.pv) 0),(2,.pv (vI kd)),(4,.aG 4 0),(8,.pv (vI t.args.length)),(40,.pv (.bool false))],[(4,[.pv (vI t.kind),.pv (.str t.name),.pv (vI t.id),.pv (vI t.home),.pv (.aJ (t.args.map Ty.pv))])],[],[(((t.args.drop i).flatMap (Ty.eY kd)).foldl gP out).length]⟩)
 | 0,i,hn,hi,out,hc=>by
   have:i=t.args.length:=by omega
   subst this
   rw [g99L1e]
   simp [g99B1]
 | n+1,i,hn,hi,out,hc=>by
   have hi:i<t.args.length:=by omega
   obtain ⟨x,hx⟩:=bO hi
   unfold Sm at hS
   have hkx:∀y∈x.eY kd,y∈S:=fun y hy=>hk y (by simp only [List.mem_flatMap];exact ⟨x,bz hx,hy⟩)
   have k:=h x (bz hx) out hc
   have ih:=N7 hS h hk n (i+1) (by omega) (by omega) _ (hc.fold hkx)
   rw [g99L1e] at ih ⊢
   rw [cY hx]
   simp at k ih
   simp (disch:=omega) [-getElem?_pos,g99B1,hx,hi,k,aA]
   rw [g99L1e]
   simp [ih]
theorem c99 {S:List Ty} {kd:Int} {t:Ty} (hO:t.Ok) (hk:∀x∈t.eY kd,x∈S):∀out,gf S out →
   (aQ AP).i 99 [.own (out.map Ty.pv) 0,.pv t.pv,.pv (vI kd)] [] [out.length]=some ([.own (((t.eY kd).foldl gP out).map Ty.pv) 0],[],[((t.eY kd).foldl gP out).length]):=by
 revert hO hk
 refine Ty.eP (p:=fun t=>t.Ok→(∀x∈t.eY kd,x∈S)→∀out,gf S out →
   (aQ AP).i 99 [.own (out.map Ty.pv) 0,.pv t.pv,.pv (vI kd)] [] [out.length]=some ([.own (((t.eY kd).foldl gP out).map Ty.pv) 0],[],[((t.eY kd).foldl gP out).length])) ?_ t
 intro t ih hO hk out hc
 rw [Ty.lC] at hk ⊢
 have hl:=hc.len
 unfold Sm at hl
 have hb:(out.length+1)*64≤140737488355328:=by omega
 rw [aT (af:=g99) rfl (by simp [g99])]
 by_cases e:t.kind=kd∧t.args.length=0
 · rw [if_pos e] at hk ⊢
   obtain ⟨e1,e2⟩:=e
   subst e1
   have e3:t.args=[]:=by simpa using e2
   have h:=N6 hc t _ 0 rfl (by omega)
   rw [g99L0e] at h
   simp [e3] at h
   by_cases em:t∈out
   · simp [em] at h
     have ea:gP out t=out:=by simp [gP,em]
     simp [g99,e3,g99L0e,h,ea]
   · simp [em] at h
     have ea:gP out t=out++[t]:=by simp [gP,em]
     simp [g99,e3,g99L0e,h,ea,hb]
 · rw [if_neg e] at hk ⊢
   have h:=N7 (S:=S) (kd:=kd) hO.sm (fun x hx out hc=>ih x hx (hO.gV x hx) (fun y hy=>hk y (by simp only [List.mem_flatMap];exact ⟨x,hx,hy⟩)) out hc) hk _ 0 rfl (by omega) out hc
   rw [g99L1e] at h
   simp at h
   by_cases e1:t.kind=kd
   · have e2:¬t.args.length=0:=fun h=>e ⟨e1,h⟩
     have e3:¬t.args=[]:=by simpa using e2
     subst e1
     simp [g99,e2,e3,g99L1e,h]
   · simp [g99,e1,g99L1e,h]
def oI (out:List Int) (x:Ty):List Int:=if x.id∈out then out else out++[x.id]
noncomputable def l4 (l:List Ty):List Int:=((l.flatMap (Ty.eY 1)).foldl gP []).foldl oI []
theorem N8 {S:List Ty} {l:List Ty} (hS:Sm l) (hO:∀t∈l,t.Ok) (hk:∀x∈l.flatMap (Ty.eY 1),x∈S):∀(n i:Nat),l.length-i=n→i≤l.length→∀out,gf S out →
   cl AP g56L0 ⟨[(0,.pv (.aJ (l.map Ty.pv))),(3,.own (out.map Ty.pv) 0),(4,.pv (vI i))],[],[],[out.length]⟩ =
     some (.exit 0,⟨[(0,.pv (.aJ (l.map Ty.pv))),(3,.own ((((l.drop i).flatMap (Ty.eY 1)).foldl gP out).map Ty.pv) 0),(4,.pv (vI l.length)),(10,.pv (.bool false))],[],[],[(((l.drop i).flatMap (Ty.eY 1)).foldl gP out).length]⟩)
 | 0,i,hn,hi,out,hc=>by
   have:i=l.length:=by omega
   subst this
   rw [g56L0e]
   simp [g56B0]
 | n+1,i,hn,hi,out,hc=>by
   have hi:i<l.length:=by omega
   obtain ⟨x,hx⟩:=bO hi
   unfold Sm at hS
   have hkx:∀y∈x.eY 1,y∈S:=fun y hy=>hk y (by simp only [List.mem_flatMap];exact ⟨x,bz hx,hy⟩)
   have k:=c99 (kd:=1) (hO x (bz hx)) hkx out hc
   have ih:=N8 hS hO hk n (i+1) (by omega) (by omega) _ (hc.fold hkx)
   rw [g56L0e] at ih ⊢
   rw [cY hx]
   simp at k ih
   simp (disch:=omega) [-getElem?_pos,g56B0,hx,hi,k,aA]
   rw [g56L0e]
   simp [ih]
theorem HU {l:List Ty} {out:List Int}:(l.foldl oI out).length≤out.length+l.length:=by
 induction l generalizing out with
 | nil=>simp
 | cons x r ih=>
   simp only [List.foldl_cons,List.length_cons]
   have:=ih (out:=oI out x)
   have h2:(oI out x).length≤out.length+1:=by unfold oI;split<;>simp
   omega
theorem Mf {S l:List Ty} (hc:gf S l):∀(n i:Nat),l.length-i=n→i≤l.length→∀out:List Int,out.length≤i →
   cl AP g56L1 ⟨[(3,.own (l.map Ty.pv) 0),(5,.own (out.map vI) 1),(6,.pv (vI i))],[],[],[l.length,out.length]⟩ =
     some (.exit 2,⟨[(3,.own (l.map Ty.pv) 0),(5,.own (((l.drop i).foldl oI out).map vI) 1),(6,.pv (vI l.length)),(22,.pv (.bool false))],[],[],[l.length,((l.drop i).foldl oI out).length]⟩)
 | 0,i,hn,hi,out,ho=>by
   have:i=l.length:=by omega
   subst this
   rw [g56L1e]
   simp [g56B1]
 | n+1,i,hn,hi,out,ho=>by
   have hi:i<l.length:=by omega
   obtain ⟨x,hx⟩:=bO hi
   have hS:=hc.len
   unfold Sm at hS
   have k:=c95 (s:=out) (by unfold Sm;omega) (y:=x.id)
   have hb:(out.length+1)*8≤140737488355328:=by omega
   have hh:bC 1 (out.map vI)=true:=kt.head out
   rw [cY hx]
   by_cases e:x.id∈out
   · have ih:=Mf hc n (i+1) (by omega) (by omega) out (by omega)
     have ea:oI out x=out:=by simp [oI,e]
     rw [g56L1e] at ih ⊢
     rw [decide_eq_true e] at k
     simp at ih
     simp (disch:=omega) [-getElem?_pos,g56B1,hx,hi,k,aA]
     rw [g56L1e]
     simp [ih,ea]
   · have ih:=Mf hc n (i+1) (by omega) (by omega) (out++[x.id]) (by simp;omega)
     have ea:oI out x=out++[x.id]:=by simp [oI,e]
     rw [g56L1e] at ih ⊢
     rw [decide_eq_false e] at k
     simp at ih
     simp (disch:=omega) [-getElem?_pos,g56B1,hx,hi,k,aA,hb,hh]
     rw [g56L1e]
     simp [ih,ea]
theorem c56 {S:List Ty} (hf:S.length<1099511627776) (hSo:∀x∈S,x.Ok) {l:List Ty} (hS:Sm l) (hO:∀t∈l,t.Ok) (hk:∀x∈l.flatMap (Ty.eY 1),x∈S):(aQ AP).p 56 [.aJ (l.map Ty.pv)]=some [.aJ ((l4 l).map vI)]:=by
 have c0:gf S []:=⟨by simp,by simp,hf,hSo⟩
 have h1:=N8 hS hO hk _ 0 rfl (by omega) [] c0
 have h2:=Mf (c0.fold (l:=l.flatMap (Ty.eY 1)) hk) _ 0 rfl (by omega) [] (by simp)
 rw [aw (af:=g56) rfl rfl (by decide)]
 rw [g56L0e] at h1
 rw [g56L1e] at h2
 simp at h1 h2
 simp [g56,g56L0e,h1,g56L1e,h2,l4]
theorem Fo {t:Ty} (hW:t.Wf):∀out,t.nodes.foldl eC out=(t.eY 1).foldl eC out:=by
 revert hW
 refine Ty.eP (p:=fun t=>t.Wf→∀out,t.nodes.foldl eC out=(t.eY 1).foldl eC out) ?_ t
 intro t ih hW out
 have flat:∀(as:List Ty),(∀x∈as,x∈t.args)→∀out,(as.flatMap Ty.nodes).foldl eC out=(as.flatMap (Ty.eY 1)).foldl eC out:=by
   intro as
   induction as with
   | nil=>intro _ _;rfl
   | cons a r ihr=>
     intro h out
     simp only [List.flatMap_cons,List.foldl_append]
     rw [ih a (h a (by simp)) (hW.gV a (h a (by simp))),ihr (fun x hx=>h x (by simp [hx]))]
 rw [Ty.bg,Ty.lC]
 by_cases e:t.kind=1
 · have ea:=hW.var e
   simp [e,ea]
 · have:eC out t=out:=by simp [eC,e]
   simp only [List.foldl_cons,this]
   rw [if_neg (fun h=>e h.1)]
   exact flat t.args (fun _ h=>h) out
theorem HV {k:Int} {t x:Ty} (h:x∈t.eY k):x.kind=k∧x.args=[]:=by
 revert h
 refine Ty.eP (p:=fun t=>x∈t.eY k→x.kind=k∧x.args=[]) ?_ t
 intro t ih h
 rw [Ty.lC] at h
 split at h
 · rename_i e;simp at h;subst h;exact ⟨e.1,by simpa using e.2⟩
 · simp only [List.mem_flatMap] at h
   obtain ⟨y,hy,hx⟩:=h
   exact ih y hy hx
theorem HW {l:List Ty} {out:List Int} {x:Ty} (hk:x.kind=1) (h:x∈l):x.id∈l.foldl eC out:=by
 have mono:∀(l:List Ty) (out:List Int) (i:Int),i∈out→i∈l.foldl eC out:=by
   intro l
   induction l with
   | nil=>intro out i h;exact h
   | cons y r ih=>
     intro out i h
     simp only [List.foldl_cons]
     refine ih _ _ ?_
     unfold eC;split<;>simp [h]
 induction l generalizing out with
 | nil=>simp at h
 | cons y r ih=>
   simp only [List.foldl_cons]
   simp at h
   rcases h with rfl | h
   · refine mono _ _ _ ?_
     unfold eC
     split
     · simp
     · rename_i e;simp [hk] at e;exact e
   · exact ih h
theorem Fp (l:List Ty) (hk:∀x∈l,x.kind=1):∀acc:List Ty,(l.foldl gP acc).foldl eC []=l.foldl eC (acc.foldl eC []):=by
 induction l with
 | nil=>intro acc;rfl
 | cons x r ih=>
   intro acc
   simp only [List.foldl_cons]
   rw [ih (fun y hy=>hk y (by simp [hy]))]
   congr 1
   unfold gP
   split
   · rename_i e
     have:=HW (out:=[]) (hk x (by simp)) e
     simp [eC,this]
   · simp
theorem Fq (l:List Ty) (hk:∀x∈l,x.kind=1):∀out,l.foldl oI out=l.foldl eC out:=by
 induction l with
 | nil=>intro out;rfl
 | cons x r ih=>
   intro out
   simp only [List.foldl_cons]
   rw [ih (fun y hy=>hk y (by simp [hy]))]
   congr 1
   unfold oI eC
   have:=hk x (by simp)
   by_cases e:x.id∈out<;>simp [e,this]
theorem HX {l acc:List Ty} {x:Ty} (h:x∈l.foldl gP acc):x∈acc∨x∈l:=by
 induction l generalizing acc with
 | nil=>exact .inl h
 | cons y r ih=>
   simp only [List.foldl_cons] at h
   rcases ih h with h | h
   · unfold gP at h
     split at h
     · exact .inl h
     · simp at h
       rcases h with h | rfl
       · exact .inl h
       · right;simp
   · right;simp [h]
theorem rX {l:List Ty} (hW:∀t∈l,t.Wf):l4 l=vars l:=by
 have hk:∀x∈l.flatMap (Ty.eY 1),x.kind=1:=fun x hx=>by
   simp only [List.mem_flatMap] at hx;obtain ⟨t,_,h⟩:=hx;exact (HV h).1
 unfold l4 vars
 rw [Fq _ (fun x hx=>by rcases HX hx with h | h;simp at h;exact hk x h),Fp _ hk]
 have:∀(l:List Ty),(∀t∈l,t.Wf)→∀out,(l.flatMap (Ty.eY 1)).foldl eC out=(l.flatMap Ty.nodes).foldl eC out:=by
   intro l
   induction l with
   | nil=>intro _ _;rfl
   | cons a r ih=>
     intro h out
     simp only [List.flatMap_cons,List.foldl_append]
     rw [Fo (h a (by simp)),ih (fun t ht=>h t (by simp [ht]))]
 exact this l hW []
end Go.Ab.Lw
namespace Go.Ab.Lw
open Ev
theorem c176 {t:Ty}:(aQ AP).p 176 [t.pv]=some [(As.mk 0 t).pv]:=by
 rw [aw (af:=g176) rfl rfl (by decide)]
 simp [g176]
theorem c179 {l:List En} (hS:Sm l) {n:List UInt8} {c:Sc}:(aQ AP).p 179 [.aJ (l.map En.pv),.str n,c.pv]=some [.aJ ((l++[En.mk n c]).map En.pv)]:=by
 unfold Sm at hS
 have hb:(l.length+1)*88≤140737488355328:=by omega
 have hb':l.length*88≤140737488355328:=by omega
 rw [aw (af:=g179) rfl rfl (by decide)]
 cases l with
 | nil=>simp [g179]
 | cons a r=>
   simp at hb hb'
   simp [g179,hb,hb']
def dJ:List En→List En
 | []=>[]
 | a::r=>if (r.any fun x=>decide (x.name=a.name))=true then dJ r else a::dJ r
theorem PK {sz:Nat} {l:List PV} {k:IntKind} {h:Int} (h0:0≤h) (h1:h≤l.length) (hs:bC sz l=true):dc false sz true false false [.pv (.aJ l),.pv (.int k h)]=some (.pv (.aJ (l.drop h.toNat))):=by
 simp [dc,cS,eH,h0,h1,hs]
theorem any_none {r:List En} {a:En}:(r.any fun x=>decide (x.name=a.name))=true↔∃c,Cm r a.name=some c:=by
 induction r with
 | nil=>simp [Cm]
 | cons b r ih=>
   simp only [List.any_cons,Bool.or_eq_true,ih,Cm,decide_eq_true_eq]
   cases h:Cm r a.name with
   | some c=>simp
   | none=>by_cases e:b.name=a.name<;>simp [e]
theorem lD (l:List En):∀x∈dJ l,x∈l:=by
 induction l with
 | nil=>simp [dJ]
 | cons a r ih=>
   intro x hx
   simp only [dJ] at hx
   split at hx
   · simp [ih x hx]
   · simp at hx;rcases hx with rfl | hx
     · simp
     · simp [ih x hx]
theorem rY (l:List En):(dJ l).length≤l.length:=by
 induction l with
 | nil=>simp [dJ]
 | cons a r ih=>
   simp only [dJ]
   split<;>simp<;>omega
def varNames:List (List UInt8):=[[120],[121],[122],[102],[103],[118,49],[118,50],[105,100]]
def da (ids:List Int):List Int→List As→List As
 | [],acc=>acc
 | v::r,acc=>da ids r (if v∈ids then acc++[⟨v,cQ acc.length⟩] else acc)
def nM (ids:List Int) (t:Ty) (vs:List Int):Sc:=⟨(da ids vs []).length,t.sub (da ids vs [])⟩
theorem Mg {t:Ty} {ids vs:List Int} (hS:Sm vs) (hi:Sm ids):∀(n i:Nat),vs.length-i=n→i≤vs.length→∀acc:List As,acc.length≤i →
   cl AP g208L0 ⟨[(1,.pv (.aJ (ids.map vI))),(2,.aG 2 0),(4,.aG 4 0),(5,.pv (.aJ (vs.map vI))),(6,.own (acc.map As.pv) 0),(7,.pv (vI i))],[(2,[.pv (vI t.kind),.pv (.str t.name),.pv (vI t.id),.pv (vI t.home),.pv (.aJ (t.args.map Ty.pv))]),(4,[.pv (vI 0),.pv (vI 0),.pv (.str []),.pv (vI 0),.pv (vI 0),.own [] 1])],[],[acc.length,0]⟩ =
     some (.exit 0,⟨[(1,.pv (.aJ (ids.map vI))),(2,.aG 2 0),(4,.aG 4 0),(5,.pv (.aJ (vs.map vI))),(6,.own ((da ids (vs.drop i) acc).map As.pv) 0),(7,.pv (vI vs.length)),(14,.pv (.bool false))],[(2,[.pv (vI t.kind),.pv (.str t.name),.pv (vI t.id),.pv (vI t.home),.pv (.aJ (t.args.map Ty.pv))]),(4,[.pv (vI 0),.pv (vI 0),.pv (.str []),.pv (vI 0),.pv (vI 0),.own [] 1])],[],[(da ids (vs.drop i) acc).length,0]⟩)
 | 0,i,hn,hi',acc,ha=>by
   have:i=vs.length:=by omega
   subst this
   rw [g208L0e]
   simp [g208B0,da]
 | n+1,i,hn,hi',acc,ha=>by
   have hi':i<vs.length:=by omega
   obtain ⟨x,hx⟩:=bO hi'
   unfold Sm at hS
   have k:=c95 hi (y:=x)
   have k2:=c72 (n:=acc.length)
   have hb:(acc.length+1)*72≤140737488355328:=by omega
   rw [cY hx]
   by_cases e:x∈ids
   · have ih:=Mg (t:=t) hS hi n (i+1) (by omega) (by omega) (acc++[⟨x,cQ acc.length⟩]) (by simp;omega)
     have ea:da ids (x::vs.drop (i+1)) acc=da ids (vs.drop (i+1)) (acc++[⟨x,cQ acc.length⟩]):=by simp [da,e]
     rw [ea]
     rw [g208L0e] at ih ⊢
     rw [decide_eq_true e] at k
     simp [cQ] at ih k2
     simp (disch:=omega) [-getElem?_pos,g208B0,hx,hi',k,k2,aA,hb,cQ]
     rw [g208L0e]
     simp [ih,cQ]
   · have ih:=Mg (t:=t) hS hi n (i+1) (by omega) (by omega) acc (by omega)
     have ea:da ids (x::vs.drop (i+1)) acc=da ids (vs.drop (i+1)) acc:=by simp [da,e]
     rw [ea]
     rw [g208L0e] at ih ⊢
     rw [decide_eq_false e] at k
     simp at ih
     simp (disch:=omega) [-getElem?_pos,g208B0,hx,hi',k,aA]
     rw [g208L0e]
     simp [ih]
theorem rZ {ids:List Int}:∀(vs:List Int) (acc:List As),(da ids vs acc).length≤acc.length+vs.length
 | [],acc=>by simp [da]
 | v::r,acc=>by
   simp only [da]
   have:=rZ (ids:=ids) r (if v∈ids then acc++[⟨v,cQ acc.length⟩] else acc)
   split at this<;>simp at this ⊢<;>(split<;>simp_all<;>omega)
structure N9 (t:Ty):Prop where
 ok:t.Ok
 wf:t.Wf
 Fm:∃S:List Ty,S.length<1099511627776∧(∀x∈S,x.Ok)∧∀x∈t.eY 1,x∈S
theorem r5 {t:Ty} (h:N9 t):Sm (l4 [t]):=by
 obtain ⟨S,hf,hSo,hk⟩:=h.Fm
 have c0:gf S []:=⟨by simp,by simp,hf,hSo⟩
 have:=(c0.fold (l:=[t].flatMap (Ty.eY 1)) (by simpa using hk)).len
 unfold Sm at *
 have h2:=HU (l:=([t].flatMap (Ty.eY 1)).foldl gP []) (out:=[])
 unfold l4
 simp at this h2 ⊢
 omega
theorem c208 {t:Ty} (h:N9 t) {ids:List Int} (hi:Sm ids):(aQ AP).p 208 [t.pv,.aJ (ids.map vI)]=some [(nM ids t (vars [t])).pv]:=by
 obtain ⟨S,hf,hSo,hk⟩:=h.Fm
 have k1:=c56 hf hSo (l:=[t]) (by simp [Sm]) (by simpa using h.ok) (by simpa using hk)
 have hv:=r5 h
 rw [rX (by simpa using h.wf)] at k1 hv
 have k2:=Mg (t:=t) hv hi _ 0 rfl (by omega) [] (by simp)
 have hl:=rZ (ids:=ids) (vars [t]) []
 have k3:=c46 (s:=da ids (vars [t]) []) (by unfold Sm at hv ⊢;simp at hl;omega) h.ok
 rw [aw (af:=g208) rfl rfl (by decide)]
 rw [g208L0e] at k2
 simp at k1 k2 k3
 simp [g208,k1,g208L0e,k2,k3,nM]
end Go.Ab.Lw
namespace Go.Ab.Lw
open Ev
theorem cZ {t:Ty} (h:t.args=[]):t.Ok:=⟨by rw [h];simp [Sm],by rw [h];simp⟩
theorem t_ {ids:List Int}:∀(vs:List Int) (acc:List As),(∀a∈acc,a.ty.Ok)→∀a∈da ids vs acc,a.ty.Ok
 | [],acc,h=>by simpa [da] using h
 | v::r,acc,h=>by
   simp only [da]
   refine t_ r _ ?_
   split
   · intro a ha
     simp at ha
     rcases ha with ha | rfl
     · exact h a ha
     · exact cZ rfl
   · exact h
theorem BC {ids vs:List Int} {t:Ty} (h:t.Ok):(nM ids t vs).ty.Ok:=BB (t_ vs [] (by simp)) h
end Go.Ab.Lw
namespace Go.Ab.Lw
open Ev
inductive gM (D:Dt→Prop) (lv:List Ty):Nat→Ty→Prop
 | leaf {n:Nat} {t:Ty}:t∈lv→gM D lv n t
 | int {n:Nat}:gM D lv n bA
 | iR {n:Nat} {d:Dt} {args:List Ty}:D d→args.length=d.params.length→(∀x∈args,gM D lv n x)→gM D lv (n+1) ⟨4,d.name,0,0,args⟩
 | arrow {n:Nat} {a b:Ty}:gM D lv n a→gM D lv n b→gM D lv (n+1) ⟨4,[45,62],0,0,[a,b]⟩
theorem gM.ok {D:Dt→Prop} (hD:∀d,D d→d.params.length≤8) {lv:List Ty} (h:∀t∈lv,t.args=[]) {n:Nat} {t:Ty} (m:gM D lv n t):t.Ok:=by
 induction m with
 | leaf hl=>exact cZ (h _ hl)
 | int=>exact cZ rfl
 | iR hd hl _ ih=>exact ⟨by have:=hD _ hd;unfold Sm;simp;omega,ih⟩
 | arrow _ _ ha hb=>exact ⟨by simp [Sm],by intro x hx;simp at hx;rcases hx with rfl | rfl<;>assumption⟩
theorem HY {f:Ty→List Ty} {b:Nat}:∀{l:List Ty},(∀x∈l,(f x).length≤b)→(l.flatMap f).length≤l.length*b
 | [],_=>by simp
 | a::r,h=>by
   have h1:=h a (by simp)
   have h2:=HY (f:=f) (b:=b) (l:=r) (fun x hx=>h x (by simp [hx]))
   simp only [List.flatMap_cons,List.length_append,List.length_cons,Nat.add_mul]
   omega
theorem gM.small {D:Dt→Prop} (hD:∀d,D d→d.params.length≤8) {lv:List Ty} (h:∀t∈lv,t.args=[]) {n:Nat} {t:Ty} (m:gM D lv n t):t.nodes.length≤9 ^ n:=by
 have one:∀n:Nat,1≤9 ^ n:=fun n=>Nat.one_le_pow n 9 (by decide)
 induction m with
 | leaf hl=>rw [Ty.bg,h _ hl];simpa using one _
 | int=>rw [Ty.bg];simpa [bA] using one _
 | @iR n d args hd hl _ ih=>
   rw [Ty.bg]
   have h1:=HY (f:=Ty.nodes) (l:=args) ih
   have h2:=hD _ hd
   have h3:=one n
   have h4:args.length*9 ^ n≤8*9 ^ n:=Nat.mul_le_mul_right _ (by omega)
   simp only [List.length_cons,Nat.pow_succ]
   omega
 | @arrow n a b _ _ ha hb=>
   rw [Ty.bg]
   have h3:=one n
   simp only [List.length_cons,List.flatMap_cons,List.flatMap_nil,List.append_nil,List.length_append,Nat.pow_succ]
   omega
end Go.Ab.Lw
namespace Go.Ab.Lw
open Ev
abbrev d4:=List UInt8
theorem N_ {s:List d4} (hS:Sm s) (y:d4):∀(n i:Nat),s.length-i=n→i≤s.length →
   cl AP g216L0 ⟨[(0,.pv (.aJ (s.map .str))),(1,.pv (.str y)),(5,.pv (vI i))],[],[],[]⟩ =
     match gp (fun x=>decide (x=y)) (s.drop i) with
     | some k=>some (.ret,⟨[(4,.pv (vI (i+k:Nat)))],[],[],[]⟩)
     | none=>some (.exit 0,⟨[(0,.pv (.aJ (s.map .str))),(1,.pv (.str y)),(5,.pv (vI s.length)),(9,.pv (.bool false))],[],[],[]⟩)
 | 0,i,hn,hi=>by
   have:i=s.length:=by omega
   subst this
   rw [g216L0e]
   simp [g216B0,gp]
 | n+1,i,hn,hi=>by
   have hi:i<s.length:=by omega
   obtain ⟨x,hx⟩:=bO hi
   unfold Sm at hS
   have ih:=N_ hS y n (i+1) (by omega) (by omega)
   simp at ih
   rw [g216L0e,cY hx]
   by_cases e:x=y
   · simp (disch:=omega) [-getElem?_pos,g216B0,hx,hi,e,gp]
   · simp (disch:=omega) [-getElem?_pos,g216B0,hx,hi,e,gp,aA,ih]
     cases gp (fun x=>decide (x=y)) (s.drop (i+1)) with
     | none=>rfl
     | some k=>simp;omega
def nN (s:List d4) (y:d4):Int:=Fl (gp (fun x=>decide (x=y)) s)
theorem c216 {s:List d4} (hS:Sm s) {y:d4}:(aQ AP).p 216 [.aJ (s.map .str),.str y]=some [vI (nN s y)]:=by
 unfold nN
 have h:=N_ hS y _ 0 rfl (by omega)
 simp at h
 rw [aw (af:=g216) rfl rfl (by decide)]
 cases hi:gp (fun x=>decide (x=y)) s with
 | none=>rw [hi] at h;simp at h;simp [g216,h,Fl]
 | some k=>rw [hi] at h;simp at h;simp [g216,h,Fl]
theorem HZ {s:List d4} {y:d4}:nN s y<0↔y∉s:=by
 unfold nN
 have h:=HO (p:=fun x=>decide (x=y)) (s:=s)
 have e:s.any (fun x=>decide (x=y))=decide (y∈s):=by rw [Bool.eq_iff_iff];simp
 rw [e] at h
 by_cases hy:y∈s
 · rw [decide_eq_true hy] at h
   have h:=of_decide_eq_true h
   exact ⟨fun h'=>absurd h (Int.not_le.2 h'),fun h'=>absurd hy h'⟩
 · rw [decide_eq_false hy] at h
   have h:=of_decide_eq_false h
   exact ⟨fun _=>hy,fun _=>Int.not_le.1 h⟩
def Mh (t:Ty):List AV:=[.pv (vI t.kind),.pv (.str t.name),.pv (vI t.id),.pv (vI t.home),.pv (.aJ (t.args.map Ty.pv))]
@[simp] theorem PL (t:Ty):Mh t=[.pv (vI t.kind),.pv (.str t.name),.pv (vI t.id),.pv (vI t.home),.pv (.aJ (t.args.map Ty.pv))]:=rfl
inductive Ty.Cw:Ty→Prop
 | mk {t:Ty}:(t.kind≠4→t.args=[])→(∀x∈t.args,Ty.Cw x)→Ty.Cw t
theorem Ty.Cw.bare {t:Ty} (h:t.Cw):t.kind≠4→t.args=[]:=by cases h;assumption
theorem Ty.Cw.gV {t:Ty} (h:t.Cw):∀x∈t.args,x.Cw:=by cases h;assumption
end Go.Ab.Lw
namespace Go.Ab.Lw
structure ev (E:Type) where
 pos:Int
 iR:List UInt8
 vars:List (List UInt8)
 body:E
structure Ex where
 kind:Int
 pos:Int
 name:List UInt8
 num:Int
 kids:List Ex
 bw:List (ev Ex)
 ty:Ty
abbrev Ar:=ev Ex
def bW:Ty:=⟨0,[],0,0,[]⟩
instance:Inhabited Ex:=⟨⟨0,0,[],0,[],[],bW⟩⟩
instance:Inhabited Ar:=⟨⟨0,[],[],default⟩⟩
def Ty.cells (t:Ty):List PV:=[.int .i64 t.kind,.str t.name,.int .i64 t.id,.int .i64 t.home,.aJ (t.args.map Ty.pv)]
mutual
def Ex.cells:Ex→List PV
 | ⟨k,p,n,m,ks,as,t⟩=>.int .i64 k::.int .i64 p::.str n::.int .i64 m::.aJ (Ex.dt ks)::.aJ (Ex.N' as)::t.cells
def Ex.dt:List Ex→List PV
 | []=>[]
 | e::r=>.agg (Ex.cells e)::Ex.dt r
def Ex.N':List (ev Ex)→List PV
 | []=>[]
 | ⟨p,c,v,b⟩::r=>.agg (.int .i64 p::.str c::.aJ (v.map .str)::Ex.cells b)::Ex.N' r
end
def Ex.pv (e:Ex):PV:=.agg e.cells
def Ar.pv (a:Ar):PV:=.agg (.int .i64 a.pos::.str a.iR::.aJ (a.vars.map .str)::a.body.cells)
theorem Ex.nJ:∀l:List Ex,Ex.dt l=l.map Ex.pv
 | []=>by simp [Ex.dt]
 | e::r=>by simp [Ex.dt,Ex.nJ r,Ex.pv]
theorem Ex.Co:∀l:List Ar,Ex.N' l=l.map Ar.pv
 | []=>by simp [Ex.N']
 | ⟨p,c,v,b⟩::r=>by simp [Ex.N',Ex.Co r,Ar.pv]
theorem Ex.bS (e:Ex):e.cells=[.int .i64 e.kind,.int .i64 e.pos,.str e.name,.int .i64 e.num,.aJ (e.kids.map Ex.pv),.aJ (e.bw.map Ar.pv),.int .i64 e.ty.kind,.str e.ty.name,.int .i64 e.ty.id,.int .i64 e.ty.home,.aJ (e.ty.args.map Ty.pv)]:=by
 cases e;simp only [Ex.cells,Ex.nJ,Ex.Co,Ty.cells]
@[simp] theorem Ex.lz (e:Ex):e.pv=.agg [.int .i64 e.kind,.int .i64 e.pos,.str e.name,.int .i64 e.num,.aJ (e.kids.map Ex.pv),.aJ (e.bw.map Ar.pv),.int .i64 e.ty.kind,.str e.ty.name,.int .i64 e.ty.id,.int .i64 e.ty.home,.aJ (e.ty.args.map Ty.pv)]:=by
 rw [Ex.pv,Ex.bS]
@[simp] theorem Ar.lz (a:Ar):a.pv=.agg [.int .i64 a.pos,.str a.iR,.aJ (a.vars.map .str),.int .i64 a.body.kind,.int .i64 a.body.pos,.str a.body.name,.int .i64 a.body.num,.aJ (a.body.kids.map Ex.pv),.aJ (a.body.bw.map Ar.pv),.int .i64 a.body.ty.kind,.str a.body.ty.name,.int .i64 a.body.ty.id,.int .i64 a.body.ty.home,.aJ (a.body.ty.args.map Ty.pv)]:=by
 rw [Ar.pv,Ex.bS]
theorem H0:El Ex.pv 11 true:=⟨fun x=>by simp,fun x=>by simp⟩
theorem Mi:El Ar.pv 14 true:=⟨fun x=>by simp,fun x=>by simp⟩
@[simp] theorem M3 {l:List Ex}:bC 11 (l.map Ex.pv)=true:=H0.head l
@[simp] theorem M4 {l:List Ar}:bC 14 (l.map Ar.pv)=true:=Mi.head l
@[simp] theorem Mj {l:List (List UInt8)}:bC 1 (l.map PV.str)=true:=Me.head l
@[simp] theorem M5 {l:List Int}:bC 1 (l.map vI)=true:=kt.head l
def Ex.ch (e:Ex):List Ex:=e.kids++e.bw.map ev.body
theorem ev.ua (a:Ar):SizeOf.sizeOf a.body<SizeOf.sizeOf a:=by cases a;simp;omega
theorem Ex.eP {p:Ex→Prop} (h:∀e:Ex,(∀x∈e.kids,p x)→(∀a∈e.bw,p a.body)→p e):∀e,p e
 | ⟨k,ps,n,m,ks,as,t⟩=>h _ (fun x _hx=>Ex.eP h x) (fun a _ha=>Ex.eP h a.body)
termination_by e=>SizeOf.sizeOf e
decreasing_by
 · have:=_root_.List.sizeOf_lt_of_mem _hx;simp at *;omega
 · have:=_root_.List.sizeOf_lt_of_mem _ha;have:=ev.ua a;simp at *;omega
theorem Ex.recC {p:Ex→Prop} (h:∀e:Ex,(∀x∈e.ch,p x)→p e):∀e,p e:=Ex.eP fun e h1 h2=>h e fun x hx=>by
 rw [Ex.ch,List.mem_append,List.mem_map] at hx
 rcases hx with hx | ⟨a,ha,rfl⟩
 · exact h1 x hx
 · exact h2 a ha
end Go.Ab.Lw
namespace Go.Ab.Lw
open Ev
def tx (l:List (List UInt8)):List AV:=l.map fun s=>AV.pv (.str s)
end Go.Ab.Lw
namespace Go.Ab.Lw
open Ev
structure Row {α:Type} (f:α→List PV) (sz:Nat):Prop where
 pos:0<sz
 len:∀x,(f x).length=sz
section
variable {α:Type} {f:α→List PV} {sz:Nat}
def bY (f:α→List PV) (l:List α):List AV:=l.flatMap fun x=>(f x).map .pv
theorem Cp:bY f []=[]:=rfl
theorem jS {x:α} {l:List α}:bY f (x::l)=(f x).map .pv++bY f l:=rfl
theorem qe {l m:List α}:bY f (l++m)=bY f l++bY f m:=by simp [bY]
theorem d3 (h:Row f sz):∀{l:List α},(bY f l).length=l.length*sz
 | []=>by simp [bY]
 | x::r=>by rw [jS,List.length_append,List.length_map,h.len,d3 h,List.length_cons,Nat.add_mul];omega
theorem cI {l:List α}:∀v∈bY f l,∃p,v=AV.pv p:=by
 intro v hv
 simp only [bY,List.mem_flatMap,List.mem_map] at hv
 obtain ⟨x,_,p,_,rfl⟩:=hv
 exact ⟨p,rfl⟩
theorem r_ (h:Row f sz):∀{l:List α} {i:Nat} {x:α},l[i]?=some x→(bY f l).drop (i*sz)=(f x).map .pv++bY f (l.drop (i+1))
 | x::r,0,y,e=>by simp at e;subst e;simp [bY]
 | x::r,i+1,y,e=>by
   have ih:=r_ h (l:=r) (i:=i) (x:=y) (by simpa using e)
   rw [jS,List.drop_append,List.drop_eq_nil_of_le (by rw [List.length_map,h.len,Nat.add_mul];omega),List.length_map,h.len,show (i+1)*sz-sz=i*sz from by rw [Nat.add_mul];omega,ih]
   simp
 | [],_,_,e=>by simp at e
theorem yx (h:Row f sz):∀{l:List α} {i:Nat},i≤l.length→(bY f l).take (i*sz)=bY f (l.take i)
 | l,0,_=>by simp [bY]
 | x::r,i+1,e=>by
   have ih:=yx h (l:=r) (i:=i) (by simpa using e)
   rw [jS,List.take_append,List.take_of_length_le (by rw [List.length_map,h.len,Nat.add_mul];omega),List.length_map,h.len,show (i+1)*sz-sz=i*sz from by rw [Nat.add_mul];omega,ih]
   simp [jS]
 | [],i+1,e=>by simp at e
theorem qf (h:Row f sz) {l:List α} {i:Nat} {x:α} (e:l[i]?=some x) {o k:Nat} (hk:o+k≤sz):((bY f l).drop (i*sz+o)).take k=(((f x).drop o).take k).map .pv:=by
 rw [←List.drop_drop,r_ h e,List.drop_append,List.take_append,List.length_drop,List.length_map,h.len]
 have e1:k-(sz-o)=0:=by omega
 rw [e1,List.take_zero,List.append_nil,←List.map_drop,←List.map_take]
theorem Mk (h:Row f sz) {l:List α} {i:Nat} (hi:i<l.length) {o k:Nat} (hk:o+k≤sz):i*sz+o+k≤(bY f l).length:=by
 rw [d3 h]
 have:(i+1)*sz≤l.length*sz:=Nat.mul_le_mul_right _ hi
 rw [Nat.add_mul] at this
 omega
theorem qg (h:Row f sz) {l:List α} {i:Nat} {x y:α} (e:l[i]?=some x) {o:Nat} {vs:List PV} (hk:o+vs.length≤sz) (hy:f y=(f x).take o++vs++(f x).drop (o+vs.length)):bo (bY f l) (i*sz+o) (vs.map .pv)=bY f (l.set i y):=by
 have hi:=(List.getElem?_eq_some_iff.1 e).1
 have e3:l.set i y=l.take i++y::l.drop (i+1):=by rw [List.set_eq_take_append_cons_drop,if_pos hi]
 have e1:=r_ h e
 have e2:=yx h (l:=l) (i:=i) (by omega)
 rw [e3,aK,qe,jS,←e2,hy]
 have e4:(bY f l).drop (i*sz+o+(vs.map AV.pv).length)=((f x).drop (o+vs.length)).map .pv++bY f (l.drop (i+1)):=by
   rw [List.length_map,Nat.add_assoc,←List.drop_drop,e1,List.drop_append,List.length_map,h.len,show o+vs.length-sz=0 from by omega]
   simp
 have e5:(bY f l).take (i*sz+o)=(bY f l).take (i*sz)++((f x).take o).map .pv:=by
   rw [List.take_add,e1,List.take_append,List.length_map,h.len,show o-sz=0 from by omega]
   simp
 rw [e4,e5]
 simp
theorem Cq (h:Row f sz):∀{l:List α},∃ps,fE (bY f l)=some ps∧(chunk sz l.length ps).map PV.agg=l.map fun x=>.agg (f x)
 | []=>⟨[],rfl,rfl⟩
 | x::r=>by
   obtain ⟨ps,h1,h2⟩:=Cq h (l:=r)
   have key:∀(a:List PV) (b:List AV),fE b=some ps→fE (a.map AV.pv++b)=some (a++ps):=by
     intro a b hb
     induction a with
     | nil=>simpa using hb
     | cons c a ih=>simp only [List.map_cons,List.cons_append,fE,kV,ih]
   refine ⟨f x++ps,key _ _ h1,?_⟩
   simp only [List.length_cons,chunk,List.map_cons]
   rw [List.take_left' (h.len x),List.drop_left' (h.len x),h2]
theorem qh (h:Row f sz) {l:List α}:((fE (bY f l)).bind (fF sz true l.length)).map PV.aJ=some (.aJ (l.map fun x=>.agg (f x))):=by
 obtain ⟨ps,h1,h2⟩:=Cq h (l:=l)
 rw [h1]
 simp only [Option.bind_some,fF,if_true,Option.map_some,h2]
theorem qi (h:Row f sz) {l:List α}:((l.map fun x=>PV.agg (f x)).flatMap br).map AV.pv=bY f l:=by
 induction l with
 | nil=>rfl
 | cons x r ih=>simp only [List.map_cons,List.flatMap_cons,List.map_append,ih,jS,br]
end
abbrev nn (k:Nat):Sh:=List.replicate k none
theorem eJ (k:Nat):bP (nn k):=by
 intro cs hc
 simp [nn,List.mem_replicate] at hc
end Go.Ab.Lw
namespace Go.Ab.Lw
open Ev
inductive Ex.Ok:Ex→Prop
 | mk {e:Ex}:e.kids.length≤1000→e.bw.length≤1000→(∀a∈e.bw,a.vars.length≤1000)→e.ty.Ok→(∀x∈e.ch,x.Ok)→e.Ok
theorem Ex.Ok.k {e:Ex} (h:e.Ok):e.kids.length≤1000:=by cases h;assumption
theorem Ex.Ok.a {e:Ex} (h:e.Ok):e.bw.length≤1000:=by cases h;assumption
theorem Ex.Ok.v {e:Ex} (h:e.Ok):∀a∈e.bw,a.vars.length≤1000:=by cases h;assumption
theorem Ex.Ok.t {e:Ex} (h:e.Ok):e.ty.Ok:=by cases h;assumption
theorem Ex.Ok.c {e:Ex} (h:e.Ok):∀x∈e.ch,x.Ok:=by cases h;assumption
theorem Ex.jD {e:Ex}:e.ch.length=e.kids.length+e.bw.length:=by simp [Ex.ch]
@[simp] def Ex.cl (e:Ex):List AV:=[.pv (vI e.kind),.pv (vI e.pos),.pv (.str e.name),.pv (vI e.num),.pv (.aJ (e.kids.map Ex.pv)),.pv (.aJ (e.bw.map Ar.pv)),.pv (vI e.ty.kind),.pv (.str e.ty.name),.pv (vI e.ty.id),.pv (vI e.ty.home),.pv (.aJ (e.ty.args.map Ty.pv))]
theorem eg:Row Ex.cells 11:=⟨by omega,fun x=>by rw [Ex.bS];rfl⟩
def Ar.cells (a:Ar):List PV:=.int .i64 a.pos::.str a.iR::.aJ (a.vars.map .str)::a.body.cells
theorem ku:Row Ar.cells 14:=⟨by omega,fun x=>by simp [Ar.cells,Ex.bS]⟩
theorem Ex.sa (e:Ex):e.cells.map AV.pv=e.cl:=by rw [Ex.bS];rfl
@[simp] def Ex.II (e:Ex) (A:AV):List AV:=[.pv (vI e.kind),.pv (vI e.pos),.pv (.str e.name),.pv (vI e.num),.pv (.aJ (e.kids.map Ex.pv)),A,.pv (vI e.ty.kind),.pv (.str e.ty.name),.pv (vI e.ty.id),.pv (vI e.ty.home),.pv (.aJ (e.ty.args.map Ty.pv))]
def Oa (A:AV) (as:List Ar) (X:Sh):Prop:=A=.pv (.aJ (as.map Ar.pv))∨∃b,b<X.length∧A=.bI b 14 as.length true∧X[b]?=some (some (bY Ar.cells as))
theorem Oa.app {A:AV} {as:List Ar} {X Y:Sh} (h:Oa A as X):Oa A as (X++Y):=by
 rcases h with h | ⟨b,h1,h2,h3⟩
 · exact .inl h
 · exact .inr ⟨b,by rw [List.length_append];omega,h2,by rw [List.getElem?_append_left h1];exact h3⟩
def hV (X:Sh) (l:List Ex):AV:=if l=[] then .own [] 0 else .bI X.length 11 l.length true
def hS (X:Sh) (l:List Ex):Sh:=if l=[] then X else X++[some (bY Ex.cells l)]
def hT (l:List Ex):aN:=if l=[] then [0] else []
theorem yy {X:Sh} (h:bP X) (l:List Ex):bP (hS X l):=by
 unfold hS
 by_cases h0:l=[]
 · rw [if_pos h0];exact h
 · rw [if_neg h0];exact h.app (bP.one cI)
theorem J1 {e:Ex} {A:AV} (ha:e.bw.length≤1000):∀(n i:Nat),e.bw.length-i=n→i≤e.bw.length→∀(X:Sh) (acc:List Ex),bP X→Oa A e.bw X→acc.length+n≤1000000→∃k,
   cl AP g145L0 ⟨[(1,.aG 1 0),(3,hV X acc),(4,.pv (vI i))],[(1,e.II A)],hS X acc,hT acc⟩ =
     some (.exit 0,⟨[(1,.aG 1 0),(3,hV (X++nn k) (acc++(e.bw.drop i).map ev.body)),(4,.pv (vI e.bw.length)),(12,.pv (.bool false))],[(1,e.II A)],hS (X++nn k) (acc++(e.bw.drop i).map ev.body),hT (acc++(e.bw.drop i).map ev.body)⟩)
 | 0,i,hn,hi,X,acc,hX,hA,hl=>by
   have:i=e.bw.length:=by omega
   subst this
   refine ⟨0,?_⟩
   rw [List.drop_length,List.map_nil,List.append_nil,show nn 0=[] from rfl,List.append_nil]
   have hn:=(yy hX acc).norm
   have vc:(hV X acc=.own [] 0∧hT acc=[0])∨(∃b z k g,hV X acc=.bI b z k g∧hT acc=[]):=by
     unfold hV hT
     by_cases h0:acc=[]
     · left;simp [h0]
     · right;exact ⟨X.length,11,acc.length,true,by simp [h0],by simp [h0]⟩
   rw [g145L0e]
   rcases vc with ⟨v1,t1⟩ | ⟨b1,z1,k1,f1,v1,t1⟩<;>rw [v1,t1]<;>generalize hS X acc=S0 at hn ⊢ <;>
     rcases hA with rfl | ⟨b,hb,rfl,hx⟩<;>simp [g145B0,hn]
 | n+1,i,hn,hi,X,acc,hX,hA,hl=>by
   have hi:i<e.bw.length:=by omega
   obtain ⟨x,hx⟩:=bO hi
   have hnX:=hX.norm
   have hB11:∀m:Nat,m≤1000000→m*152≤140737488355328:=by omega
   have hcl:=Ex.bS x.body
   rw [cY hx,List.map_cons]
   have step:∃k,cl AP g145L0 ⟨[(1,.aG 1 0),(3,hV (if acc=[] then X else X++[none]) (acc++[x.body])),(4,.pv (vI (i+1:Nat)))],[(1,e.II A)],hS (if acc=[] then X else X++[none]) (acc++[x.body]),hT (acc++[x.body])⟩ =
     some (.exit 0,⟨[(1,.aG 1 0),(3,hV (X++nn k) (acc++(x.body::(e.bw.drop (i+1)).map ev.body))),(4,.pv (vI e.bw.length)),(12,.pv (.bool false))],[(1,e.II A)],hS (X++nn k) (acc++(x.body::(e.bw.drop (i+1)).map ev.body)),hT (acc++(x.body::(e.bw.drop (i+1)).map ev.body))⟩):=by
     by_cases h0:acc=[]
     · rw [if_pos h0]
       obtain ⟨k,ih⟩:=J1 ha n (i+1) (by omega) (by omega) X (acc++[x.body]) hX hA (by simp;omega)
       refine ⟨k,?_⟩
       rw [ih]
       simp only [List.append_assoc,List.singleton_append]
     · rw [if_neg h0]
       obtain ⟨k,ih⟩:=J1 ha n (i+1) (by omega) (by omega) (X++[none]) (acc++[x.body]) (hX.app (eJ 1)) hA.app (by simp;omega)
       refine ⟨k+1,?_⟩
       have e1:X++[none]++nn k=X++nn (k+1):=by simp [nn,List.replicate_succ]
       rw [ih,e1]
       simp only [List.append_assoc,List.singleton_append]
   obtain ⟨k,ih⟩:=step
   refine ⟨k,?_⟩
   generalize hV (X++nn k) (acc++(x.body::(e.bw.drop (i+1)).map ev.body))=V2 at ih ⊢
   generalize hS (X++nn k) (acc++(x.body::(e.bw.drop (i+1)).map ev.body))=S2 at ih ⊢
   generalize hT (acc++(x.body::(e.bw.drop (i+1)).map ev.body))=T2 at ih ⊢
   have hne:acc++[x.body]≠[]:=by simp
   have hn1:∀Y,bP Y→∀bh ts,cm bh ts (Y++[some (bY Ex.cells (acc++[x.body]))])=(Y++[some (bY Ex.cells (acc++[x.body]))],bh,ts):=fun Y hY=>(hY.app (bP.one cI)).norm
   have hfl:bY Ex.cells (acc++[x.body])=bY Ex.cells acc++x.body.cl:=by rw [qe,←Ex.sa];simp [bY]
   by_cases h0:acc=[]
   · subst h0
     rw [if_pos rfl] at ih
     have hn2:=hn1 X hX
     simp only [List.nil_append] at hne hn2 hfl ih
     simp only [hV,hS,hT,if_neg hne,if_true] at ih ⊢
     rw [hfl] at hn2 ih
     simp only [Cp,List.nil_append] at hn2 ih
     simp only [Ex.cl] at hn2
     rw [g145L0e] at ih ⊢
     rcases hA with rfl | ⟨b,hb,rfl,hxb⟩
     · simp [hn2] at ih
       simp (disch:=omega) [-getElem?_pos,g145B0,hx,hi,aA,hnX]
       rw [g145L0e]
       simp [hn2,ih]
     · have q1:=qf ku hx (o:=3) (k:=11) (by omega)
       have q2:i*14+3+11≤e.bw.length*14:=by omega
       have q3:(bY Ar.cells e.bw).length=e.bw.length*14:=d3 ku
       have q4:dC (bY Ar.cells e.bw)=false:=eu cI
       have q5:(((Ar.cells x).drop 3).take 11).map AV.pv=x.body.cl:=by simp [Ar.cells,hcl]
       rw [q5] at q1
       generalize bY Ar.cells e.bw=T at *
       simp [hn2] at ih q1
       simp (disch:=omega) [-getElem?_pos,g145B0,hx,hi,aA,hnX,hxb,q1,q2,q3,q4]
       rw [g145L0e]
       simp [hn2,ih]
   · rw [if_neg h0] at ih
     have hn2:=hn1 (X++[none]) (hX.app (eJ 1))
     have hn3:∀bh ts,cm bh ts (X++[some (bY Ex.cells acc)])=(X++[some (bY Ex.cells acc)],bh,ts):=(hX.app (bP.one cI)).norm
     simp only [hV,hS,hT,if_neg hne,if_neg h0] at ih ⊢
     have r1:(bY Ex.cells acc).length=acc.length*11:=d3 eg
     have r2:dC (bY Ex.cells acc)=false:=eu cI
     have r3:(bY Ex.cells acc).take (acc.length*11)=bY Ex.cells acc:=List.take_of_length_le (by omega)
     have hb2:(acc.length+1)*152≤140737488355328:=by omega
     rw [hfl] at hn2 ih
     rw [List.length_append,List.length_singleton,List.length_append,List.length_singleton] at ih
     have s1:∀u w:Option (List AV),(X++[u]).set X.length w=X++[w]:=fun u w=>by simp
     have s2:∀u:Option (List AV),(X++[u])[X.length]?=some u:=fun u=>by simp
     simp only [Ex.cl] at hn2
     rw [g145L0e] at ih ⊢
     rcases hA with rfl | ⟨b,hb,rfl,hxb⟩
     · generalize bY Ex.cells acc=F at *
       simp [hn2] at ih
       simp (disch:=omega) [-getElem?_pos,g145B0,hx,hi,aA,hn3,r1,r2,r3,s1,s2,hb2]
       rw [g145L0e]
       simp [hn2,ih]
     · have q1:=qf ku hx (o:=3) (k:=11) (by omega)
       have q2:i*14+3+11≤e.bw.length*14:=by omega
       have q3:(bY Ar.cells e.bw).length=e.bw.length*14:=d3 ku
       have q4:dC (bY Ar.cells e.bw)=false:=eu cI
       have q5:(((Ar.cells x).drop 3).take 11).map AV.pv=x.body.cl:=by simp [Ar.cells,hcl]
       have q6:∀u:Option (List AV),(X++[u])[b]?=X[b]?:=fun u=>List.getElem?_append_left hb
       rw [q5] at q1
       generalize bY Ar.cells e.bw=T at *
       generalize bY Ex.cells acc=F at *
       simp [hn2] at ih q1
       simp (disch:=omega) [-getElem?_pos,g145B0,hx,hi,aA,hn3,r1,r2,r3,s1,s2,hb2,hxb,q1,q2,q3,q4,q6]
       rw [g145L0e]
       simp [hn2,ih]
theorem BD {l:List Ex}:((fE (bY Ex.cells l)).bind (fF 11 true l.length)).map PV.aJ=some (.aJ (l.map Ex.pv)):=qh eg
theorem BE {l:List Ex}:((l.map Ex.pv).flatMap br).map AV.pv=bY Ex.cells l:=qi eg
theorem c145i {e:Ex} {A:AV} (h:e.kids.length≤1000) (ha:e.bw.length≤1000) {X:Sh} (hX:bP X) (hA:Oa A e.bw X):∃k,(aQ AP).i 145 [.agg (e.II A)] X []=some (if e.ch=[] then ([.own [] 0],X,[0]) else ([.bI (X.length+k) 11 e.ch.length true],X++nn k++[some (bY Ex.cells e.ch)],[])):=by
 obtain ⟨k,h2⟩:=J1 (A:=A) ha _ 0 rfl (by omega) X e.kids hX hA (by omega)
 rw [List.drop_zero] at h2
 change cl AP g145L0 _=some (.exit 0,⟨[(1,.aG 1 0),(3,hV (X++nn k) e.ch),(4,.pv (vI e.bw.length)),(12,.pv (.bool false))],[(1,e.II A)],hS (X++nn k) e.ch,hT e.ch⟩) at h2
 refine ⟨k,?_⟩
 rw [aT (af:=g145) rfl (by simp [g145])]
 have hb:e.kids.length*152≤140737488355328:=by omega
 have hm:=BE (l:=e.kids)
 have hq:=hX.norm
 have hq0:∀bh ts,cm bh ts (X++[some (bY Ex.cells e.kids)])=(X++[some (bY Ex.cells e.kids)],bh,ts):=(hX.app (bP.one cI)).norm
 have hq1:∀bh ts,cm bh ts (X++nn k)=(X++nn k,bh,ts):=(hX.app (eJ k)).norm
 have hq2:∀bh ts,cm bh ts (X++(nn k++[some (bY Ex.cells e.ch)]))=(X++(nn k++[some (bY Ex.cells e.ch)]),bh,ts):=(hX.app ((eJ k).app (bP.one cI))).norm
 have hlt:¬X.length+k<X.length:=by omega
 have hln:(X++nn k).length=X.length+k:=by simp
 have hlf:bp A=true∧cy A=true:=by rcases hA with rfl | ⟨b,_,rfl,_⟩<;>exact ⟨rfl,rfl⟩
 have hkt:(X++nn k).take X.length=X:=by simp
 have e1:∀(V:AV) (T:aN) (S:Sh),(V=hV X e.kids∧T=hT e.kids∨e.kids=[]∧V=.bN []∧T=[])→S=hS X e.kids→after (cl AP g145L0) (cl AP g145B0 (norm (restrict [1,3,4] ⟨[(1,.aG 1 0),(3,V),(4,.pv (vI 0))],[(1,e.II A)],S,T⟩))) =
     some (.exit 0,⟨[(1,.aG 1 0),(3,hV (X++nn k) e.ch),(4,.pv (vI e.bw.length)),(12,.pv (.bool false))],[(1,e.II A)],hS (X++nn k) e.ch,hT e.ch⟩):=by
   rintro V T S hV' rfl
   rw [←h2,g145L0e]
   rcases hV' with ⟨rfl,rfl⟩ | ⟨h0,rfl,rfl⟩
   · rfl
   · simp only [hV,hS,hT,h0,if_true]
     rcases hA with rfl | ⟨b,_,rfl,_⟩<;>simp [hq]
 clear h2
 by_cases hc:e.ch=[]
 · have h0:e.kids=[]:=by have:=hc;simp only [Ex.ch,List.append_eq_nil_iff] at this;exact this.1
   have f:=e1 (.bN []) [] X (.inr ⟨h0,rfl,rfl⟩) (by simp [hS,h0])
   simp only [hc,hV,hS,hT,if_true] at f ⊢
   rcases hA with rfl | ⟨b,_,rfl,_⟩<;>simp [hq,h0] at f<;>simp [g145,h0,hq,hq1,g145L0e,f,hln,hkt]
 · by_cases h0:e.kids=[]
   · have f:=e1 (.bN []) [] X (.inr ⟨h0,rfl,rfl⟩) (by simp [hS,h0])
     simp only [hV,hS,hT,if_neg hc,List.append_assoc,hln] at f ⊢
     generalize X++(nn k++[some (bY Ex.cells e.ch)])=S2 at *
     rcases hA with rfl | ⟨b,_,rfl,_⟩<;>simp [hq,h0] at f<;>simp [g145,h0,hq,hq2,g145L0e,f,hlt]
   · have f:=e1 (.bI X.length 11 e.kids.length true) [] (X++[some (bY Ex.cells e.kids)]) (.inl ⟨by simp [hV,h0],by simp [hT,h0]⟩) (by simp [hS,h0])
     simp only [hV,hS,hT,if_neg hc,List.append_assoc,hln] at f ⊢
     generalize X++(nn k++[some (bY Ex.cells e.ch)])=S2 at *
     have hb2:e.kids.length*152≤140737488355328:=by omega
     generalize bY Ex.cells e.kids=F at *
     rcases hA with rfl | ⟨b,_,rfl,_⟩<;>simp [hq,hq0,h0] at f<;>simp [g145,h0,hb2,hm,hq,hq0,hq2,g145L0e,f,hlt]
theorem c145 {e:Ex} (h:e.Ok):(aQ AP).p 145 [e.pv]=some [.aJ (e.ch.map Ex.pv)]:=by
 have hk:=h.k
 have ha:=h.a
 obtain ⟨k,h2⟩:=J1 (A:=.pv (.aJ (e.bw.map Ar.pv))) ha _ 0 rfl (by omega) [] e.kids (by intro cs h;simp at h) (.inl rfl) (by omega)
 rw [List.drop_zero] at h2
 change cl AP g145L0 _=some (.exit 0,⟨[(1,.aG 1 0),(3,hV ([]++nn k) e.ch),(4,.pv (vI e.bw.length)),(12,.pv (.bool false))],[(1,e.II (.pv (.aJ (e.bw.map Ar.pv))))],hS ([]++nn k) e.ch,hT e.ch⟩) at h2
 have hb2:e.kids.length*152≤140737488355328:=by omega
 have hm:=BE (l:=e.kids)
 have hl:=BD (l:=e.ch)
 have hlen:(bY Ex.cells e.ch).length=e.ch.length*11:=d3 eg
 have hq0:∀bh ts,cm bh ts ([some (bY Ex.cells e.kids)])=([some (bY Ex.cells e.kids)],bh,ts):=(bP.one cI).norm
 rw [aw (af:=g145) rfl rfl (by decide)]
 by_cases hc:e.ch=[]
 · have h0:e.kids=[]∧e.bw=[]:=by have:=hc;simpa [Ex.ch] using this
   simp only [hc,hV,hS,hT,if_true,h0.1] at h2 ⊢
   rw [g145L0e] at h2
   simp [h0.1,h0.2] at h2
   simp [g145,h0.1,h0.2,g145L0e,h2]
 · have hg:∀Z:Option (List AV),([]++nn k++[Z])[k]?=some Z:=fun Z=>by simp
   by_cases h0:e.kids=[]
   · simp only [hV,hS,hT,if_neg hc,h0,if_true] at h2 ⊢
     have hg1:=hg (some (bY Ex.cells e.ch))
     generalize []++nn k++[some (bY Ex.cells e.ch)]=S2 at *
     generalize bY Ex.cells e.ch=F at *
     rw [g145L0e] at h2
     simp [h0] at h2
     simp at hl
     simp [-getElem?_pos,g145,h0,g145L0e,h2,hg1,hlen,hl]
   · simp only [hV,hS,hT,if_neg hc,if_neg h0] at h2 ⊢
     have hg1:=hg (some (bY Ex.cells e.ch))
     generalize []++nn k++[some (bY Ex.cells e.ch)]=S2 at *
     generalize bY Ex.cells e.ch=F at *
     generalize bY Ex.cells e.kids=F0 at *
     rw [g145L0e] at h2
     simp [hq0] at h2 hl
     simp [-getElem?_pos,g145,h0,hb2,hm,hq0,g145L0e,h2,hg1,hlen,hl]
theorem Ml {e:Ex} (ha:e.bw.length≤1000):∀(n i:Nat),e.bw.length-i=n→i≤e.bw.length→∀(X:Sh) (acc:List Ex),bP X→acc.length+n≤1000000→∃k,
   cl AP g414L0 ⟨[(3,hV X acc),(10,.pv (.aJ (e.bw.map Ar.pv))),(11,.pv (vI e.bw.length)),(12,.pv (vI i))],[],hS X acc,hT acc⟩ =
     some (.exit 0,⟨[(3,hV (X++nn k) (acc++(e.bw.drop i).map ev.body)),(10,.pv (.aJ (e.bw.map Ar.pv))),(11,.pv (vI e.bw.length)),(12,.pv (vI e.bw.length)),(13,.pv (.bool false))],[],hS (X++nn k) (acc++(e.bw.drop i).map ev.body),hT (acc++(e.bw.drop i).map ev.body)⟩)
 | 0,i,hn,hi,X,acc,hX,hl=>by
   have:i=e.bw.length:=by omega
   subst this
   refine ⟨0,?_⟩
   rw [List.drop_length,List.map_nil,List.append_nil,show nn 0=[] from rfl,List.append_nil]
   have hn:=(yy hX acc).norm
   have vc:(hV X acc=.own [] 0∧hT acc=[0])∨(∃b z k g,hV X acc=.bI b z k g∧hT acc=[]):=by
     unfold hV hT
     by_cases h0:acc=[]
     · left;simp [h0]
     · right;exact ⟨X.length,11,acc.length,true,by simp [h0],by simp [h0]⟩
   rw [g414L0e]
   rcases vc with ⟨v1,t1⟩ | ⟨b1,z1,k1,f1,v1,t1⟩<;>rw [v1,t1]<;>generalize hS X acc=S0 at hn ⊢<;>simp [g414B0,hn]
 | n+1,i,hn,hi,X,acc,hX,hl=>by
   have hi:i<e.bw.length:=by omega
   obtain ⟨x,hx⟩:=bO hi
   have hnX:=hX.norm
   have hcl:=Ex.bS x.body
   rw [cY hx,List.map_cons]
   have step:∃k,cl AP g414L0 ⟨[(3,hV (if acc=[] then X else X++[none]) (acc++[x.body])),(10,.pv (.aJ (e.bw.map Ar.pv))),(11,.pv (vI e.bw.length)),(12,.pv (vI (i+1:Nat)))],[],hS (if acc=[] then X else X++[none]) (acc++[x.body]),hT (acc++[x.body])⟩ =
     some (.exit 0,⟨[(3,hV (X++nn k) (acc++(x.body::(e.bw.drop (i+1)).map ev.body))),(10,.pv (.aJ (e.bw.map Ar.pv))),(11,.pv (vI e.bw.length)),(12,.pv (vI e.bw.length)),(13,.pv (.bool false))],[],hS (X++nn k) (acc++(x.body::(e.bw.drop (i+1)).map ev.body)),hT (acc++(x.body::(e.bw.drop (i+1)).map ev.body))⟩):=by
     by_cases h0:acc=[]
     · rw [if_pos h0]
       obtain ⟨k,ih⟩:=Ml ha n (i+1) (by omega) (by omega) X (acc++[x.body]) hX (by simp;omega)
       refine ⟨k,?_⟩
       rw [ih]
       simp only [List.append_assoc,List.singleton_append]
     · rw [if_neg h0]
       obtain ⟨k,ih⟩:=Ml ha n (i+1) (by omega) (by omega) (X++[none]) (acc++[x.body]) (hX.app (eJ 1)) (by simp;omega)
       refine ⟨k+1,?_⟩
       have e1:X++[none]++nn k=X++nn (k+1):=by simp [nn,List.replicate_succ]
       rw [ih,e1]
       simp only [List.append_assoc,List.singleton_append]
   obtain ⟨k,ih⟩:=step
   refine ⟨k,?_⟩
   generalize hV (X++nn k) (acc++(x.body::(e.bw.drop (i+1)).map ev.body))=V2 at ih ⊢
   generalize hS (X++nn k) (acc++(x.body::(e.bw.drop (i+1)).map ev.body))=S2 at ih ⊢
   generalize hT (acc++(x.body::(e.bw.drop (i+1)).map ev.body))=T2 at ih ⊢
   have hne:acc++[x.body]≠[]:=by simp
   have hn1:∀Y,bP Y→∀bh ts,cm bh ts (Y++[some (bY Ex.cells (acc++[x.body]))])=(Y++[some (bY Ex.cells (acc++[x.body]))],bh,ts):=fun Y hY=>(hY.app (bP.one cI)).norm
   have hfl:bY Ex.cells (acc++[x.body])=bY Ex.cells acc++x.body.cl:=by rw [qe,←Ex.sa];simp [bY]
   by_cases h0:acc=[]
   · subst h0
     rw [if_pos rfl] at ih
     have hn2:=hn1 X hX
     simp only [List.nil_append] at hne hn2 hfl ih
     simp only [hV,hS,hT,if_neg hne,if_true] at ih ⊢
     rw [hfl] at hn2 ih
     simp only [Cp,List.nil_append] at hn2 ih
     simp only [Ex.cl] at hn2
     rw [g414L0e] at ih ⊢
     simp [hn2] at ih
     simp (disch:=omega) [-getElem?_pos,g414B0,hx,hi,aA,hnX]
     rw [g414L0e]
     simp [hn2,ih]
   · rw [if_neg h0] at ih
     have hn2:=hn1 (X++[none]) (hX.app (eJ 1))
     have hn3:∀bh ts,cm bh ts (X++[some (bY Ex.cells acc)])=(X++[some (bY Ex.cells acc)],bh,ts):=(hX.app (bP.one cI)).norm
     simp only [hV,hS,hT,if_neg hne,if_neg h0] at ih ⊢
     have r1:(bY Ex.cells acc).length=acc.length*11:=d3 eg
     have r2:dC (bY Ex.cells acc)=false:=eu cI
     have r3:(bY Ex.cells acc).take (acc.length*11)=bY Ex.cells acc:=List.take_of_length_le (by omega)
     have hb2:(acc.length+1)*152≤140737488355328:=by omega
     rw [hfl] at hn2 ih
     rw [List.length_append,List.length_singleton,List.length_append,List.length_singleton] at ih
     have s1:∀u w:Option (List AV),(X++[u]).set X.length w=X++[w]:=fun u w=>by simp
     have s2:∀u:Option (List AV),(X++[u])[X.length]?=some u:=fun u=>by simp
     simp only [Ex.cl] at hn2
     rw [g414L0e] at ih ⊢
     generalize bY Ex.cells acc=F at *
     simp [hn2] at ih
     simp (disch:=omega) [-getElem?_pos,g414B0,hx,hi,aA,hn3,r1,r2,r3,s1,s2,hb2]
     rw [g414L0e]
     simp [hn2,ih]
theorem c414 {e:Ex} (h:e.Ok):(aQ AP).p 414 [e.pv]=some [.aJ (e.ch.map Ex.pv)]:=by
 have hk:=h.k
 have ha:=h.a
 obtain ⟨k,h2⟩:=Ml ha _ 0 rfl (by omega) [] e.kids (by intro cs h;simp at h) (by omega)
 rw [List.drop_zero] at h2
 change cl AP g414L0 _=some (.exit 0,⟨[(3,hV ([]++nn k) e.ch),(10,.pv (.aJ (e.bw.map Ar.pv))),(11,.pv (vI e.bw.length)),(12,.pv (vI e.bw.length)),(13,.pv (.bool false))],[],hS ([]++nn k) e.ch,hT e.ch⟩) at h2
 have hb2:e.kids.length*152≤140737488355328:=by omega
 have hm:=BE (l:=e.kids)
 have hl:=BD (l:=e.ch)
 have hlen:(bY Ex.cells e.ch).length=e.ch.length*11:=d3 eg
 have hq0:∀bh ts,cm bh ts ([some (bY Ex.cells e.kids)])=([some (bY Ex.cells e.kids)],bh,ts):=(bP.one cI).norm
 rw [aw (af:=g414) rfl rfl (by decide)]
 by_cases hc:e.ch=[]
 · have h0:e.kids=[]∧e.bw=[]:=by have:=hc;simpa [Ex.ch] using this
   simp only [hc,hV,hS,hT,if_true,h0.1] at h2 ⊢
   rw [g414L0e] at h2
   simp [h0.1,h0.2] at h2
   simp [g414,h0.1,h0.2,g414L0e,h2]
 · have hg:∀Z:Option (List AV),([]++nn k++[Z])[k]?=some Z:=fun Z=>by simp
   by_cases h0:e.kids=[]
   · simp only [hV,hS,hT,if_neg hc,h0,if_true] at h2 ⊢
     have hg1:=hg (some (bY Ex.cells e.ch))
     generalize []++nn k++[some (bY Ex.cells e.ch)]=S2 at *
     generalize bY Ex.cells e.ch=F at *
     rw [g414L0e] at h2
     simp [h0] at h2
     simp at hl
     simp [-getElem?_pos,g414,h0,g414L0e,h2,hg1,hlen,hl]
   · simp only [hV,hS,hT,if_neg hc,if_neg h0] at h2 ⊢
     have hg1:=hg (some (bY Ex.cells e.ch))
     generalize []++nn k++[some (bY Ex.cells e.ch)]=S2 at *
     generalize bY Ex.cells e.ch=F at *
     generalize bY Ex.cells e.kids=F0 at *
     rw [g414L0e] at h2
     simp [hq0] at h2 hl
     simp [-getElem?_pos,g414,h0,hb2,hm,hq0,g414L0e,h2,hg1,hlen,hl]
def Ex.at:Ex→List Int→Option Ex
 | e,[]=>some e
 | e,i::r=>if 0≤i∧i<e.ch.length then match e.ch[i.toNat]? with | some x=>x.at r | none=>none else none
def zO:List AV:=[.pv (vI 0),.pv (vI 0),.pv (.str []),.pv (vI 0),.own [] 0,.own [] 1,.pv (vI 0),.pv (.str []),.pv (vI 0),.pv (vI 0),.own [] 2]
end Go.Ab.Lw
namespace Go.Ab.Lw
open Ev
def H3 (l:List Ty) (t:Ty):Option Ty:=if t.kind=2∧0≤t.id∧t.id<l.length then l[t.id.toNat]? else none
theorem lE {l:List Ty} {t u:Ty} (h:H3 l t=some u):t.kind=2∧0≤t.id∧t.id<l.length∧l[t.id.toNat]?=some u:=by
 unfold H3 at h
 split at h
 · rename_i c;exact ⟨c.1,c.2.1,c.2.2,h⟩
 · cases h
theorem yz {l:List Ty} {t:Ty} (h:H3 l t=none):¬(t.kind=2∧0≤t.id∧t.id<l.length):=by
 intro c
 unfold H3 at h
 rw [if_pos c] at h
 rw [List.getElem?_eq_none_iff] at h
 omega
mutual
def Ty.l6 (l:List Ty):Ty→Ty
 | ⟨k,n,i,h,as⟩=>(H3 l ⟨k,n,i,h,as⟩).getD ⟨k,n,i,h,Ty.H4 l as⟩
def Ty.H4 (l:List Ty):List Ty→List Ty
 | []=>[]
 | a::r=>a.l6 l::Ty.H4 l r
end
theorem Ty.yA (l:List Ty):∀as:List Ty,Ty.H4 l as=as.map (Ty.l6 l)
 | []=>by simp [Ty.H4]
 | a::r=>by simp [Ty.H4,Ty.yA l r]
theorem Ty.lF (l:List Ty) (t:Ty):t.l6 l=(H3 l t).getD ⟨t.kind,t.name,t.id,t.home,t.args.map (Ty.l6 l)⟩:=by
 cases t;simp only [Ty.l6,Ty.yA]
theorem P' {s:List Ty} {t:Ty} (hS:Sm t.args) (h:∀x∈t.args,(aQ AP).p 48 [x.pv,.aJ (s.map Ty.pv)]=some [(x.l6 s).pv]):∀(n i:Nat),t.args.length-i=n→i≤t.args.length→∀acc:List Ty,acc=(t.args.take i).map (Ty.l6 s) →
   cl AP g48L0 ⟨[(1,.pv (.aJ (s.map Ty.pv))),(2,.aG 2 0),(4,.aG 4 0),(5,.aG 5 0),(6,.pv (vI i))],
     [(2,[.pv (vI t.kind),.pv (.str t.name),.pv (vI t.id),.pv (vI t.home),.pv (.aJ (t.args.map Ty.pv))]),(4,[.pv (vI 0),.pv (.str []),.pv (vI 0),.pv (vI 0),.own [] 0]),
       (5,[.pv (vI t.kind),.pv (.str t.name),.pv (vI t.id),.pv (vI t.home),.own (acc.map Ty.pv) 1])],[],[0,acc.length]⟩ =
     some (.exit 0,⟨[(1,.pv (.aJ (s.map Ty.pv))),(2,.aG 2 0),(4,.aG 4 0),(5,.aG 5 0),(6,.pv (vI t.args.length)),(33,.pv (.bool false))],
     [(2,[.pv (vI t.kind),.pv (.str t.name),.pv (vI t.id),.pv (vI t.home),.pv (.aJ (t.args.map Ty.pv))]),(4,[.pv (vI 0),.pv (.str []),.pv (vI 0),.pv (vI 0),.own [] 0]),
       (5,[.pv (vI t.kind),.pv (.str t.name),.pv (vI t.id),.pv (vI t.home),.own ((t.args.map (Ty.l6 s)).map Ty.pv) 1])],[],[0,t.args.length]⟩)
 | 0,i,hn,hi,acc,ha=>by
   have:i=t.args.length:=by omega
   subst this
   subst ha
   rw [g48L0e]
   simp [g48B0]
 | n+1,i,hn,hi,acc,ha=>by
   have hi:i<t.args.length:=by omega
   obtain ⟨x,hx⟩:=bO hi
   unfold Sm at hS
   have hb:(acc.length+1)*64≤140737488355328:=by subst ha;simp;omega
   have hc:=h x (bz hx)
   have ih:=P' hS h n (i+1) (by omega) (by omega) (acc++[x.l6 s]) (by rw [List.take_add_one,hx,ha];simp)
   rw [g48L0e] at ih ⊢
   simp at ih hc
   simp (disch:=omega) [-getElem?_pos,g48B0,hx,hi,hc,hb,aA]
   rw [g48L0e]
   simp [ih]
theorem c48 {s:List Ty} (hs:Sm s) {t:Ty} (hO:t.Ok):(aQ AP).p 48 [t.pv,.aJ (s.map Ty.pv)]=some [(t.l6 s).pv]:=by
 revert hO
 refine Ty.eP (p:=fun t=>t.Ok→(aQ AP).p 48 [t.pv,.aJ (s.map Ty.pv)]=some [(t.l6 s).pv]) ?_ t
 intro t ih hO
 rw [aw (af:=g48) rfl rfl (by decide)]
 unfold Sm at hs
 have h:=P' (s:=s) hO.sm (fun x hx=>ih x hx (hO.gV x hx)) _ 0 rfl (by omega) [] (by simp)
 rw [g48L0e] at h
 simp at h
 cases hp:H3 s t with
 | some u=>
   obtain ⟨a,b,c,d⟩:=lE hp
   have b1:¬t.id<0:=by omega
   simp (disch:=omega) [-getElem?_pos,g48,a,b,b1,c,d,Ty.lF s t,hp]
 | none=>
   have q:=yz hp
   by_cases a:t.kind=2
   · by_cases b:0≤t.id
     · have c:¬t.id<s.length:=fun c=>q ⟨a,b,c⟩
       simp [a] at h
       simp (disch:=omega) [-getElem?_pos,g48,a,b,c,g48L0e,h,Ty.lF s t,hp]
     · simp [a] at h
       simp (disch:=omega) [-getElem?_pos,g48,a,b,g48L0e,h,Ty.lF s t,hp]
   · simp (disch:=omega) [-getElem?_pos,g48,a,g48L0e,h,Ty.lF s t,hp]
inductive Ty.Wb:Ty→Prop
 | mk {t:Ty}:(t.kind=2→t.args=[])→(∀x∈t.args,Ty.Wb x)→Ty.Wb t
theorem H5 {s:List Ty} (hs:∀a∈s,a.Ok) {t:Ty} (h:t.Ok):(t.l6 s).Ok:=by
 revert h
 refine Ty.eP (p:=fun t=>t.Ok→(t.l6 s).Ok) ?_ t
 intro t ih h
 rw [Ty.lF]
 cases hp:H3 s t with
 | some u=>exact hs u (bz (lE hp).2.2.2)
 | none=>
   refine ⟨?_,?_⟩
   · have:=h.sm;unfold Sm at this ⊢;simpa using this
   · intro x hx;simp at hx
     obtain ⟨y,hy,rfl⟩:=hx
     exact ih y hy (h.gV y hy)
end Go.Ab.Lw
namespace Go.Ab.Lw
open Ev
structure Good (S:List Ty) (t:Ty):Prop where
 ok:t.Ok
 wf:t.Wf
 sub:∀x∈t.eY 1,x∈S
theorem uc {t:Ty} (hW:t.Wf):∀x∈t.nodes,x.kind=1→x∈t.eY 1:=by
 revert hW
 refine Ty.eP (p:=fun t=>t.Wf→∀x∈t.nodes,x.kind=1→x∈t.eY 1) ?_ t
 intro t ih hW x hx hk
 rw [Ty.bg] at hx
 rw [Ty.lC]
 simp only [List.mem_cons,List.mem_flatMap] at hx
 rcases hx with rfl | ⟨y,hy,hx⟩
 · have ea:=hW.var hk
   simp [hk,ea]
 · have:¬(t.kind=1∧t.args.length=0):=by
     rintro ⟨_,h⟩
     have:t.args=[]:=by simpa using h
     rw [this] at hy;simp at hy
   rw [if_neg this]
   simp only [List.mem_flatMap]
   exact ⟨y,hy,ih y hy (hW.gV y hy) x hx hk⟩
theorem BF {S:List Ty} (hf:S.length<1099511627776) (hO:∀x∈S,x.Ok) {l:List Ty} (hS:Sm l) (hG:∀t∈l,Good S t):(aQ AP).p 56 [.aJ (l.map Ty.pv)]=some [.aJ ((vars l).map vI)]:=by
 rw [←rX (fun t ht=>(hG t ht).wf)]
 refine c56 hf hO hS (fun t ht=>(hG t ht).ok) ?_
 intro x hx
 simp only [List.mem_flatMap] at hx
 obtain ⟨t,ht,hx⟩:=hx
 exact (hG t ht).sub x hx
theorem Mm {l:List En} (hS:Sm l):∀(n i:Nat),l.length-i=n→i≤l.length→∀acc:List En,acc.length≤i →
   cl AP g201L0 ⟨[(0,.pv (.aJ (l.map En.pv))),(3,.own (acc.map En.pv) 0),(4,.pv (vI i))],[],[],[acc.length]⟩ =
     some (.exit 0,⟨[(0,.pv (.aJ (l.map En.pv))),(3,.own ((acc++dJ (l.drop i)).map En.pv) 0),(4,.pv (vI l.length)),(10,.pv (.bool false))],[],[],[(acc++dJ (l.drop i)).length]⟩)
 | 0,i,hn,hi,acc,ha=>by
   have:i=l.length:=by omega
   subst this
   rw [g201L0e]
   simp [g201B0,dJ]
 | n+1,i,hn,hi,acc,ha=>by
   have hi:i<l.length:=by omega
   obtain ⟨x,hx⟩:=bO hi
   have k:=c181 (l:=l.drop (i+1)) (s:=x.name) (by unfold Sm at hS ⊢;simp;omega)
   unfold Sm at hS
   have hb:(acc.length+1)*88≤140737488355328:=by omega
   have hsl:=PK (sz:=7) (l:=l.map En.pv) (k:=.i64) (h:=(i:Int)+1) (by omega) (by simp;omega) (by simp)
   have hd:((i:Int)+1).toNat=i+1:=by omega
   rw [hd] at hsl
   rw [cY hx]
   simp only [J0] at k
   cases e:Cm (l.drop (i+1)) x.name with
   | some c=>
     have ea:(l.drop (i+1)).any (fun y=>decide (y.name=x.name))=true:=any_none.2 ⟨c,e⟩
     have es:dJ (x::l.drop (i+1))=dJ (l.drop (i+1)):=by simp only [dJ,ea,if_true]
     have ih:=Mm hS n (i+1) (by omega) (by omega) acc (by omega)
     rw [g201L0e] at ih ⊢
     rw [e] at k
     simp at ih k
     simp (disch:=omega) [-getElem?_pos,g201B0,hx,hi,aA,hsl,k,es]
     rw [g201L0e]
     simp [ih]
   | none=>
     have ea:(l.drop (i+1)).any (fun y=>decide (y.name=x.name))=false:=by
       cases h:(l.drop (i+1)).any (fun y=>decide (y.name=x.name)) with
       | false=>rfl
       | true=>obtain ⟨c,hc⟩:=any_none.1 h;rw [e] at hc;cases hc
     have es:dJ (x::l.drop (i+1))=x::dJ (l.drop (i+1)):=by simp only [dJ,ea];simp
     have ih:=Mm hS n (i+1) (by omega) (by omega) (acc++[x]) (by simp;omega)
     rw [g201L0e] at ih ⊢
     rw [e] at k
     simp at ih k
     simp (disch:=omega) [-getElem?_pos,g201B0,hx,hi,aA,hsl,k,es,hb]
     rw [g201L0e]
     simp [ih]
theorem c201 {l:List En} (hS:Sm l):(aQ AP).p 201 [.aJ (l.map En.pv)]=some [.aJ ((dJ l).map En.pv)]:=by
 have h:=Mm hS _ 0 rfl (by omega) [] (by simp)
 rw [aw (af:=g201) rfl rfl (by decide)]
 rw [g201L0e] at h
 simp at h
 simp [g201,g201L0e,h]
end Go.Ab.Lw
namespace Go.Ab.Lw
inductive Ty.Kn (K:Int→Prop):Ty→Prop
 | mk {t:Ty}:(t.kind≠4→K t.kind∧t.args=[])→t.name.length≤100→(∀x∈t.args,x.Kn K)→t.Kn K
theorem Ty.Kn.hd {K:Int→Prop} {t:Ty} (h:t.Kn K):t.kind≠4→K t.kind∧t.args=[]:=by cases h;assumption
theorem Ty.Kn.nm {K:Int→Prop} {t:Ty} (h:t.Kn K):t.name.length≤100:=by cases h;assumption
theorem Ty.Kn.kd {K:Int→Prop} {t:Ty} (h:t.Kn K):∀x∈t.args,x.Kn K:=by cases h;assumption
theorem Ty.Kn.imp {K K':Int→Prop} (hK:∀k,K k→K' k) {t:Ty} (h:t.Kn K):t.Kn K':=by
 induction h with
 | mk h1 hn _ ih=>exact .mk (fun q=>⟨hK _ (h1 q).1,(h1 q).2⟩) hn ih
theorem Ty.Kn.wf {K:Int→Prop} {t:Ty} (h:t.Kn K):t.Wf:=by
 induction h with
 | mk h1 _ _ ih=>exact ⟨fun q=>(h1 (by rw [q];decide)).2,ih⟩
theorem Ty.Kn.cw {K:Int→Prop} {t:Ty} (h:t.Kn K):t.Cw:=by
 induction h with
 | mk h1 _ _ ih=>exact ⟨fun q=>(h1 q).2,ih⟩
theorem Ty.Kn.bare {K:Int→Prop} {t:Ty} (h:t.args=[]) (hk:t.kind≠4→K t.kind) (hn:t.name.length≤100):t.Kn K:=.mk (fun q=>⟨hk q,h⟩) hn (by rw [h];simp)
theorem Ty.Kn.nodes {K:Int→Prop} {t:Ty} (h:t.Kn K):∀y∈t.nodes,y.kind≠4→K y.kind∧y.args=[]:=by
 induction h with
 | @mk t h1 _ _ ih=>
   intro y hy
   rw [Ty.bg] at hy
   simp only [List.mem_cons,List.mem_flatMap] at hy
   rcases hy with rfl | ⟨a,ha,hy⟩
   · exact h1
   · exact ih a ha y hy
@[simp] def KS (k:Int):Prop:=k=0∨k=1∨k=3
abbrev Ty.Kw (t:Ty):Prop:=t.Kn KS
theorem Ty.Kw.var {t:Ty} (h:t.Kw):t.kind=1→t.args=[]:=fun q=>(Ty.Kn.hd h (by rw [q];decide)).2
theorem Ty.Kw.gV {t:Ty} (h:t.Kw):∀x∈t.args,x.Kw:=Ty.Kn.kd h
@[simp] def KG (k:Int):Prop:=k=0∨k=3
@[simp] def KC (k:Int):Prop:=k=0∨k=2∨k=3
@[simp] def KV (k:Int):Prop:=k=0∨k=1∨k=2∨k=3
theorem KQ:∀k,KG k→KS k:=by intro k h;simp at h ⊢;omega
theorem Ob:∀k,KG k→KC k:=by intro k h;simp at h ⊢;omega
theorem Oc:∀k,KC k→KV k:=by intro k h;simp at h ⊢;omega
theorem BG {K K':Int→Prop} {s:List As} {t:Ty} (h:t.Kn K) (hK:∀k,K k→k≠1→K' k) (hs:∀i x,kr s i=some x→x.Kn K') (h1:K' 1∨∀y∈t.nodes,y.kind=1→∃x,kr s y.id=some x):(t.sub s).Kn K':=by
 induction h with
 | @mk t hh hn _ ih=>
   have hself:t∈t.nodes:=by rw [Ty.bg];simp
   rw [Ty.sub_eq]
   by_cases q:t.kind=1
   · rw [if_pos q]
     cases e:kr s t.id with
     | some x=>simpa using hs _ _ e
     | none=>
       rcases h1 with h1 | h1
       · have:=hh (by rw [q];decide)
         exact .mk (fun _=>⟨by simp only [Option.getD_none];rw [q];exact h1,by simpa using this.2⟩) (by simpa using hn) (by rw [Option.getD_none,this.2];simp)
       · obtain ⟨x,hx⟩:=h1 t hself q
         rw [hx] at e;cases e
   · rw [if_neg q]
     refine .mk (fun r=>?_) hn ?_
     · have:=hh r
       exact ⟨hK _ this.1 q,by simp [this.2]⟩
     · intro x hx
       simp only [List.mem_map] at hx
       obtain ⟨a,ha,rfl⟩:=hx
       refine ih a ha ?_
       rcases h1 with h1 | h1
       · exact .inl h1
       · right
         intro y hy
         refine h1 y ?_
         rw [Ty.bg]
         simp only [List.mem_cons,List.mem_flatMap]
         exact .inr ⟨a,ha,hy⟩
theorem H6 {K K':Int→Prop} {l:List Ty} {t:Ty} (h:t.Kn K) (hK:∀k,K k→k≠2→K' k) (hs:∀x∈l,x.Kn K') (h1:∀y∈t.nodes,y.kind=2→0≤y.id∧y.id<l.length):(t.l6 l).Kn K':=by
 induction h with
 | @mk t hh hn _ ih=>
   have hself:t∈t.nodes:=by rw [Ty.bg];simp
   rw [Ty.lF]
   cases e:H3 l t with
   | some x=>
     obtain ⟨_,_,_,hx⟩:=lE e
     simpa using hs _ (bz hx)
   | none=>
     have q:t.kind≠2:=fun q=>yz e ⟨q,(h1 t hself q).1,(h1 t hself q).2⟩
     simp only [Option.getD_none]
     refine .mk (fun r=>?_) hn ?_
     · have:=hh r
       exact ⟨hK _ this.1 q,by simp [this.2]⟩
     · intro x hx
       simp only [List.mem_map] at hx
       obtain ⟨a,ha,rfl⟩:=hx
       refine ih a ha ?_
       intro y hy
       refine h1 y ?_
       rw [Ty.bg]
       simp only [List.mem_cons,List.mem_flatMap]
       exact .inr ⟨a,ha,hy⟩
end Go.Ab.Lw
namespace Go.Ab.Lw
open Ev
theorem Ex.Cr {e x:Ex} (h:x∈e.ch):SizeOf.sizeOf x<SizeOf.sizeOf e:=by
 rw [Ex.ch,List.mem_append,List.mem_map] at h
 cases e
 rcases h with h | ⟨a,ha,rfl⟩
 · have:=_root_.List.sizeOf_lt_of_mem h;simp at *;omega
 · have:=_root_.List.sizeOf_lt_of_mem ha;have:=ev.ua a;simp at *;omega
def Ex.sz (e:Ex):Nat:=1+(e.ch.attach.map fun x=>x.1.sz).sum
termination_by SizeOf.sizeOf e
decreasing_by exact Ex.Cr x.2
theorem Ex.pI (e:Ex):e.sz=1+(e.ch.map Ex.sz).sum:=by
 rw [Ex.sz,List.map_attach_eq_pmap,List.pmap_eq_map]
theorem Ex.Mn (e:Ex):1≤e.sz:=by rw [Ex.pI];omega
theorem sb {α:Type} {l:List α} {f:α→Nat} {M:Nat} (h:∀x∈l,f x≤M):(l.map f).sum≤l.length*M:=by
 induction l with
 | nil=>simp
 | cons a r ih=>
   have h1:=h a (by simp)
   have h2:=ih fun x hx=>h x (by simp [hx])
   simp only [List.map_cons,List.sum_cons,List.length_cons,Nat.add_mul]
   omega
theorem sd {α:Type} {l:List α} {f:α→Nat} {x:α} (h:x∈l):f x≤(l.map f).sum:=by
 induction l with
 | nil=>cases h
 | cons a r ih=>
   simp only [List.map_cons,List.sum_cons]
   rcases List.mem_cons.1 h with rfl | h
   · omega
   · have:=ih h;omega
theorem Ex.vM {e x:Ex} (h:x∈e.ch):x.sz<e.sz:=by
 have:=sd (f:=Ex.sz) h
 rw [e.pI]
 omega
@[simp] def KT (k:Int):Prop:=k=0∨k=5
inductive l7:Ex→Prop
 | leaf {e:Ex}:(e.kind=1∨e.kind=2)∧e.name.length≤100∨e.kind=3∧0≤e.num∧e.num<4∨e.kind=10→e.kids=[]→e.bw=[]→l7 e
 | lam {e a:Ex}:e.kind=4→e.name.length≤100→e.kids=[a]→e.bw=[]→l7 a→l7 e
 | app {e a b:Ex}:e.kind=5→e.kids=[a,b]→e.bw=[]→l7 a→l7 b→l7 e
 | yB {e a b:Ex}:e.kind=6∨e.kind=7→e.name.length≤100→e.kids=[a,b]→e.bw=[]→l7 a→l7 b→l7 e
 | se {e a:Ex}:e.kind=8→e.kids=[a]→l7 a→e.bw.length≤10 →
     (∀x∈e.bw,x.iR.length≤100∧x.vars.length≤10∧∀v∈x.vars,v.length≤100)→(∀x∈e.bw,l7 x.body)→l7 e
 | KR {e a:Ex}:e.kind=9→e.kids=[a]→e.bw=[]→e.ty.Kn KT→e.ty.nodes.length≤10000→l7 a→l7 e
 | held {e a:Ex}:e.kind=11→e.kids=[a]→e.bw=[]→l7 a→l7 e
theorem l7.c {e:Ex} (h:l7 e):∀x∈e.ch,l7 x:=by
 intro x hx
 rw [Ex.ch,List.mem_append,List.mem_map] at hx
 cases h with
 | leaf _ h2 h3=>rw [h2,h3] at hx;simp at hx
 | lam _ _ h2 h3 h=>rw [h2,h3] at hx;simp at hx;subst hx;exact h
 | app _ h2 h3 h h'=>rw [h2,h3] at hx;simp at hx;rcases hx with rfl | rfl<;>assumption
 | yB _ _ h2 h3 h h'=>rw [h2,h3] at hx;simp at hx;rcases hx with rfl | rfl<;>assumption
 | KR _ h2 h3 _ _ h=>rw [h2,h3] at hx;simp at hx;subst hx;exact h
 | held _ h2 h3 h=>rw [h2,h3] at hx;simp at hx;subst hx;exact h
 | se _ h2 h _ _ h6=>
   rw [h2] at hx
   simp at hx
   rcases hx with rfl | ⟨a,ha,rfl⟩
   · exact h
   · exact h6 a ha
def wN (n:Nat):Nat:=50 ^ (n / 12)*(2*(n % 12)+1)
theorem Od {n m:Nat} (h:n≤m):wN n≤wN m:=by
 have step:∀n,wN n≤wN (n+1):=by
   intro n
   unfold wN
   by_cases q:n % 12=11
   · have h1:(n+1) / 12=n / 12+1:=by omega
     have h2:(n+1) % 12=0:=by omega
     rw [h1,h2,q,Nat.pow_succ]
     generalize 50 ^ (n / 12)=P
     omega
   · have h1:(n+1) / 12=n / 12:=by omega
     have h2:(n+1) % 12=n % 12+1:=by omega
     rw [h1,h2]
     exact Nat.mul_le_mul_left _ (by omega)
 induction h with
 | refl=>exact Nat.le_refl _
 | step _ ih=>exact Nat.le_trans ih (step _)
theorem sf (m:Nat):wN (12*m)=50 ^ m:=by
 unfold wN
 have h1:12*m / 12=m:=by omega
 have h2:12*m % 12=0:=by omega
 rw [h1,h2];omega
end Go.Ab.Lw
namespace Go.Ab.Lw
open Ev
inductive Ex.One:Ex→Prop
 | mk {e:Ex}:(e.kind=8→e.kids.length=1)→(∀x∈e.ch,x.One)→e.One
theorem Ex.One.h {e:Ex} (h:e.One):e.kind=8→e.kids.length=1:=by cases h;assumption
theorem Ex.One.c {e:Ex} (h:e.One):∀x∈e.ch,x.One:=by cases h;assumption
end Go.Ab.Lw
namespace Go.Ab.Lw
open Ev
def mg (p:List Int):PV:=.aJ (p.map vI)
@[simp] theorem PM (p:List Int):mg p=.aJ (p.map vI):=rfl
theorem J3:El mg 1 false:=⟨fun x=>by simp,fun x=>by simp⟩
@[simp] theorem KU {l:List (List Int)}:bC 1 (l.map mg)=true:=J3.head l
def s7:Nat→List (List (List Int))→List (List Int)
 | _,[]=>[]
 | i,l::r=>l.map (fun p=>(i:Int)::p)++s7 (i+1) r
def Ex.hl (e:Ex):List (List Int):=if e.kind=10 then [[]] else s7 0 (e.ch.attach.map fun x=>x.1.hl)
termination_by SizeOf.sizeOf e
decreasing_by exact Ex.Cr x.2
theorem Ex.Cs (e:Ex):e.hl=if e.kind=10 then [[]] else s7 0 (e.ch.map Ex.hl):=by
 rw [Ex.hl,List.map_attach_eq_pmap,List.pmap_eq_map]
theorem Ct:∀{l:List (List (List Int))} {i:Nat},(s7 i l).length=(l.map List.length).sum
 | [],_=>rfl
 | a::r,i=>by simp only [s7,List.length_append,List.length_map,List.map_cons,List.sum_cons,Ct (l:=r)]
theorem Cu:∀{l:List (List (List Int))} {i:Nat} {p:List Int},p∈s7 i l→∃(j:Nat) (c:List (List Int)) (q:List Int),l[j]?=some c∧q∈c∧p=((i+j:Nat):Int)::q
 | a::r,i,p,h=>by
   simp only [s7,List.mem_append,List.mem_map] at h
   rcases h with ⟨q,hq,rfl⟩ | h
   · exact ⟨0,a,q,rfl,hq,rfl⟩
   · obtain ⟨j,c,q,h1,h2,h3⟩:=Cu h
     exact ⟨j+1,c,q,by simpa using h1,h2,by rw [h3];congr 2;omega⟩
theorem sj (e:Ex):e.hl.length≤e.sz:=by
 refine Ex.recC (p:=fun e=>e.hl.length≤e.sz) ?_ e
 intro e ih
 rw [Ex.Cs,Ex.pI]
 split
 · simp
 · rw [Ct,List.map_map]
   have:∀l:List Ex,(∀x∈l,x.hl.length≤x.sz)→(l.map (List.length ∘ Ex.hl)).sum≤(l.map Ex.sz).sum:=by
     intro l
     induction l with
     | nil=>intro _;simp
     | cons a r ihr=>
       intro h
       have h1:=h a (by simp)
       have h2:=ihr fun x hx=>h x (by simp [hx])
       simp only [List.map_cons,List.sum_cons,Function.comp_apply]
       omega
   have:=this e.ch ih
   omega
theorem vN (e:Ex):∀p∈e.hl,p.length<e.sz∧∃x,e.at p=some x∧x.kind=10:=by
 refine Ex.recC (p:=fun e=>∀p∈e.hl,p.length<e.sz∧∃x,e.at p=some x∧x.kind=10) ?_ e
 intro e ih p hp
 rw [Ex.Cs] at hp
 split at hp
 · rename_i hk
   simp at hp
   subst hp
   exact ⟨e.Mn,e,rfl,hk⟩
 · obtain ⟨j,c,q,h1,h2,rfl⟩:=Cu hp
   simp only [List.getElem?_map,Option.map_eq_some_iff] at h1
   obtain ⟨y,hy,rfl⟩:=h1
   obtain ⟨a,x,b,hk⟩:=ih y (bz hy) q h2
   have hs:=Ex.vM (bz hy)
   have hj:=(List.getElem?_eq_some_iff.1 hy).1
   refine ⟨by simp only [List.length_cons];omega,x,?_,hk⟩
   rw [Ex.at,if_pos (by omega)]
   have e1:((0+j:Nat):Int).toNat=j:=by omega
   rw [e1,hy]
   exact b
theorem KX {ch:List Ex} {I:Nat} {hls:List (List Int)} (hL:hls.length≤1000000000) (hp:∀p∈hls,p.length≤1000000000):∀(n k:Nat),hls.length-k=n→k≤hls.length→∀acc:List (List Int),acc.length+n≤2000000000 →
   cl AP g543L1 ⟨[(3,.own (acc.map mg) 0),(4,.pv (vI I)),(14,.pv (.aJ (ch.map Ex.pv))),(15,.pv (vI ch.length)),(16,.pv (vI I)),(22,.pv (.aJ (hls.map mg))),(23,.pv (vI hls.length)),(24,.pv (vI k))],[],[],[acc.length]⟩ =
     some (.exit 2,⟨[(3,.own ((acc++(hls.drop k).map fun p=>(I:Int)::p).map mg) 0),(4,.pv (vI I)),(14,.pv (.aJ (ch.map Ex.pv))),(15,.pv (vI ch.length)),(16,.pv (vI I)),(22,.pv (.aJ (hls.map mg))),(23,.pv (vI hls.length)),(24,.pv (vI hls.length)),(25,.pv (.bool false))],[],[],[(acc++(hls.drop k).map fun p=>(I:Int)::p).length]⟩)
 | 0,k,hn,hk,acc,ha=>by
   have:k=hls.length:=by omega
   subst this
   rw [List.drop_length,List.map_nil,List.append_nil,g543L1e]
   simp [g543B1]
 | n+1,k,hn,hk,acc,ha=>by
   have hk:k<hls.length:=by omega
   obtain ⟨p,hx⟩:=bO hk
   have hpl:=hp p (bz hx)
   have ih:=KX (ch:=ch) (I:=I) hL hp n (k+1) (by omega) (by omega) (acc++[(I:Int)::p]) (by simp;omega)
   have hb1:(1+p.length)*8≤140737488355328:=by omega
   have hb2:(acc.length+1)*24≤140737488355328:=by omega
   have hh:=kt.head p
   rw [cY hx,List.map_cons]
   rw [g543L1e] at ih ⊢
   simp at ih hh
   by_cases hz:p=[]
   · subst hz
     simp at ih
     simp (disch:=omega) [-getElem?_pos,g543B1,hx,hk,hb1,hb2,aA]
     rw [g543L1e]
     simp [ih]
   · simp (disch:=omega) [-getElem?_pos,g543B1,hx,hk,hb1,hb2,hh,hz,aA]
     rw [g543L1e]
     simp [ih]
theorem Oe {ch:List Ex} {e:Ex} (hch:ch=e.ch) (hN:ch.length≤1000000) (hB:∀x∈ch,x.hl.length≤1000000000∧∀p∈x.hl,p.length≤1000000000) (ih:∀x∈ch,(aQ AP).p 543 [x.pv]=some [.aJ (x.hl.map mg)]) :
   ∀(n i:Nat),ch.length-i=n→i≤ch.length→∀acc:List (List Int),acc.length+(s7 i ((ch.drop i).map Ex.hl)).length≤1000000000 →
   cl AP g543L0 ⟨[(3,.own (acc.map mg) 0),(14,.pv (.aJ (ch.map Ex.pv))),(15,.pv (vI ch.length)),(16,.pv (vI i))],[],[],[acc.length]⟩ =
     some (.exit 0,⟨[(3,.own ((acc++s7 i ((ch.drop i).map Ex.hl)).map mg) 0),(14,.pv (.aJ (ch.map Ex.pv))),(15,.pv (vI ch.length)),(16,.pv (vI ch.length)),(17,.pv (.bool false))],[],[],[(acc++s7 i ((ch.drop i).map Ex.hl)).length]⟩)
 | 0,i,hn,hi,acc,ha=>by
   have:i=ch.length:=by omega
   subst this
   rw [List.drop_length]
   simp only [List.map_nil,s7,List.append_nil]
   rw [g543L0e]
   simp [g543B0]
 | n+1,i,hn,hi,acc,ha=>by
   have hi:i<ch.length:=by omega
   obtain ⟨x,hx⟩:=bO hi
   have k:=ih x (bz hx)
   obtain ⟨hb1,hb2⟩:=hB x (bz hx)
   rw [cY hx,List.map_cons] at ha ⊢
   simp only [s7,List.length_append,List.length_map] at ha ⊢
   have e1:=KX (ch:=ch) (I:=i) hb1 hb2 _ 0 rfl (by omega) acc (by omega)
   rw [List.drop_zero] at e1
   have e2:=Oe hch hN hB ih n (i+1) (by omega) (by omega) (acc++x.hl.map fun p=>(i:Int)::p) (by simp only [List.length_append,List.length_map];omega)
   generalize s7 (i+1) ((ch.drop (i+1)).map Ex.hl)=R at *
   generalize hH:x.hl=H at *
   rw [g543L1e] at e1
   rw [g543L0e] at e2 ⊢
   simp at k e1 e2
   simp (disch:=omega) [-getElem?_pos,g543B0,hx,hi,k,aA,g543L1e,e1]
   rw [g543L0e]
   simp [e2]
theorem bounds {e:Ex} (hs:e.sz≤100000000):∀x∈e.ch,x.hl.length≤1000000000∧∀p∈x.hl,p.length≤1000000000:=by
 intro x hx
 have h1:=Ex.vM hx
 have h2:=sj x
 refine ⟨by omega,fun p hp=>?_⟩
 have:=(vN x p hp).1
 omega
theorem c543 (e:Ex):e.Ok→e.sz≤100000000→(aQ AP).p 543 [e.pv]=some [.aJ (e.hl.map mg)]:=by
 refine Ex.recC (p:=fun e=>e.Ok→e.sz≤100000000→(aQ AP).p 543 [e.pv]=some [.aJ (e.hl.map mg)]) ?_ e
 intro e ih ho hs
 have k:=c414 ho
 have hl:=sj e
 have hb:=bounds hs
 have hN:e.ch.length≤1000000:=by rw [Ex.jD];have:=ho.k;have:=ho.a;omega
 rw [aw (af:=g543) rfl rfl (by decide)]
 rw [Ex.Cs] at hl ⊢
 by_cases hk:e.kind=10
 · simp [g543,hk]
 · rw [if_neg hk] at hl ⊢
   have e1:=Oe (e:=e) rfl hN hb (fun x hx=>ih x hx (ho.c x hx) (by have:=Ex.vM hx;omega)) _ 0 rfl (by omega) [] (by simp only [List.drop_zero,List.length_nil];omega)
   rw [List.drop_zero,List.nil_append] at e1
   generalize s7 0 (e.ch.map Ex.hl)=H at *
   rw [g543L0e] at e1
   simp at k e1
   simp [g543,hk,k,g543L0e,e1]
end Go.Ab.Lw
namespace Go.Ab.Lw
open Ev
theorem KY {ch:List Ex} {I:Nat} {hls:List (List Int)} (hL:hls.length≤1000000000) (hp:∀p∈hls,p.length≤1000000000):∀(n k:Nat),hls.length-k=n→k≤hls.length→∀acc:List (List Int),acc.length+n≤2000000000 →
   cl AP g539L1 ⟨[(3,.own (acc.map mg) 0),(4,.pv (.aJ (ch.map Ex.pv))),(5,.pv (vI I)),(6,.pv (.aJ (hls.map mg))),(7,.pv (vI k))],[],[],[acc.length]⟩ =
     some (.exit 2,⟨[(3,.own ((acc++(hls.drop k).map fun p=>(I:Int)::p).map mg) 0),(4,.pv (.aJ (ch.map Ex.pv))),(5,.pv (vI I)),(6,.pv (.aJ (hls.map mg))),(7,.pv (vI hls.length)),(28,.pv (.bool false))],[],[],[(acc++(hls.drop k).map fun p=>(I:Int)::p).length]⟩)
 | 0,k,hn,hk,acc,ha=>by
   have:k=hls.length:=by omega
   subst this
   rw [List.drop_length,List.map_nil,List.append_nil,g539L1e]
   simp [g539B1]
 | n+1,k,hn,hk,acc,ha=>by
   have hk:k<hls.length:=by omega
   obtain ⟨p,hx⟩:=bO hk
   have hpl:=hp p (bz hx)
   have ih:=KY (ch:=ch) (I:=I) hL hp n (k+1) (by omega) (by omega) (acc++[(I:Int)::p]) (by simp;omega)
   have hb1:(1+p.length)*8≤140737488355328:=by omega
   have hb2:(acc.length+1)*24≤140737488355328:=by omega
   have hh:=kt.head p
   rw [cY hx,List.map_cons]
   rw [g539L1e] at ih ⊢
   simp at ih hh
   by_cases hz:p=[]
   · subst hz
     simp at ih
     simp (disch:=omega) [-getElem?_pos,g539B1,hx,hk,hb1,hb2,aA]
     rw [g539L1e]
     simp [ih]
   · simp (disch:=omega) [-getElem?_pos,g539B1,hx,hk,hb1,hb2,hh,hz,aA]
     rw [g539L1e]
     simp [ih]
theorem Of {ch:List Ex} (hN:ch.length≤1000000) (hB:∀x∈ch,x.hl.length≤1000000000∧∀p∈x.hl,p.length≤1000000000) (ih:∀x∈ch,(aQ AP).p 539 [x.pv]=some [.aJ (x.hl.map mg)]) :
   ∀(n i:Nat),ch.length-i=n→i≤ch.length→∀acc:List (List Int),acc.length+(s7 i ((ch.drop i).map Ex.hl)).length≤1000000000 →
   cl AP g539L0 ⟨[(3,.own (acc.map mg) 0),(4,.pv (.aJ (ch.map Ex.pv))),(5,.pv (vI i))],[],[],[acc.length]⟩ =
     some (.exit 0,⟨[(3,.own ((acc++s7 i ((ch.drop i).map Ex.hl)).map mg) 0),(4,.pv (.aJ (ch.map Ex.pv))),(5,.pv (vI ch.length)),(17,.pv (.bool false))],[],[],[(acc++s7 i ((ch.drop i).map Ex.hl)).length]⟩)
 | 0,i,hn,hi,acc,ha=>by
   have:i=ch.length:=by omega
   subst this
   rw [List.drop_length]
   simp only [List.map_nil,s7,List.append_nil]
   rw [g539L0e]
   simp [g539B0]
 | n+1,i,hn,hi,acc,ha=>by
   have hi:i<ch.length:=by omega
   obtain ⟨x,hx⟩:=bO hi
   have k:=ih x (bz hx)
   obtain ⟨hb1,hb2⟩:=hB x (bz hx)
   rw [cY hx,List.map_cons] at ha ⊢
   simp only [s7,List.length_append,List.length_map] at ha ⊢
   have e1:=KY (ch:=ch) (I:=i) hb1 hb2 _ 0 rfl (by omega) acc (by omega)
   rw [List.drop_zero] at e1
   have e2:=Of hN hB ih n (i+1) (by omega) (by omega) (acc++x.hl.map fun p=>(i:Int)::p) (by simp only [List.length_append,List.length_map];omega)
   generalize s7 (i+1) ((ch.drop (i+1)).map Ex.hl)=R at *
   generalize hH:x.hl=H at *
   rw [g539L1e] at e1
   rw [g539L0e] at e2 ⊢
   simp at k e1 e2
   simp (disch:=omega) [-getElem?_pos,g539B0,hx,hi,k,aA,g539L1e,e1]
   rw [g539L0e]
   simp [e2]
theorem c539 (e:Ex):e.Ok→e.sz≤100000000→(aQ AP).p 539 [e.pv]=some [.aJ (e.hl.map mg)]:=by
 refine Ex.recC (p:=fun e=>e.Ok→e.sz≤100000000→(aQ AP).p 539 [e.pv]=some [.aJ (e.hl.map mg)]) ?_ e
 intro e ih ho hs
 have k:=c145 ho
 have hl:=sj e
 have hb:=bounds hs
 have hN:e.ch.length≤1000000:=by rw [Ex.jD];have:=ho.k;have:=ho.a;omega
 rw [aw (af:=g539) rfl rfl (by decide)]
 rw [Ex.Cs] at hl ⊢
 by_cases hk:e.kind=10
 · simp [g539,hk]
 · rw [if_neg hk] at hl ⊢
   have e1:=Of hN hb (fun x hx=>ih x hx (ho.c x hx) (by have:=Ex.vM hx;omega)) _ 0 rfl (by omega) [] (by simp only [List.drop_zero,List.length_nil];omega)
   rw [List.drop_zero,List.nil_append] at e1
   generalize s7 0 (e.ch.map Ex.hl)=H at *
   rw [g539L0e] at e1
   simp at k e1
   simp [g539,hk,k,g539L0e,e1]
end Go.Ab.Lw
namespace Go.Ab.Lw
open Ev
abbrev mU:List (List UInt8):=varNames
inductive gg (ds:List Dt):Nat→Ex→Prop
 | var {n:Nat} {s:List UInt8}:s∈mU→gg ds n ⟨1,0,s,0,[],[],bW⟩
 | int {n:Nat} {m:Int}:0≤m→m<4→gg ds n ⟨3,0,[],m,[],[],bW⟩
 | iR {n:Nat} {d:Dt} {c:pH}:d∈ds→c∈d.cons→gg ds n ⟨2,0,c.name,0,[],[],bW⟩
 | gone {n:Nat}:gg ds n ⟨2,0,[71,111,110,101],0,[],[],bW⟩
 | hole {n:Nat}:gg ds n ⟨10,0,[],0,[],[],bW⟩
 | lam {n:Nat} {s:List UInt8} {a:Ex}:s∈mU→gg ds n a→gg ds (n+1) ⟨4,0,s,0,[a],[],bW⟩
 | app {n:Nat} {a b:Ex}:gg ds n a→gg ds n b→gg ds (n+1) ⟨5,0,[],0,[a,b],[],bW⟩
 | yB {n:Nat} {k:Int} {s:List UInt8} {a b:Ex}:k=6∨k=7→s∈mU→gg ds n a→gg ds n b→gg ds (n+1) ⟨k,0,s,0,[a,b],[],bW⟩
 | KR {n:Nat} {a:Ex} {t:Ty}:gg ds n a→gM (·∈ds) [] 2 t→gg ds (n+1) ⟨9,0,[],0,[a],[],t⟩
 | held {n:Nat} {a:Ex}:gg ds n a→gg ds (n+1) ⟨11,0,[],0,[a],[],bW⟩
 | up {n:Nat} {a:Ex}:gg ds n a→gg ds (n+1) a
 | se {n:Nat} {d:Dt} {a:Ex} {as:List Ar}:d∈ds→gg ds n a→as.length=d.cons.length→(∀x∈as,gg ds n x.body)→(∀x∈as,x.pos=0∧∀v∈x.vars,v∈mU) →
     (∀(i:Nat) (c:pH) (x:Ar),d.cons[i]?=some c→as[i]?=some x→x.iR=c.name∧x.vars.length=c.fields.length)→gg ds (n+1) ⟨8,0,[],0,[a],as,bW⟩
end Go.Ab.Lw
namespace Go.Ab.Lw
open Ev
def D8 (d:Dt):Prop:=d.params.length≤8∧0<d.cons.length∧d.cons.length≤8∧∀c∈d.cons,c.fields.length≤8
theorem H7:∀d∈cH,D8 d:=by
 intro d hd
 simp [cH] at hd
 rcases hd with rfl | rfl | rfl | rfl | rfl | rfl | rfl<;>simp [D8]
structure Qa (e:Ex) (C:List AV):Prop where
 len:C.length=11
 leaf:C.all bp=true
 dO:∀sh,dQ sh C=some e.cells
 flat:cy.gr C=true
 iy:fD C=true
def gE (f:Bool) (l:List PV):AV:=if f then .bN l else .pv (.aJ l)
def ej (fk fa fg:Bool) (e:Ex):List AV:=[.pv (vI e.kind),.pv (vI e.pos),.pv (.str e.name),.pv (vI e.num),gE fk (e.kids.map Ex.pv),gE fa (e.bw.map Ar.pv),.pv (vI e.ty.kind),.pv (.str e.ty.name),.pv (vI e.ty.id),.pv (vI e.ty.home),gE fg (e.ty.args.map Ty.pv)]
theorem eh (fk fa fg:Bool) (e:Ex):Qa e (ej fk fa fg e):=by
 refine ⟨rfl,?_,?_,?_,?_⟩
 · cases fk<;>cases fa<;>cases fg<;>rfl
 · intro sh
   rw [Ex.bS]
   cases fk<;>cases fa<;>cases fg<;>simp [ej,gE]
 · cases fk<;>cases fa<;>cases fg<;>simp [ej,gE]
 · cases fk<;>cases fa<;>cases fg<;>simp [ej,gE]
end Go.Ab.Lw
namespace Go.Ab.Lw
open Ev
def m6:List AV:=[.pv (vI 0),.pv (vI 0),.pv (.str []),.pv (vI 0),.own [] 0,.own [] 1,.pv (vI 0),.pv (.str []),.pv (vI 0),.pv (vI 0),.own [] 2]
def qj (d:Dt):List AV:=[.pv (vI d.pos),.pv (.str d.name),.pv (.aJ (d.params.map .str)),.pv (.aJ (d.cons.map pH.pv))]
def J4 (a:Ex) (as:List Ar):List AV:=[.pv (vI 8),.pv (vI 0),.pv (.str []),.pv (vI 0),.own [a.pv] 3,.own (as.map Ar.pv) 4,.pv (vI 0),.pv (.str []),.pv (vI 0),.pv (vI 0),.own [] 5]
def Og (c:pH) (vs:List d4):List AV:=[.pv (vI 0),.pv (.str c.name),.own (vs.map .str) 6,.pv (vI 0),.pv (vI 0),.pv (.str []),.pv (vI 0),.own [] 7,.own [] 8,.pv (vI 0),.pv (.str []),.pv (vI 0),.pv (vI 0),.own [] 9]
def BH (ds:List Dt) (dep:Nat) (d:Dt) (as:List Ar):Prop:=
 (∀x∈as,gg ds dep x.body)∧(∀x∈as,x.pos=0∧∀v∈x.vars,v∈mU)∧(∀(i:Nat) (c:pH) (x:Ar),d.cons[i]?=some c→as[i]?=some x→x.iR=c.name∧x.vars.length=c.fields.length)
end Go.Ab.Lw
namespace Go.Ab.Lw
open Ev
structure Sl where
 bd:Bool
 ty:Ty
 home:Int
 base:Bool
def Sl.pv (x:Sl):PV:=.agg [.bool x.bd,vI x.ty.kind,.str x.ty.name,vI x.ty.id,vI x.ty.home,.aJ (x.ty.args.map Ty.pv),vI x.home,.bool x.base]
@[simp] theorem Sl.lz (x:Sl):x.pv=.agg [.bool x.bd,.int .i64 x.ty.kind,.str x.ty.name,.int .i64 x.ty.id,.int .i64 x.ty.home,.aJ (x.ty.args.map Ty.pv),.int .i64 x.home,.bool x.base]:=rfl
structure Ch where
 id:Int
 bh:Sl
 nw:Bool
def Ch.pv (x:Ch):PV:=.agg [vI x.id,.bool x.bh.bd,vI x.bh.ty.kind,.str x.bh.ty.name,vI x.bh.ty.id,vI x.bh.ty.home,.aJ (x.bh.ty.args.map Ty.pv),vI x.bh.home,.bool x.bh.base,.bool x.nw]
@[simp] theorem Ch.lz (x:Ch):x.pv=.agg [.int .i64 x.id,.bool x.bh.bd,.int .i64 x.bh.ty.kind,.str x.bh.ty.name,.int .i64 x.bh.ty.id,.int .i64 x.bh.ty.home,.aJ (x.bh.ty.args.map Ty.pv),.int .i64 x.bh.home,.bool x.bh.base,.bool x.nw]:=rfl
structure d5 where
 sl:List Sl
 tr:List Ch
def d5.pv (s:d5):PV:=.agg [.aJ (s.sl.map Sl.pv),.aJ (s.tr.map Ch.pv)]
@[simp] theorem d5.lz (s:d5):s.pv=.agg [.aJ (s.sl.map Sl.pv),.aJ (s.tr.map Ch.pv)]:=rfl
structure d5.Ok (s:d5) (n m:Nat):Prop where
 sl:s.sl.length≤n
 tr:s.tr.length≤m
 ty:∀x∈s.sl,x.ty.Ok
theorem KZ:El Sl.pv 8 true:=⟨fun _=>rfl,fun _=>rfl⟩
theorem H8:El Ch.pv 10 true:=⟨fun _=>rfl,fun _=>rfl⟩
def iz (s:List Sl) (t:Ty):Option Sl:=if t.kind=1∧0≤t.id then (match s[t.id.toNat]? with | some x=>if x.bd then some x else none | none=>none) else none
theorem gq {s:List Sl} {t:Ty} {x:Sl} (h:iz s t=some x):t.kind=1∧∃i:Nat,t.id=i∧s[i]?=some x∧x.bd=true:=by
 unfold iz at h
 split at h
 · rename_i q
   refine ⟨q.1,t.id.toNat,by omega,?_⟩
   split at h
   · rename_i y hy
     split at h
     · rename_i hb;cases h;exact ⟨hy,hb⟩
     · cases h
   · cases h
 · cases h
theorem c392 {s:d5} {t:Ty}:(aQ AP).p 392 [s.pv,t.pv]=some [.bool (iz s.sl t).isSome]:=by
 rw [aw (af:=g392) rfl rfl (by decide)]
 unfold iz
 by_cases k:t.kind=1
 · by_cases h0:0≤t.id
   · obtain ⟨i,hi⟩:∃i:Nat,t.id=i:=⟨t.id.toNat,by omega⟩
     by_cases hl:i<s.sl.length
     · obtain ⟨x,hx⟩:=bO hl
       simp (disch:=omega) [-getElem?_pos,g392,k,hi,hl,hx]
       cases x.bd<;>rfl
     · have hx:s.sl[i]?=none:=by simp;omega
       simp (disch:=omega) [-getElem?_pos,g392,k,hi,hl,hx]
   · simp (disch:=omega) [g392,k,h0]
 · simp (disch:=omega) [g392,k]
def wk (s:List Sl):Nat→Ty→Ty
 | 0,t=>t
 | n+1,t=>match iz s t with | some x=>wk s n x.ty | none=>t
theorem lG {s:List Sl} (hs:∀x∈s,x.ty.Ok):∀{n:Nat} {t:Ty},t.Ok→(wk s n t).Ok
 | 0,t,h=>h
 | n+1,t,h=>by
   unfold wk
   split
   · rename_i x hx
     obtain ⟨_,i,_,hi,_⟩:=gq hx
     exact lG hs (hs x (bz hi))
   · exact h
def tC (t:Ty):List AV:=[.pv (vI t.kind),.pv (.str t.name),.pv (vI t.id),.pv (vI t.home),.pv (.aJ (t.args.map Ty.pv))]
def sC (s:d5):List AV:=[.pv (.aJ (s.sl.map Sl.pv)),.pv (.aJ (s.tr.map Ch.pv))]
def zC (k:Nat):List AV:=[.pv (vI 0),.pv (.str []),.pv (vI 0),.pv (vI 0),.own [] k]
theorem Oh {s:d5} (hs:Sm s.sl):∀(n i:Nat),s.sl.length+1-i=n→i≤s.sl.length+1→∀t:Ty,∃(i':Nat),
   cl AP g386L0 ⟨[(2,.aG 2 0),(3,.aG 3 0),(4,.aG 4 0),(5,.pv (vI i))],[(2,sC s),(3,tC t),(4,zC 0)],[],[0]⟩ =
     some (.exit 0,⟨[(2,.aG 2 0),(3,.aG 3 0),(4,.aG 4 0),(5,.pv (vI i')),(15,.pv (.bool false))],[(2,sC s),(3,tC (wk s.sl n t)),(4,zC 0)],[],[0]⟩)
 | 0,i,hn,hi,t=>by
   refine ⟨i,?_⟩
   have h1:¬(i:Int)≤s.sl.length:=by omega
   rw [g386L0e]
   simp [g386B0,sC,tC,zC,wk,h1]
 | n+1,i,hn,hi,t=>by
   have h1:(i:Int)≤s.sl.length:=by omega
   have k:=c392 (s:=s) (t:=t)
   unfold Sm at hs
   rw [g386L0e]
   cases hb:iz s.sl t with
   | none=>
     refine ⟨i,?_⟩
     rw [hb] at k
     simp at k
     simp [g386B0,sC,tC,zC,wk,h1,hb,k]
   | some x=>
     obtain ⟨_,j,hj,hx,_⟩:=gq hb
     obtain ⟨i',e⟩:=Oh hs n (i+1) (by omega) (by omega) x.ty
     refine ⟨i',?_⟩
     rw [hb] at k
     have hl:j<s.sl.length:=by obtain ⟨h,_⟩:=List.getElem?_eq_some_iff.1 hx;exact h
     rw [g386L0e] at e
     simp [hj] at k
     simp [sC,tC,zC] at e
     simp (disch:=omega) [-getElem?_pos,g386B0,sC,tC,zC,wk,h1,hb,k,hj,hx,hl,aA]
     rw [g386L0e]
     simp [e]
theorem c386 {s:d5} (hs:Sm s.sl) {t:Ty}:(aQ AP).p 386 [s.pv,t.pv]=some [(wk s.sl (s.sl.length+1) t).pv]:=by
 obtain ⟨i',h⟩:=Oh hs _ 0 rfl (by omega) t
 rw [aw (af:=g386) rfl rfl (by decide)]
 rw [g386L0e] at h
 simp [sC,tC,zC] at h
 simp [g386,g386L0e,h]
end Go.Ab.Lw
namespace Go.Ab.Lw
open Ev
def kv (s:List Sl) (t:Ty):Ty:=wk s (s.length+1) t
inductive Tr (s:List Sl):Ty→Nat→Prop
 | mk {t:Ty} (ns:List Nat):ns.length=(kv s t).args.length→(∀(i:Nat) a n,(kv s t).args[i]?=some a→ns[i]?=some n→Tr s a n)→Tr s t (ns.sum+1)
def IJ (s:List Sl) (l:List Ty) (ns:List Nat):Prop:=ns.length=l.length∧∀(i:Nat) a n,l[i]?=some a→ns[i]?=some n→Tr s a n
theorem IJ.nil {s:List Sl}:IJ s [] []:=⟨rfl,by intro i a n h;simp at h⟩
theorem IJ.snoc {s:List Sl} {l:List Ty} {ns:List Nat} (h:IJ s l ns) {a:Ty} {n:Nat} (ha:Tr s a n):IJ s (l++[a]) (ns++[n]):=by
 refine ⟨by simp [h.1],?_⟩
 intro i b m hb hm
 have hl:=h.1
 by_cases hi:i<l.length
 · rw [List.getElem?_append_left hi] at hb
   rw [List.getElem?_append_left (by omega)] at hm
   exact h.2 i b m hb hm
 · rw [List.getElem?_append_right (by omega)] at hb
   rw [List.getElem?_append_right (by omega),hl] at hm
   by_cases e:i-l.length=0
   · rw [e] at hb hm
     simp at hb hm
     rw [←hb,←hm];exact ha
   · have h1:1≤i-l.length:=by omega
     have:([a]:List Ty)[i-l.length]?=none:=by simp;omega
     rw [this] at hb;cases hb
theorem Tr.inv {s:List Sl} {t:Ty} {r:Nat} (h:Tr s t r):∃ns,IJ s (kv s t).args ns∧r=ns.sum+1:=by
 cases h with
 | mk ns h1 h2=>exact ⟨ns,⟨h1,h2⟩,rfl⟩
theorem vO:∀{ns:List Nat} {i n:Nat},ns[i]?=some n→n≤ns.sum
 | a::r,0,n,h=>by simp at h;subst h;simp
 | a::r,i+1,n,h=>by simp at h;have:=vO h;simp;omega
theorem Oi {s:d5} (hs:Sm s.sl) (hO:∀x∈s.sl,x.ty.Ok) {m:Nat} (hm:m<1000000) (IH:∀m':Nat,m'<m→∀t,t.Ok→∃r:Nat,(aQ AP).p 371 [s.pv,t.pv,vI m']=some [vI r]∧1≤r∧r≤m'+1∧(r≤m'→Tr s.sl t r))
   {x:Ty} (hx:x.Ok):∀(k i n:Nat),x.args.length-i=k→i≤x.args.length→1≤n→n≤m+1→(n≤m→∃ns,IJ s.sl (x.args.take i) ns∧n=ns.sum+1)→∃i' n':Nat,
   cl AP g371L0 ⟨[(2,.pv (vI m)),(3,.aG 3 0),(4,.aG 4 0),(7,.pv (vI n)),(8,.pv (vI i))],[(3,sC s),(4,tC x)],[],[]⟩ =
     some (.exit 0,⟨[(2,.pv (vI m)),(3,.aG 3 0),(4,.aG 4 0),(7,.pv (vI n')),(8,.pv (vI i')),(21,.pv (.bool false))],[(3,sC s),(4,tC x)],[],[]⟩)∧1≤n'∧n'≤m+1∧(n'≤m→∃ns,IJ s.sl x.args ns∧n'=ns.sum+1)
 | 0,i,n,hk,hi,h1,h2,h3=>by
   have:i=x.args.length:=by omega
   subst this
   refine ⟨x.args.length,n,?_,h1,h2,by simpa using h3⟩
   rw [g371L0e]
   simp [g371B0,sC,tC]
 | k+1,i,n,hk,hi,h1,h2,h3=>by
   have hi:i<x.args.length:=by omega
   obtain ⟨a,ha⟩:=bO hi
   have hsm:=hx.sm
   unfold Sm at hsm
   by_cases hn:n≤m
   · have g0:m-n<m:=by clear h3;omega
     obtain ⟨r,e,r1,r2,r3⟩:=IH (m-n) g0 a (hx.gV a (bz ha))
     have hsub:((m:Int)-n)=((m-n:Nat):Int):=by clear h3 r3;omega
     have g5:n+r≤m→∃ns,IJ s.sl (x.args.take (i+1)) ns∧n+r=ns.sum+1:=by
       intro h
       obtain ⟨ns,q,e2⟩:=h3 hn
       refine ⟨ns++[r],?_,by rw [List.sum_append,e2];simp;omega⟩
       rw [List.take_add_one,ha]
       have hr:r≤m-n:=by clear h3;omega
       exact q.snoc (r3 hr)
     clear h3
     have g1:x.args.length-(i+1)=k:=by clear g5 r3;omega
     have g2:1≤n+r:=by clear g5 r3;omega
     have g3:n+r≤m+1:=by clear g5 r3;omega
     obtain ⟨i',n',e',q1,q2,q3⟩:=Oi hs hO hm IH hx k (i+1) (n+r) g1 hi g2 g3 g5
     refine ⟨i',n',?_,q1,q2,q3⟩
     have hnm:(n:Int)≤m:=by omega
     rw [g371L0e] at e' ⊢
     simp at e
     simp [sC,tC] at e'
     simp (disch:=omega) [-getElem?_pos,g371B0,sC,tC,hi,ha,hnm,aA,hsub,e]
     rw [g371L0e]
     simp [e']
   · refine ⟨i,n,?_,h1,h2,fun h=>absurd h hn⟩
     clear h3
     have hnm:¬(n:Int)≤m:=by omega
     rw [g371L0e]
     simp (disch:=omega) [-getElem?_pos,g371B0,sC,tC,hi,hnm]
theorem c371 {s:d5} (hs:Sm s.sl) (hO:∀x∈s.sl,x.ty.Ok) (m:Nat) (hm:m<1000000):∀t:Ty,t.Ok→∃r:Nat,(aQ AP).p 371 [s.pv,t.pv,vI m]=some [vI r]∧1≤r∧r≤m+1∧(r≤m→Tr s.sl t r):=by
 induction m using Nat.strongRecOn with
 | ind m ih=>
   intro t ht
   have k:=c386 hs (t:=t)
   have hw:(wk s.sl (s.sl.length+1) t).Ok:=lG hO ht
   obtain ⟨i',n',e,q1,q2,q3⟩:=Oi hs hO hm (fun m' h t ht=>ih m' h (by omega) t ht) hw _ 0 1 rfl (by omega) (by omega) (by omega) (fun _=>⟨[],by simpa using IJ.nil,rfl⟩)
   refine ⟨min n' (m+1),?_,by clear q3;omega,by clear q3;omega,?_⟩
   · rw [aw (af:=g371) rfl rfl (by decide)]
     rw [g371L0e] at e
     have hmin:min (n':Int) ((m:Int)+1)=((min n' (m+1):Nat):Int):=by omega
     generalize wk s.sl (s.sl.length+1) t=x at *
     simp at k
     simp [sC,tC] at e
     simp (disch:=omega) [g371,k,g371L0e,e,aA,hmin]
     omega
   · intro h
     have hq:n'≤m:=by clear q3;omega
     obtain ⟨ns,a,b⟩:=q3 hq
     have:min n' (m+1)=ns.sum+1:=by omega
     rw [this]
     exact .mk ns a.1 a.2
end Go.Ab.Lw
namespace Go.Ab.Lw
open Ev
def uC (x:Ty) (acc:List Ty) (k:Nat):List AV:=[.pv (vI x.kind),.pv (.str x.name),.pv (vI x.id),.pv (vI x.home),.own (acc.map Ty.pv) k]
theorem Oj {s:d5} {x:Ty} (hx:x.Ok) {ns:List Nat} (hns:ns.length=x.args.length) (IH:∀(i:Nat) a n,x.args[i]?=some a→ns[i]?=some n→∃u:Ty,(aQ AP).p 373 [s.pv,a.pv]=some [u.pv]∧u.Ok∧u.nodes.length=n):∀(k i:Nat),x.args.length-i=k→i≤x.args.length→∀acc:List Ty,acc.length=i→(∀u∈acc,u.Ok)→(acc.flatMap Ty.nodes).length=(ns.take i).sum→∃us:List Ty,
   cl AP g373L0 ⟨[(2,.aG 2 0),(3,.aG 3 0),(4,.aG 4 0),(5,.aG 5 0),(6,.pv (vI i))],[(2,sC s),(3,tC x),(4,zC 0),(5,uC x acc 1)],[],[0,acc.length]⟩ =
     some (.exit 0,⟨[(2,.aG 2 0),(3,.aG 3 0),(4,.aG 4 0),(5,.aG 5 0),(6,.pv (vI x.args.length)),(16,.pv (.bool false))],[(2,sC s),(3,tC x),(4,zC 0),(5,uC x us 1)],[],[0,us.length]⟩)∧us.length=x.args.length∧(∀u∈us,u.Ok)∧(us.flatMap Ty.nodes).length=ns.sum
 | 0,i,hk,hi,acc,ha,hu,hc=>by
   have:i=x.args.length:=by omega
   subst this
   refine ⟨acc,?_,ha,hu,by rw [hc,←hns,List.take_length]⟩
   rw [g373L0e]
   simp [g373B0,sC,tC,zC,uC]
 | k+1,i,hk,hi,acc,ha,hu,hc=>by
   have hi:i<x.args.length:=by omega
   obtain ⟨a,hax⟩:=bO hi
   obtain ⟨n,hn⟩:=bO (l:=ns) (i:=i) (by omega)
   have hsm:=hx.sm
   unfold Sm at hsm
   obtain ⟨u,e,hO,hnn⟩:=IH i a n hax hn
   obtain ⟨us,e',h1,h2,h3⟩:=Oj hx hns IH k (i+1) (by omega) (by omega) (acc++[u]) (by simp;omega) (by
     intro y hy;simp at hy;rcases hy with hy | rfl
     · exact hu y hy
     · exact hO) (by rw [List.take_add_one,hn,List.flatMap_append,List.length_append,hc];simp [hnn])
   refine ⟨us,?_,h1,h2,h3⟩
   have hb:(acc.length+1)*64≤140737488355328:=by omega
   rw [g373L0e] at e' ⊢
   simp at e
   simp [sC,tC,zC,uC] at e'
   simp (disch:=omega) [-getElem?_pos,g373B0,sC,tC,zC,uC,hi,hax,aA,e,hb]
   rw [g373L0e]
   simp [e']
theorem c373 {s:d5} (hs:Sm s.sl) (hO:∀x∈s.sl,x.ty.Ok) (r:Nat):∀t:Ty,Tr s.sl t r→t.Ok→∃u:Ty,(aQ AP).p 373 [s.pv,t.pv]=some [u.pv]∧u.Ok∧u.nodes.length=r:=by
 induction r using Nat.strongRecOn with
 | ind r ih=>
   intro t ht hto
   have k:=c386 hs (t:=t)
   have hw:(wk s.sl (s.sl.length+1) t).Ok:=lG hO hto
   obtain ⟨ns,hn,hr⟩:=ht.inv
   unfold kv at hn
   obtain ⟨us,e,h1,h2,h3⟩:=Oj (s:=s) hw hn.1 (fun i a n hi hni=>by
     have:=vO hni
     exact ih n (by omega) a (hn.2 i a n hi hni) (hw.gV a (bz hi))) _ 0 rfl (by omega) [] rfl (by simp) rfl
   refine ⟨⟨(wk s.sl (s.sl.length+1) t).kind,(wk s.sl (s.sl.length+1) t).name,(wk s.sl (s.sl.length+1) t).id,(wk s.sl (s.sl.length+1) t).home,us⟩,?_,⟨by have:=hw.sm;unfold Sm at *;simp only;omega,h2⟩,by rw [Ty.bg];simp only [List.length_cons];omega⟩
   rw [aw (af:=g373) rfl rfl (by decide)]
   rw [g373L0e] at e
   generalize wk s.sl (s.sl.length+1) t=x at *
   simp at k
   simp [sC,tC,zC,uC] at e
   simp [g373,k,g373L0e,e]
theorem c355 {s:d5} (hs:Sm s.sl) (hO:∀x∈s.sl,x.ty.Ok) {m:Nat} (hm:m<1000000) {t:Ty} (ht:t.Ok):∃r:Nat,(aQ AP).p 355 [s.pv,t.pv,vI m]=some [vI r]∧1≤r∧r≤m+1∧(r≤m→Tr s.sl t r):=by
 obtain ⟨r,e,h⟩:=c371 hs hO m hm t ht
 refine ⟨r,?_,h⟩
 rw [aw (af:=g355) rfl rfl (by decide)]
 simp at e
 have hmx:max (m:Int) 0=m:=by omega
 simp [g355,hmx,e]
theorem c358 {s:d5} (hs:Sm s.sl) (hO:∀x∈s.sl,x.ty.Ok) {t:Ty} (ht:t.Ok):∃(u:Ty) (b:Bool),(aQ AP).p 358 [s.pv,t.pv]=some [u.pv,.bool b]∧u.Ok∧u.nodes.length≤4000:=by
 obtain ⟨r,e,h1,h2,h3⟩:=c355 hs hO (m:=4000) (by omega) ht
 simp at e
 by_cases hr:r≤4000
 · obtain ⟨u,e2,hu,hnu⟩:=c373 hs hO r t (h3 hr) ht
   refine ⟨u,true,?_,hu,by omega⟩
   simp at e2
   have hr':¬(4000:Int)<r:=by omega
   rw [aw (af:=g358) rfl rfl (by decide)]
   simp [g358,e,hr',e2]
 · refine ⟨bW,false,?_,cZ rfl,by rw [Ty.bg];simp [bW]⟩
   have hr':(4000:Int)<r:=by omega
   rw [aw (af:=g358) rfl rfl (by decide)]
   simp [g358,e,hr',bW]
theorem c388:(aQ AP).p 388 []=some [(d5.mk [] []).pv]:=by
 rw [aw (af:=g388) rfl rfl (by decide)]
 simp [g388]
def dr (s:d5) (home:Int) (b:Bool):d5:=⟨s.sl++[⟨false,bW,home,b⟩],s.tr++[⟨s.sl.length,⟨false,bW,0,false⟩,true⟩]⟩
theorem c381 {s:d5} {n m:Nat} (hs:s.Ok n m) (hn:n≤1000000) (hm:m≤1000000000) (home:Int) (b:Bool):(aQ AP).p 381 [s.pv,vI home,.bool b]=some [(dr s home b).pv,(ct s.sl.length).pv]:=by
 have k:=c63 (n:=s.sl.length)
 have h1:=hs.sl
 have h2:=hs.tr
 have b1:s.sl.length*88≤140737488355328:=by omega
 have b2:(s.sl.length+1)*88≤140737488355328:=by omega
 have b3:s.tr.length*104≤140737488355328:=by omega
 have b4:(s.tr.length+1)*104≤140737488355328:=by omega
 have e1:=KZ.head s.sl
 have e2:=H8.head s.tr
 simp at k e1 e2
 rw [aw (af:=g381) rfl rfl (by decide)]
 simp (disch:=omega) [g381,dr,bW,ct,k,b1,b2,b3,b4,e1,e2]
 (repeat' split)<;>simp_all
end Go.Ab.Lw
namespace Go.Ab.Lw
open Ev
theorem PN {sz:Nat} {l:List PV} {k:IntKind} {h:Int} (h0:0≤h) (h1:h≤l.length):dc false sz false true false [.pv (.aJ l),.pv (.int k h)]=some (.pv (.aJ (l.take h.toNat))):=by
 simp [dc,cS,eH,h0,h1]
theorem Ol {sz τ:Nat} {l:List PV} {k:IntKind} {h:Int} (h0:0≤h) (h1:h≤l.length):dc false sz false true false [.own l τ,.pv (.int k h)]=some (.pv (.aJ (l.take h.toNat))):=by
 simp [dc,cS,eH,h0,h1]
end Go.Ab.Lw
namespace Go.Ab.Lw
open Ev
def Sl.cells (x:Sl):List PV:=[.bool x.bd,vI x.ty.kind,.str x.ty.name,vI x.ty.id,vI x.ty.home,.aJ (x.ty.args.map Ty.pv),vI x.home,.bool x.base]
theorem mV:Row Sl.cells 8:=⟨by omega,fun _=>rfl⟩
theorem Mo {l:List Sl}:((fE (bY Sl.cells l)).bind (fF 8 true l.length)).map PV.aJ=some (.aJ (l.map Sl.pv)):=qh mV
theorem Mp {l:List Sl}:((l.map Sl.pv).flatMap br).map AV.pv=bY Sl.cells l:=qi mV
def gQ (s:d5) (i:Nat) (o x:Sl):d5:=⟨s.sl.set i x,s.tr++[⟨i,o,false⟩]⟩
theorem c393 {s:d5} {n m:Nat} (hs:s.Ok n m) (hn:n≤1000000) (hm:m≤1000000000) {i:Nat} {o:Sl} (hi:s.sl[i]?=some o) (x:Sl):(aQ AP).p 393 [s.pv,vI i,x.pv]=some [(gQ s i o x).pv,.bool true]:=by
 have h1:=hs.sl
 have h2:=hs.tr
 have hl:i<s.sl.length:=by obtain ⟨h,_⟩:=List.getElem?_eq_some_iff.1 hi;exact h
 have b1:s.sl.length*88≤140737488355328:=by omega
 have b3:s.tr.length*104≤140737488355328:=by omega
 have b4:(s.tr.length+1)*104≤140737488355328:=by omega
 have hge:¬s.sl.length≤i:=by omega
 have hle8:i*8+8≤s.sl.length*8:=by omega
 have hf:∀S:Sh,dO S (.aG 8 0)=none:=fun _=>rfl
 have e1:=KZ.head s.sl
 have e2:=H8.head s.tr
 have hne:¬s.sl=[]:=by intro h;rw [h] at hl;simp at hl
 have hmp:=Mp (l:=s.sl)
 have hB:dC (bY Sl.cells s.sl)=false:=eu cI
 have hB2:dC (bY Sl.cells (s.sl.set i x))=false:=eu cI
 have hlen:(bY Sl.cells s.sl).length=s.sl.length*8:=d3 mV
 have hlen2:(bY Sl.cells (s.sl.set i x)).length=s.sl.length*8:=by rw [d3 mV];simp
 have hle:=Mk mV hl (o:=0) (k:=8) (by omega)
 have hset:=qg mV hi (y:=x) (o:=0) (vs:=x.cells) (by rw [mV.len];omega) (by
   simp [Sl.cells])
 have hq:∀bh ts,cm bh ts [some (bY Sl.cells s.sl)]=([some (bY Sl.cells s.sl)],bh,ts):=(bP.one cI).norm
 have hq2:∀bh ts,cm bh ts [some (bY Sl.cells (s.sl.set i x))]=([some (bY Sl.cells (s.sl.set i x))],bh,ts):=(bP.one cI).norm
 have hlst:=Mo (l:=s.sl.set i x)
 rw [List.length_set] at hlst
 simp only [Nat.add_zero] at hset hle
 generalize bY Sl.cells (s.sl.set i x)=T1 at *
 generalize bY Sl.cells s.sl=T at *
 simp [Sl.cells] at hset
 simp at hlst hmp e1 e2
 rw [aw (af:=g393) rfl rfl (by decide)]
 simp (disch:=omega) [-getElem?_pos,g393,hi,hl,b1,b3,b4,e1,e2,hne,hmp,hB,hB2,hlen,hlen2,hset,hq,hq2,hlst,gQ,hge,hle8,hf]
end Go.Ab.Lw
namespace Go.Ab.Lw
open Ev
theorem c194g {t:Ty} (ht:t.Ok):∃(a b:Ty) (c:Bool),(aQ AP).p 194 [t.pv]=some [a.pv,b.pv,.bool c]∧a.Ok∧b.Ok∧(c=true→t=⟨4,[45,62],t.id,t.home,[a,b]⟩):=by
 by_cases h:t.kind=4∧t.name=[45,62]∧t.args.length=2
 · obtain ⟨h1,h2,h3⟩:=h
   match e:t.args,h3 with
   | [a,b],_=>
     refine ⟨a,b,true,?_,ht.gV a (by simp [e]),ht.gV b (by simp [e]),?_⟩
     · rw [aw (af:=g194) rfl rfl (by decide)]
       simp [g194,h1,h2,e]
     · intro _
       cases t
       simp at h1 h2 e ⊢
       simp [h1,h2,e]
 · refine ⟨bW,bW,false,?_,cZ rfl,cZ rfl,by simp⟩
   rw [aw (af:=g194) rfl rfl (by decide)]
   by_cases h1:t.kind=4
   · by_cases h2:t.name=[45,62]
     · have h3:¬(t.args.length:Int)=2:=by
         intro q;exact h ⟨h1,h2,by omega⟩
       simp [g194,h1,h2,h3,bW]
     · simp [g194,h1,h2,bW]
   · simp [g194,h1,bW]
theorem PO {S:List Ty} {l:List Ty} (hS:Sm l) (hO:∀t∈l,t.Ok) (hk:∀x∈l.flatMap (Ty.eY 3),x∈S):∀(n i:Nat),l.length-i=n→i≤l.length→∀out,gf S out →
   cl AP g59L0 ⟨[(0,.pv (.aJ (l.map Ty.pv))),(3,.own (out.map Ty.pv) 0),(4,.pv (vI i))],[],[],[out.length]⟩ =
     some (.exit 0,⟨[(0,.pv (.aJ (l.map Ty.pv))),(3,.own ((((l.drop i).flatMap (Ty.eY 3)).foldl gP out).map Ty.pv) 0),(4,.pv (vI l.length)),(8,.pv (.bool false))],[],[],[(((l.drop i).flatMap (Ty.eY 3)).foldl gP out).length]⟩)
 | 0,i,hn,hi,out,hc=>by
   have:i=l.length:=by omega
   subst this
   rw [g59L0e]
   simp [g59B0]
 | n+1,i,hn,hi,out,hc=>by
   have hi:i<l.length:=by omega
   obtain ⟨x,hx⟩:=bO hi
   unfold Sm at hS
   have hkx:∀y∈x.eY 3,y∈S:=fun y hy=>hk y (by simp only [List.mem_flatMap];exact ⟨x,bz hx,hy⟩)
   have k:=c99 (kd:=3) (hO x (bz hx)) hkx out hc
   have ih:=PO hS hO hk n (i+1) (by omega) (by omega) _ (hc.fold hkx)
   rw [g59L0e] at ih ⊢
   rw [cY hx]
   simp at k ih
   simp (disch:=omega) [-getElem?_pos,g59B0,hx,hi,k,aA]
   rw [g59L0e]
   simp [ih]
theorem c59 {S:List Ty} (hf:S.length<1099511627776) (hSo:∀x∈S,x.Ok) {l:List Ty} (hS:Sm l) (hO:∀t∈l,t.Ok) (hk:∀x∈l.flatMap (Ty.eY 3),x∈S):∃r:List Ty,(aQ AP).p 59 [.aJ (l.map Ty.pv)]=some [.aJ (r.map Ty.pv)]∧Sm r∧∀x∈r,x∈S:=by
 have c0:gf S []:=⟨by simp,by simp,hf,hSo⟩
 have h:=PO hS hO hk _ 0 rfl (by omega) [] c0
 have hc:=c0.fold hk
 refine ⟨_,?_,hc.len,hc.sub⟩
 rw [aw (af:=g59) rfl rfl (by decide)]
 rw [g59L0e] at h
 simp at h
 simp [g59,g59L0e,h]
def mr (s:List Sl) (t:Ty):Bool:=decide (t.kind=1∧0≤t.id∧t.id<s.length)
theorem c396 {s:d5} {t:Ty}:(aQ AP).p 396 [s.pv,t.pv]=some [.bool (mr s.sl t)]:=by
 rw [aw (af:=g396) rfl rfl (by decide)]
 by_cases h1:t.kind=1
 · by_cases h2:0≤t.id
   · by_cases h3:t.id<s.sl.length
     · simp [g396,mr,h1,h2,h3]
     · simp [g396,mr,h1,h2,h3]
   · simp [g396,mr,h1,h2]
 · simp [g396,mr,h1]
end Go.Ab.Lw
namespace Go.Ab.Lw
open Ev
inductive ij:Ty→Int→Prop
 | var {t:Ty}:t.kind=1→ij t t.id
 | arg {t a:Ty} {v:Int}:t.kind≠1→a∈t.args→ij a v→ij t v
def Edge (s:List Sl) (i v:Int):Prop:=∃(k:Nat) (x:Sl),i=k∧s[k]?=some x∧x.bd=true∧ij x.ty v
inductive Cv (s:List Sl):Int→Int→Prop
 | refl (i:Int):Cv s i i
 | step {i j k:Int}:Edge s i j→Cv s j k→Cv s i k
def FL (s:List Sl):Prop:=∃rk:Int→Nat,∀i v,Edge s i v→rk v<rk i
theorem FL.of {s s':List Sl} (h:FL s) (he:∀i v,Edge s' i v→Edge s i v):FL s':=by
 obtain ⟨rk,hr⟩:=h
 exact ⟨rk,fun i v e=>hr i v (he i v e)⟩
theorem ij.bound (rk:Int→Nat) (t:Ty):∃M,∀v,ij t v→rk v<M:=by
 refine Ty.eP (p:=fun t=>∃M,∀v,ij t v→rk v<M) ?_ t
 intro t ih
 by_cases k:t.kind=1
 · refine ⟨rk t.id+1,?_⟩
   intro v h
   cases h with
   | var _=>omega
   | arg q _ _=>exact absurd k q
 · have key:∀l:List Ty,(∀a∈l,∃M,∀v,ij a v→rk v<M)→∃M,∀a∈l,∀v,ij a v→rk v<M:=by
     intro l
     induction l with
     | nil=>intro _;exact ⟨0,by simp⟩
     | cons a r ihr=>
       intro h
       obtain ⟨M,hM⟩:=h a (by simp)
       obtain ⟨N,hN⟩:=ihr fun b hb=>h b (by simp [hb])
       refine ⟨M+N,?_⟩
       intro b hb v hv
       simp at hb
       rcases hb with rfl | hb
       · have:=hM v hv;omega
       · have:=hN b hb v hv;omega
   obtain ⟨M,hM⟩:=key t.args ih
   refine ⟨M,?_⟩
   intro v h
   cases h with
   | var q=>exact absurd q k
   | arg _ ha h=>exact hM _ ha v h
theorem yC {s:List Sl} {k:Nat} {x:Sl} {i v:Int} (h:Edge (s.set k x) i v):(i=k∧x.bd=true∧ij x.ty v)∨(i≠k∧Edge s i v):=by
 obtain ⟨j,y,rfl,hy,hb,ho⟩:=h
 rw [List.getElem?_set] at hy
 by_cases e:k=j
 · subst e
   by_cases hl:k<s.length
   · simp [hl] at hy
     subst hy
     exact .inl ⟨rfl,hb,ho⟩
   · simp [hl] at hy
 · simp [e] at hy
   exact .inr ⟨by omega,j,y,rfl,hy,hb,ho⟩
theorem yD {s:List Sl} {k:Nat} {o x:Sl} (h:FL s) (hk:s[k]?=some o) (hb:x.bd=o.bd) (ht:x.ty=o.ty):FL (s.set k x):=by
 refine h.of ?_
 intro i v e
 rcases yC e with ⟨rfl,b,oc⟩ | ⟨_,e⟩
 · exact ⟨k,o,rfl,hk,by rw [←hb];exact b,by rw [←ht];exact oc⟩
 · exact e
theorem yE {s:List Sl} {k:Nat} {x:Sl} (h:FL s) (hn:∀v,ij x.ty v→¬Cv s v k):FL (s.set k x):=by
 classical
 obtain ⟨rk,hr⟩:=h
 obtain ⟨M,hM⟩:=ij.bound rk x.ty
 refine ⟨fun j=>if Cv s j k then rk j+M else rk j,?_⟩
 intro i v e
 show (if Cv s v k then rk v+M else rk v)<(if Cv s i k then rk i+M else rk i)
 rcases yC e with ⟨rfl,b,oc⟩ | ⟨_,e⟩
 · have h1:=hM v oc
   rw [if_neg (hn v oc),if_pos (.refl _)]
   omega
 · have h1:=hr i v e
   by_cases q:Cv s v k
   · rw [if_pos q,if_pos (.step e q)];omega
   · rw [if_neg q]
     split<;>omega
theorem H9 {s:List Sl} {x:Sl} (h:FL s) (hb:x.bd=false):FL (s++[x]):=by
 refine h.of ?_
 rintro i v ⟨k,y,rfl,hy,b,o⟩
 by_cases hl:k<s.length
 · rw [List.getElem?_append_left hl] at hy
   exact ⟨k,y,rfl,hy,b,o⟩
 · rw [List.getElem?_append_right (by omega)] at hy
   by_cases e:k-s.length=0
   · rw [e] at hy
     simp at hy
     subst hy
     rw [hb] at b;cases b
   · have:([x]:List Sl)[k-s.length]?=none:=by simp;omega
     rw [this] at hy;cases hy
def ub (s:List Sl):Nat:=s.countP fun x=>!x.bd
theorem qk:∀{s:List Sl} {k:Nat} {o x:Sl},s[k]?=some o→x.bd=o.bd→ub (s.set k x)=ub s
 | [],k,o,x,h,_=>by simp at h
 | a::r,0,o,x,h,hb=>by simp at h;subst h;simp [ub,List.countP_cons,hb]
 | a::r,k+1,o,x,h,hb=>by
   simp at h
   have:=qk h hb
   simp only [ub] at this
   simp [ub,List.countP_cons,this]
theorem vP:∀{s:List Sl} {k:Nat} {o x:Sl},s[k]?=some o→o.bd=false→x.bd=true→ub (s.set k x)+1=ub s
 | [],k,o,x,h,_,_=>by simp at h
 | a::r,0,o,x,h,hb,hx=>by simp at h;subst h;simp [ub,List.countP_cons,hb,hx]
 | a::r,k+1,o,x,h,hb,hx=>by
   simp at h
   have:=vP h hb hx
   simp only [ub] at this
   simp [ub,List.countP_cons]
   omega
end Go.Ab.Lw
namespace Go.Ab.Lw
open Ev
def bT (dn:List Bool):List AV:=dn.map fun b=>.pv (.bool b)
def fX (s:d5) (T:List AV) (n:Nat) (out:List Int):Sh:=[some T,some [.pv (.aJ (s.sl.map Sl.pv)),.pv (.aJ (s.tr.map Ch.pv)),.own (out.map vI) 0,.bI 0 1 n false]]
structure K0 (T:List AV):Prop where
 norm:∀bh ts,bQ bh ts T=(T,bh,ts)
 mp:dC T=false
 sh:∀k,T.map (dB k)=T
theorem Om {s:d5} {S out:List Int} {t:Ty} (hk:t.kind=1) (hb:iz s.sl t=none) (hc:kN S out) {T:List AV} (hT:K0 T) {n:Nat} :
   (aQ AP).i 387 [.bu 1 0,.pv t.pv] (fX s T n out) [out.length]=some ([],fX s T n (if t.id∈out then out else out++[t.id]),[(if t.id∈out then out else out++[t.id]).length]):=by
 have k1:=c392 (s:=s) (t:=t)
 have hl:=hc.len
 have k2:=c95 hl (y:=t.id)
 unfold Sm at hl
 have hbb:(out.length+1)*8≤140737488355328:=by omega
 have hh:bC 1 (out.map vI)=true:=kt.head out
 have hn:=hT.norm
 rw [hb] at k1
 simp [hk] at k1
 rw [aT (af:=g387) rfl (by simp [g387])]
 by_cases e2:t.id∈out
 · rw [decide_eq_true e2] at k2
   simp [g387,fX,hk,k1,k2,e2,hn]
 · rw [decide_eq_false e2] at k2
   simp [g387,fX,hk,k1,k2,e2,hn,hbb,hh]
theorem On {s:d5} {out:List Int} {t:Ty} {x:Sl} {i:Nat} (hi:t.id=i) (hk:t.kind=1) (hx:s.sl[i]?=some x) (hb:iz s.sl t=some x) {T:List AV} (hT:K0 T) {n:Nat} (hn:T.length=n) (hin:i<n) (hd:T[i]?=some (.pv (.bool true))) :
   (aQ AP).i 387 [.bu 1 0,.pv t.pv] (fX s T n out) [out.length]=some ([],fX s T n out,[out.length]):=by
 have k1:=c392 (s:=s) (t:=t)
 have hnm:=hT.norm
 have hmp:=hT.mp
 have hsh:=hT.sh
 have hle:i+1≤T.length:=by omega
 rw [hb] at k1
 simp [hk,hi] at k1
 rw [aT (af:=g387) rfl (by simp [g387])]
 simp (disch:=omega) [-getElem?_pos,g387,fX,hk,hi,k1,hnm,hin,hd,hmp,hle,cz]
theorem Oo {s:d5} {out out':List Int} {t:Ty} {x:Sl} {i:Nat} (hi:t.id=i) (hk:t.kind=1) (hx:s.sl[i]?=some x) (hb:iz s.sl t=some x) {T T1 T2:List AV} (hT:K0 T) (hT1:K0 T1) (hT2:K0 T2) {n:Nat} (hn:T.length=n) (hin:i<n) (hd:T[i]?=some (.pv (.bool false)))
   (hs:bo T i [.pv (.bool true)]=T1) (e:(aQ AP).i 387 [.bu 1 0,.pv x.ty.pv] (fX s T1 n out) [out.length]=some ([],fX s T2 n out',[out'.length])) :
   (aQ AP).i 387 [.bu 1 0,.pv t.pv] (fX s T n out) [out.length]=some ([],fX s T2 n out',[out'.length]):=by
 have k1:=c392 (s:=s) (t:=t)
 have hnm:=hT.norm
 have hnm1:=hT1.norm
 have hnm2:=hT2.norm
 have hsh1:=hT1.sh
 have hsh2:=hT2.sh
 have hmp:=hT.mp
 have hsh:=hT.sh
 have hl:i<s.sl.length:=by obtain ⟨h,_⟩:=List.getElem?_eq_some_iff.1 hx;exact h
 have hle:i+1≤T.length:=by omega
 rw [hb] at k1
 simp [hk,hi] at k1
 simp [fX] at e
 simp at hs
 rw [aT (af:=g387) rfl (by simp [g387])]
 simp (disch:=omega) [-getElem?_pos,g387,fX,hk,hi,k1,hnm,hnm1,hnm2,hin,hd,hx,hl,hmp,hs,hle,e,cz,hsh,hsh1,hsh2]
def Mq (s:d5) (n:Nat) (t:Ty) (T:List AV) (out:List Int) (T':List AV) (out':List Int):Prop:=(aQ AP).i 387 [.bu 1 0,.pv t.pv] (fX s T n out) [out.length]=some ([],fX s T' n out',[out'.length])
theorem Oq {s:d5} {n:Nat} {t:Ty} (ht:t.Ok) (J:Nat→List AV→List Int→Prop) (hP:∀i T out,J i T out→K0 T)
   (hJ:∀i a,t.args[i]?=some a→∀T out,J i T out→∃T' out',Mq s n a T out T' out'∧J (i+1) T' out'):∀(k i:Nat),t.args.length-i=k→i≤t.args.length→∀T out,J i T out→∃T' out',
   cl AP g387L0 ⟨[(0,.bu 1 0),(3,.aG 3 0),(4,.pv (vI i))],[(3,tC t)],fX s T n out,[out.length]⟩ =
     some (.exit 1,⟨[(0,.bu 1 0),(3,.aG 3 0),(4,.pv (vI t.args.length)),(68,.pv (.bool false))],[(3,tC t)],fX s T' n out',[out'.length]⟩)∧J t.args.length T' out'
 | 0,i,hk,hi,T,out,h=>by
   have:i=t.args.length:=by omega
   subst this
   refine ⟨T,out,?_,h⟩
   have hn:=(hP _ _ _ h).norm
   rw [g387L0e]
   simp [g387B0,tC,fX,hn]
 | k+1,i,hk,hi,T,out,h=>by
   have hi:i<t.args.length:=by omega
   obtain ⟨a,ha⟩:=bO hi
   have hsm:=ht.sm
   unfold Sm at hsm
   obtain ⟨T1,out1,e,h1⟩:=hJ i a ha T out h
   obtain ⟨T',out',e',h2⟩:=Oq ht J hP hJ k (i+1) (by omega) (by omega) T1 out1 h1
   refine ⟨T',out',?_,h2⟩
   have hn:=(hP _ _ _ h).norm
   have hn1:=(hP _ _ _ h1).norm
   have hs:=(hP _ _ _ h).sh
   have hs1:=(hP _ _ _ h1).sh
   unfold Mq at e
   rw [g387L0e] at e' ⊢
   simp [fX] at e
   simp [tC,fX,hn1] at e'
   simp (disch:=omega) [-getElem?_pos,g387B0,tC,fX,hi,ha,hn,hn1,hs,hs1,aA,e]
   rw [g387L0e]
   simp [e',hn1]
theorem Ot {s:d5} {n:Nat} {t:Ty} (ht:t.Ok) (hk:t.kind≠1) (J:Nat→List AV→List Int→Prop) (hP:∀i T out,J i T out→K0 T)
   (hJ:∀i a,t.args[i]?=some a→∀T out,J i T out→∃T' out',Mq s n a T out T' out'∧J (i+1) T' out') {T:List AV} {out:List Int} (h:J 0 T out):∃T' out',Mq s n t T out T' out'∧J t.args.length T' out':=by
 obtain ⟨T',out',e,h1⟩:=Oq (s:=s) (n:=n) ht J hP hJ _ 0 rfl (by omega) T out h
 refine ⟨T',out',?_,h1⟩
 have hn:=(hP _ _ _ h).norm
 have hn1:=(hP _ _ _ h1).norm
 have hs1:=(hP _ _ _ h1).sh
 unfold Mq
 rw [aT (af:=g387) rfl (by simp [g387])]
 rw [g387L0e] at e
 simp [tC,fX,hn] at e
 simp [g387,fX,hk,hn,hn1,hs1,g387L0e,e]
end Go.Ab.Lw
namespace Go.Ab.Lw
open Ev
def oJ (s:List Sl) (v:Int):Prop:=∃(k:Nat) (x:Sl),v=k∧s[k]?=some x∧x.bd=true
theorem jg {s:List Sl} {t:Ty} (hk:t.kind=1) (h:iz s t=none):¬oJ s t.id:=by
 rintro ⟨k,x,e,hx,hb⟩
 unfold iz at h
 have:0≤t.id:=by omega
 rw [if_pos ⟨hk,this⟩] at h
 have hn:t.id.toNat=k:=by omega
 rw [hn,hx] at h
 simp [hb] at h
theorem H_ {s:List Sl} {i v:Int} (h:Edge s i v):oJ s i:=by
 obtain ⟨k,x,e,hx,hb,_⟩:=h
 exact ⟨k,x,e,hx,hb⟩
theorem sk {s:List Sl} {i v:Int} (h:Cv s i v) (hb:¬oJ s i):v=i:=by
 cases h with
 | refl=>rfl
 | step e _=>exact absurd (H_ e) hb
theorem jx {t:Ty} {w:Int} (hk:t.kind=1) (h:ij t w):w=t.id:=by
 cases h with
 | var _=>rfl
 | arg q _ _=>exact absurd hk q
theorem Mr {s:List Sl} {rk:Int→Nat} (hr:∀i v,Edge s i v→rk v<rk i) {i v:Int} (h:Cv s i v):rk v≤rk i:=by
 induction h with
 | refl=>omega
 | step e _ ih=>have:=hr _ _ e;omega
def K1 (s:List Sl) (j:Int) (out:List Int):Prop:=∀v,Cv s j v→¬oJ s v→v∈out
def RT (s:List Sl) (t:Ty) (v:Int):Prop:=∃w,ij t w∧Cv s w v
theorem K1.mono {s:List Sl} {j:Int} {out out':List Int} (h:K1 s j out) (ho:∀v∈out,v∈out'):K1 s j out':=fun v hv hb=>ho v (h v hv hb)
theorem Ia {dn:List Bool}:∀v∈bT dn,∃p,v=AV.pv p:=by
 intro v hv
 simp only [bT,List.mem_map] at hv
 obtain ⟨b,_,rfl⟩:=hv
 exact ⟨_,rfl⟩
theorem lH {dn:List Bool}:K0 (bT dn):=⟨fun _ _=>rU Ia,eu Ia,fun _=>oH Ia⟩
theorem Ms {dn:List Bool} {i:Nat} (hi:i<dn.length) (b:Bool):bo (bT dn) i [.pv (.bool b)]=bT (dn.set i b):=by
 have:(bT dn).length=dn.length:=by simp [bT]
 simp only [bo,bT,List.length_cons,List.length_nil,Nat.zero_add]
 rw [←List.map_take,←List.map_drop,List.set_eq_take_append_cons_drop,if_pos hi]
 simp
theorem Ib {dn:List Bool} {i j:Nat} (h:dn[j]?=some true):(dn.set i true)[j]?=some true:=by
 rw [List.getElem?_set]
 have hj:j<dn.length:=by obtain ⟨h,_⟩:=List.getElem?_eq_some_iff.1 h;exact h
 by_cases e:i=j
 · subst e;simp [hj]
 · simp [e,h]
theorem yF {dn:List Bool} {i j:Nat} (h:(dn.set i true)[j]?=some true):i=j∨dn[j]?=some true:=by
 rw [List.getElem?_set] at h
 by_cases e:i=j
 · exact .inl e
 · simp [e] at h;exact .inr h
structure Ou (s:d5) (S:List Int) (t:Ty) (dn:List Bool) (out:List Int) (dn':List Bool) (out':List Int):Prop where
 PQ:Mq s s.sl.length t (bT dn) out (bT dn') out'
 len:dn'.length=s.sl.length
 Fs:kN S out'
 sub:∀v∈out,v∈out'
 mono:∀j:Nat,dn[j]?=some true→dn'[j]?=some true
 all:∀v,RT s.sl t v→¬oJ s.sl v→v∈out'
 new:∀j:Nat,dn'[j]?=some true→dn[j]?=some true∨K1 s.sl j out'
structure Qn (s:d5) (S:List Int) (t:Ty) (dn:List Bool) (out:List Int) (i:Nat) (dn':List Bool) (out':List Int):Prop where
 len:dn'.length=s.sl.length
 Fs:kN S out'
 sub:∀v∈out,v∈out'
 mono:∀j:Nat,dn[j]?=some true→dn'[j]?=some true
 all:∀a∈t.args.take i,∀v,RT s.sl a v→¬oJ s.sl v→v∈out'
 new:∀j:Nat,dn'[j]?=some true→dn[j]?=some true∨K1 s.sl j out'
theorem HH {s:d5} {S:List Int} {rk:Int→Nat} (hr:∀i v,Edge s.sl i v→rk v<rk i) (hO:∀x∈s.sl,x.ty.Ok) (hS:∀x∈s.sl,∀w,ij x.ty w→w∈S) (N:Nat) :
   ∀t:Ty,t.Ok→(∀w,ij t w→rk w<N)→(∀w,ij t w→w∈S)→∀(dn:List Bool) (out:List Int),dn.length=s.sl.length→kN S out→(∀j:Nat,dn[j]?=some true→RT s.sl t j→K1 s.sl j out) →
     ∃dn' out',Ou s S t dn out dn' out':=by
 induction N using Nat.strongRecOn with
 | ind N IH=>
   intro t
   refine Ty.eP (p:=fun t=>t.Ok→(∀w,ij t w→rk w<N)→(∀w,ij t w→w∈S)→∀(dn:List Bool) (out:List Int),dn.length=s.sl.length→kN S out→(∀j:Nat,dn[j]?=some true→RT s.sl t j→K1 s.sl j out) →
     ∃dn' out',Ou s S t dn out dn' out') ?_ t
   intro t ih ht hN hw dn out hd hc hpre
   by_cases hk:t.kind=1
   · have oc:ij t t.id:=.var hk
     cases hb:iz s.sl t with
     | none=>
       have hf:=jg hk hb
       have e:=Om (n:=s.sl.length) hk hb hc (lH (dn:=dn))
       have ea:(if t.id∈out then out else out++[t.id])=eC out t:=by
         unfold eC
         by_cases q:t.id∈out<;>simp [q,hk]
       rw [ea] at e
       have hs:∀v∈out,v∈eC out t:=by
         intro v hv;unfold eC;split
         · simp [hv]
         · exact hv
       refine ⟨dn,eC out t,e,hd,hc.add (fun _=>hw _ oc),hs,fun _ h=>h,?_,fun _ h=>.inl h⟩
       rintro v ⟨w,ho,hv⟩ _
       have h1:=jx hk ho
       subst h1
       rw [sk hv hf]
       unfold eC
       by_cases q:t.id∈out<;>simp [q,hk]
     | some x=>
       obtain ⟨_,i,hi,hx,hbd⟩:=gq hb
       have hl:i<s.sl.length:=by obtain ⟨h,_⟩:=List.getElem?_eq_some_iff.1 hx;exact h
       have hTl:(bT dn).length=s.sl.length:=by simp [bT,hd]
       obtain ⟨b,hdb⟩:=bO (l:=dn) (i:=i) (by omega)
       have hTd:(bT dn)[i]?=some (.pv (.bool b)):=by simp [bT,hdb]
       have Ft:∀w,ij x.ty w→Edge s.sl t.id w:=fun w ho=>⟨i,x,hi,hx,hbd,ho⟩
       cases b with
       | true=>
         have e:=On (out:=out) hi hk hx hb (lH (dn:=dn)) hTl hl hTd
         refine ⟨dn,out,e,hd,hc,fun _ h=>h,fun _ h=>h,?_,fun _ h=>.inl h⟩
         rintro v ⟨w,ho,hv⟩ hnb
         have h1:=jx hk ho
         subst h1
         have:=hpre i hdb ⟨t.id,oc,by rw [hi];exact .refl _⟩
         rw [hi] at hv
         exact this v hv hnb
       | false=>
         have hlt:rk t.id<N:=hN _ oc
         obtain ⟨dn',out',P⟩:=IH (rk t.id) hlt x.ty (hO x (bz hx)) (fun w ho=>hr _ _ (Ft w ho)) (hS x (bz hx)) (dn.set i true) out (by simp [hd]) hc (by
           intro j hj ⟨w,ho,hv⟩
           have hlt2:rk j<rk t.id:=by have:=Mr hr hv;have:=hr _ _ (Ft w ho);omega
           rcases yF hj with rfl | hj
           · rw [hi] at hlt2;omega
           · exact hpre j hj ⟨t.id,oc,.step (Ft w ho) hv⟩)
         have e:=Oo hi hk hx hb (lH (dn:=dn)) (lH (dn:=dn.set i true)) (lH (dn:=dn')) hTl hl hTd (Ms (by omega) true) P.PQ
         have fin:K1 s.sl t.id out':=by
           intro v hv hnb
           cases hv with
           | refl=>exact absurd ⟨i,x,hi,hx,hbd⟩ hnb
           | step e2 hv=>
             obtain ⟨k,y,e3,hy,_,ho⟩:=e2
             have:k=i:=by omega
             subst this
             rw [hx] at hy
             cases hy
             exact P.all v ⟨_,ho,hv⟩ hnb
         refine ⟨dn',out',e,P.len,P.Fs,P.sub,fun j h=>P.mono j (Ib h),?_,?_⟩
         · rintro v ⟨w,ho,hv⟩ hnb
           have h1:=jx hk ho
           subst h1
           exact fin v hv hnb
         · intro j hj
           rcases P.new j hj with h | h
           · rcases yF h with rfl | h
             · exact .inr (by rw [←hi];exact fin)
             · exact .inl h
           · exact .inr h
   · obtain ⟨T',out',e,dn',rfl,h⟩:=Ot (s:=s) (n:=s.sl.length) ht hk (fun i T o=>∃d,T=bT d∧Qn s S t dn out i d o) (by rintro i T o ⟨d,rfl,_⟩;exact lH) (by
       rintro i a ha T o ⟨d,rfl,h⟩
       have hm:=bz ha
       obtain ⟨d',o',P⟩:=ih a hm (ht.gV a hm) (fun w ho=>hN w (.arg hk hm ho)) (fun w ho=>hw w (.arg hk hm ho)) d o h.len h.Fs (by
         intro j hj ⟨w,ho,hv⟩
         rcases h.new j hj with hj | hj
         · exact (hpre j hj ⟨w,.arg hk hm ho,hv⟩).mono h.sub
         · exact hj)
       refine ⟨bT d',o',P.PQ,d',rfl,P.len,P.Fs,fun v hv=>P.sub v (h.sub v hv),fun j hj=>P.mono j (h.mono j hj),?_,?_⟩
       · intro b hb v hv hnb
         rw [List.take_add_one,ha] at hb
         simp at hb
         rcases hb with hb | rfl
         · exact P.sub v (h.all b hb v hv hnb)
         · exact P.all v hv hnb
       · intro j hj
         rcases P.new j hj with hj | hj
         · rcases h.new j hj with hj | hj
           · exact .inl hj
           · exact .inr (hj.mono P.sub)
         · exact .inr hj) ⟨dn,rfl,hd,hc,fun _ h=>h,fun _ h=>h,by simp,fun _ h=>.inl h⟩
     refine ⟨dn',out',e,h.len,h.Fs,h.sub,h.mono,?_,h.new⟩
     rintro v ⟨w,ho,hv⟩ hnb
     cases ho with
     | var q=>exact absurd q hk
     | arg _ ha ho=>exact h.all _ (by simpa using ha) v ⟨w,ho,hv⟩ hnb
end Go.Ab.Lw
namespace Go.Ab.Lw
open Ev
def jj:List Ar→List Ex→List Ar
 | a::as,x::xs=>⟨a.pos,a.iR,a.vars,x⟩::jj as xs
 | as,_=>as
theorem sq:∀{as:List Ar} {xs:List Ex},(jj as xs).length=as.length
 | [],xs=>by cases xs<;>rfl
 | a::as,[]=>rfl
 | a::as,x::xs=>by simp [jj,sq (as:=as) (xs:=xs)]
def Ex.sG (e:Ex) (c:List Ex):Ex:=if c.length=e.kids.length+e.bw.length then ⟨e.kind,e.pos,e.name,e.num,c.take e.kids.length,jj e.bw (c.drop e.kids.length),e.ty⟩ else e
theorem Mu {l:List Ar}:((fE (bY Ar.cells l)).bind (fF 14 true l.length)).map PV.aJ=some (.aJ (l.map Ar.pv)):=qh ku
theorem Mv {l:List Ar}:((l.map Ar.pv).flatMap br).map AV.pv=bY Ar.cells l:=qi ku
theorem J5 {c:List Ex} {n:Nat} (h:n≤c.length):dc false 11 false true false [.pv (.aJ (c.map Ex.pv)),.pv (.int .i64 (n:Int))]=some (.pv (.aJ ((c.map Ex.pv).take n))):=by
 have:=PN (sz:=11) (l:=c.map Ex.pv) (k:=.i64) (h:=n) (by omega) (by simp;omega)
 simpa using this
theorem K2 {sz:Nat} {l:List PV}:dc false sz false true false [.pv (.aJ l),.pv (.int .i64 0)]=some (.pv (.aJ [])):=by
 simp [dc,cS,eH]
def M6 (e:Ex) (K:List Ex) (A:AV):List AV:=[.pv (vI e.kind),.pv (vI e.pos),.pv (.str e.name),.pv (vI e.num),.own (K.map Ex.pv) 3,A,.pv (vI e.ty.kind),.pv (.str e.ty.name),.pv (vI e.ty.id),.pv (vI e.ty.home),.pv (.aJ (e.ty.args.map Ty.pv))]
theorem Ov {e:Ex} {c K:List Ex} {n0 N:Nat} (hN:N≤1000) (hc:c.length=n0+N) (hn0:n0≤1000):∀(n i:Nat),N-i=n→i≤N→∀as:List Ar,as.length=N →
   cl AP g374L0 ⟨[(1,.pv (.aJ (c.map Ex.pv))),(4,.aG 4 0),(5,.pv (vI n0)),(6,.aG 6 0),(7,.pv (vI i))],[(4,zO),(6,M6 e K (.bI 0 14 N true))],[some (bY Ar.cells as)],[0,0,0,K.length]⟩ =
     some (.exit 0,⟨[(1,.pv (.aJ (c.map Ex.pv))),(4,.aG 4 0),(5,.pv (vI n0)),(6,.aG 6 0),(7,.pv (vI N)),(34,.pv (.bool false))],[(4,zO),(6,M6 e K (.bI 0 14 N true))],[some (bY Ar.cells (as.take i++jj (as.drop i) (c.drop (n0+i))))],[0,0,0,K.length]⟩)
 | 0,i,hn,hi,as,ha=>by
   have:i=N:=by omega
   subst this
   have hq:∀bh ts,cm bh ts [some (bY Ar.cells as)]=([some (bY Ar.cells as)],bh,ts):=(bP.one cI).norm
   rw [NY (l:=as) (by omega),List.take_of_length_le (by omega)]
   simp only [jj,List.append_nil]
   generalize bY Ar.cells as=T at *
   rw [g374L0e]
   simp [g374B0,M6,zO,hq]
 | n+1,i,hn,hi,as,ha=>by
   have hi:i<N:=by omega
   obtain ⟨a,hx⟩:=bO (l:=as) (i:=i) (by omega)
   obtain ⟨x,hy⟩:=bO (l:=c) (i:=n0+i) (by omega)
   have hci:n0+i<c.length:=by omega
   have ih:=Ov (e:=e) (K:=K) hN hc hn0 n (i+1) (by omega) (by omega) (as.set i ⟨a.pos,a.iR,a.vars,x⟩) (by simpa using ha)
   have hset:=qg ku hx (y:=⟨a.pos,a.iR,a.vars,x⟩) (o:=3) (vs:=x.cells) (by rw [eg.len];omega) (by
     have h1:=eg.len a.body
     have h2:=eg.len x
     simp only [Ar.cells,List.take_succ_cons,List.take_zero,List.cons_append,List.nil_append,List.drop_succ_cons,List.drop_zero,h2]
     rw [List.drop_eq_nil_of_le (by simp [h1]),List.append_nil])
   rw [Ex.sa] at hset
   have hfin:as.take i++jj (as.drop i) (c.drop (n0+i))=(as.set i ⟨a.pos,a.iR,a.vars,x⟩).take (i+1)++jj ((as.set i ⟨a.pos,a.iR,a.vars,x⟩).drop (i+1)) (c.drop (n0+(i+1))):=by
     have h1:(as.set i ⟨a.pos,a.iR,a.vars,x⟩).take (i+1)=as.take i++[⟨a.pos,a.iR,a.vars,x⟩]:=by
       rw [List.set_eq_take_append_cons_drop,if_pos (by omega),List.take_append,List.take_of_length_le (by simp;omega)]
       have:i+1-(as.take i).length=1:=by simp;omega
       rw [this];rfl
     rw [h1,List.drop_set_of_lt (by omega),cY hx,cY hy]
     simp [jj,Nat.add_assoc]
   rw [hfin]
   generalize (as.set i ⟨a.pos,a.iR,a.vars,x⟩).take (i+1)++jj ((as.set i ⟨a.pos,a.iR,a.vars,x⟩).drop (i+1)) (c.drop (n0+(i+1)))=R at ih ⊢
   have hq:∀bh ts,cm bh ts [some (bY Ar.cells as)]=([some (bY Ar.cells as)],bh,ts):=(bP.one cI).norm
   have hq1:∀bh ts,cm bh ts [some (bY Ar.cells (as.set i ⟨a.pos,a.iR,a.vars,x⟩))]=([some (bY Ar.cells (as.set i ⟨a.pos,a.iR,a.vars,x⟩))],bh,ts):=(bP.one cI).norm
   have hB:dC (bY Ar.cells as)=false:=eu cI
   have hlen:(bY Ar.cells as).length=N*14:=by rw [d3 ku,ha]
   have hle:i*14+3+11≤N*14:=by omega
   generalize bY Ar.cells (as.set i ⟨a.pos,a.iR,a.vars,x⟩)=T1 at *
   generalize bY Ar.cells as=T at *
   have hil:((n0:Int)+i).toNat=n0+i:=by omega
   have hpos:¬((n0:Int)+i<0):=by omega
   rw [g374L0e] at ih ⊢
   simp [M6,zO,hq1] at ih hset
   simp (disch:=omega) [-getElem?_pos,g374B0,M6,zO,hq,hi,hy,hci,hB,hlen,hle,hset,aA,hil,hpos]
   rw [g374L0e]
   simp [hq1,ih]
theorem Ic {xs:List Ex}:jj [] xs=[]:=by cases xs<;>rfl
theorem c374 {e:Ex} (hk:e.kids.length≤1000) (ha:e.bw.length≤1000) {c:List Ex}:(aQ AP).p 374 [e.pv,.aJ (c.map Ex.pv)]=some [(e.sG c).pv]:=by
 rw [aw (af:=g374) rfl rfl (by decide)]
 unfold Ex.sG
 have hw:((e.kids.length:Int)+e.bw.length).toNat=e.kids.length+e.bw.length:=by omega
 by_cases hc:c.length=e.kids.length+e.bw.length
 · rw [if_pos hc]
   have hci:(c.length:Int)=(e.kids.length:Int)+e.bw.length:=by omega
   have hle:e.kids.length≤c.length:=by omega
   have hsl:=J5 hle
   have hsl2:(c.take e.kids.length).length=e.kids.length:=by simp;omega
   have hb1:e.kids.length*152≤140737488355328:=by omega
   have hb2:e.bw.length*200≤140737488355328:=by omega
   have hz:e.kids.length=0↔c.take e.kids.length=[]:=by rw [←List.length_eq_zero_iff,hsl2]
   rw [←List.map_take] at hsl
   by_cases hA:e.bw=[]
   · have hn:e.bw.length=0:=by rw [hA];rfl
     rw [hn] at hci
     simp at hci
     generalize hK:c.take e.kids.length=K at *
     rw [hA,Ic]
     by_cases hK0:K=[]
     · subst hK0
       have h0:=hz.2 rfl
       simp [h0] at hci
       simp (disch:=omega) [g374,g374L0e,g374B0,hA,hci,K2,aA,h0]
     · simp (disch:=omega) [g374,g374L0e,g374B0,hA,hci,hsl,aA,hK0,hsl2,hb1]
   · have h:=Ov (e:=e) (c:=c) (K:=c.take e.kids.length) ha hc hk _ 0 rfl (by omega) e.bw rfl
     simp only [List.take_zero,List.drop_zero,List.nil_append,Nat.add_zero] at h
     have hm:=Mv (l:=e.bw)
     have hl:=Mu (l:=jj e.bw (c.drop e.kids.length))
     have hlen:(bY Ar.cells (jj e.bw (c.drop e.kids.length))).length=e.bw.length*14:=by rw [d3 ku,sq]
     rw [sq] at hl
     have hq:∀bh ts,cm bh ts [some (bY Ar.cells e.bw)]=([some (bY Ar.cells e.bw)],bh,ts):=(bP.one cI).norm
     generalize jj e.bw (c.drop e.kids.length)=R at *
     generalize bY Ar.cells R=TR at *
     generalize hK:c.take e.kids.length=K at *
     rw [g374L0e] at h
     generalize bY Ar.cells e.bw=T at *
     simp [M6,zO,hq] at h
     simp at hl
     by_cases hK0:K=[]
     · subst hK0
       have h0:=hz.2 rfl
       simp [h0] at h hci
       simp (disch:=omega) [-getElem?_pos,g374,hA,hci,K2,aA,h0,hb2,hm,hq,g374L0e,h,hlen,hl]
     · simp only [hsl2] at h
       simp (disch:=omega) [-getElem?_pos,g374,hA,hci,hsl,aA,hK0,hsl2,hb1,hb2,hm,hq,g374L0e,h,hlen,hl]
 · rw [if_neg hc]
   have hci:¬(c.length:Int)=(e.kids.length:Int)+e.bw.length:=by omega
   simp (disch:=omega) [g374,hci,aA]
end Go.Ab.Lw
namespace Go.Ab.Lw
open Ev
def BI (cs:List pH) (s:d4):Option Nat:=gp (fun c=>decide (c.name=s)) cs
def kO:List Dt→d4→Nat→Option (Nat×Nat)
 | [],_,_=>none
 | d::r,s,i=>match BI d.cons s with
   | some k=>some (i,k)
   | none=>kO r s (i+1)
def rF:Option (Nat×Nat)→List PV
 | some (i,k)=>[vI i,vI k,.bool true]
 | none=>[vI 0,vI 0,.bool false]
theorem K3 {ds:List Dt} {s:d4} {i:Nat} {cs:List pH} (hS:Sm cs):∀(n k:Nat),cs.length-k=n→k≤cs.length →
   cl AP g190L1 ⟨[(1,.pv (.str s)),(7,.pv (vI i)),(11,.pv (.aJ (ds.map Dt.pv))),(12,.pv (vI ds.length)),(13,.pv (vI i)),(19,.pv (.aJ (cs.map pH.pv))),(20,.pv (vI cs.length)),(21,.pv (vI k))],[],[],[]⟩ =
     match gp (fun c=>decide (c.name=s)) (cs.drop k) with
     | some j=>some (.ret,⟨[(4,.pv (vI i)),(5,.pv (vI (k+j:Nat))),(6,.pv (.bool true))],[],[],[]⟩)
     | none=>some (.exit 2,⟨[(1,.pv (.str s)),(7,.pv (vI i)),(11,.pv (.aJ (ds.map Dt.pv))),(12,.pv (vI ds.length)),(13,.pv (vI i)),(19,.pv (.aJ (cs.map pH.pv))),(20,.pv (vI cs.length)),(21,.pv (vI cs.length)),(22,.pv (.bool false))],[],[],[]⟩)
 | 0,k,hn,hk=>by
   have:k=cs.length:=by omega
   subst this
   rw [g190L1e]
   simp [g190B1,gp]
 | n+1,k,hn,hk=>by
   have hk:k<cs.length:=by omega
   obtain ⟨x,hx⟩:=bO hk
   unfold Sm at hS
   have ih:=K3 (ds:=ds) (s:=s) (i:=i) hS n (k+1) (by omega) (by omega)
   rw [g190L1e] at ih ⊢
   rw [cY hx]
   simp at ih
   by_cases e:x.name=s
   · simp (disch:=omega) [-getElem?_pos,g190B1,hx,hk,e,gp]
   · simp (disch:=omega) [-getElem?_pos,g190B1,hx,hk,e,gp,aA]
     rw [g190L1e]
     simp [ih]
     cases gp (fun c=>decide (c.name=s)) (cs.drop (k+1)) with
     | none=>rfl
     | some j=>simp;omega
theorem PR {ds:List Dt} (hS:Sm ds) (hc:∀d∈ds,Sm d.cons) (s:d4):∀(n i:Nat),ds.length-i=n→i≤ds.length →
   cl AP g190L0 ⟨[(1,.pv (.str s)),(11,.pv (.aJ (ds.map Dt.pv))),(12,.pv (vI ds.length)),(13,.pv (vI i))],[],[],[]⟩ =
     match kO (ds.drop i) s i with
     | some q=>some (.ret,⟨[(4,.pv (vI q.1)),(5,.pv (vI q.2)),(6,.pv (.bool true))],[],[],[]⟩)
     | none=>some (.exit 0,⟨[(1,.pv (.str s)),(11,.pv (.aJ (ds.map Dt.pv))),(12,.pv (vI ds.length)),(13,.pv (vI ds.length)),(14,.pv (.bool false))],[],[],[]⟩)
 | 0,i,hn,hi=>by
   have:i=ds.length:=by omega
   subst this
   rw [g190L0e]
   simp [g190B0,kO]
 | n+1,i,hn,hi=>by
   have hi:i<ds.length:=by omega
   obtain ⟨d,hd⟩:=bO hi
   unfold Sm at hS
   have ih:=PR hS hc s n (i+1) (by omega) (by omega)
   have h:=K3 (ds:=ds) (s:=s) (i:=i) (hc d (bz hd)) _ 0 rfl (by omega)
   rw [g190L1e] at h
   rw [g190L0e] at ih ⊢
   rw [cY hd]
   simp at ih h
   cases e:gp (fun c=>decide (c.name=s)) d.cons with
   | some k=>
     rw [e] at h
     simp at h
     simp (disch:=omega) [-getElem?_pos,g190B0,hd,hi,kO,BI,e,g190L1e,h]
   | none=>
     rw [e] at h
     simp at h
     simp (disch:=omega) [-getElem?_pos,g190B0,hd,hi,kO,BI,e,g190L1e,h,aA]
     rw [g190L0e]
     simp [ih]
theorem K4 {ds:List Dt} {s:d4} {i:Nat} {d:Dt} (hd:ds[i]?=some d) (hS:Sm d.cons):∀(n k:Nat),d.cons.length-k=n→k≤d.cons.length →
   cl AP g191L1 ⟨[(0,.pv (.aJ (ds.map Dt.pv))),(1,.pv (.str s)),(7,.pv (vI i)),(8,.pv (vI k))],[],[],[]⟩ =
     match gp (fun c=>decide (c.name=s)) (d.cons.drop k) with
     | some j=>some (.ret,⟨[(4,.pv (vI i)),(5,.pv (vI (k+j:Nat))),(6,.pv (.bool true))],[],[],[]⟩)
     | none=>some (.exit 2,⟨[(0,.pv (.aJ (ds.map Dt.pv))),(1,.pv (.str s)),(7,.pv (vI i)),(8,.pv (vI d.cons.length)),(22,.pv (.bool false))],[],[],[]⟩)
 | 0,k,hn,hk=>by
   have:k=d.cons.length:=by omega
   subst this
   rw [g191L1e]
   simp [-getElem?_pos,g191B1,gp,hd]
 | n+1,k,hn,hk=>by
   have hk:k<d.cons.length:=by omega
   obtain ⟨x,hx⟩:=bO hk
   unfold Sm at hS
   have ih:=K4 (s:=s) hd hS n (k+1) (by omega) (by omega)
   rw [g191L1e] at ih ⊢
   rw [cY hx]
   simp at ih
   by_cases e:x.name=s
   · simp (disch:=omega) [-getElem?_pos,g191B1,hd,hx,hk,e,gp]
   · simp (disch:=omega) [-getElem?_pos,g191B1,hd,hx,hk,e,gp,aA]
     rw [g191L1e]
     simp [ih]
     cases gp (fun c=>decide (c.name=s)) (d.cons.drop (k+1)) with
     | none=>rfl
     | some j=>simp;omega
theorem Ow {ds:List Dt} (hS:Sm ds) (hc:∀d∈ds,Sm d.cons) (s:d4):∀(n i:Nat),ds.length-i=n→i≤ds.length →
   cl AP g191L0 ⟨[(0,.pv (.aJ (ds.map Dt.pv))),(1,.pv (.str s)),(7,.pv (vI i))],[],[],[]⟩ =
     match kO (ds.drop i) s i with
     | some q=>some (.ret,⟨[(4,.pv (vI q.1)),(5,.pv (vI q.2)),(6,.pv (.bool true))],[],[],[]⟩)
     | none=>some (.exit 0,⟨[(0,.pv (.aJ (ds.map Dt.pv))),(1,.pv (.str s)),(7,.pv (vI ds.length)),(12,.pv (.bool false))],[],[],[]⟩)
 | 0,i,hn,hi=>by
   have:i=ds.length:=by omega
   subst this
   rw [g191L0e]
   simp [g191B0,kO]
 | n+1,i,hn,hi=>by
   have hi:i<ds.length:=by omega
   obtain ⟨d,hd⟩:=bO hi
   unfold Sm at hS
   have ih:=Ow hS hc s n (i+1) (by omega) (by omega)
   have h:=K4 (s:=s) hd (hc d (bz hd)) _ 0 rfl (by omega)
   rw [g191L1e] at h
   rw [g191L0e] at ih ⊢
   rw [cY hd]
   simp at ih h
   cases e:gp (fun c=>decide (c.name=s)) d.cons with
   | some k=>
     rw [e] at h
     simp at h
     simp (disch:=omega) [-getElem?_pos,g191B0,hd,hi,kO,BI,e,g191L1e,h]
   | none=>
     rw [e] at h
     simp at h
     simp (disch:=omega) [-getElem?_pos,g191B0,hd,hi,kO,BI,e,g191L1e,h,aA]
     rw [g191L0e]
     simp [ih]
theorem c191 {ds:List Dt} (hS:Sm ds) (hc:∀d∈ds,Sm d.cons) {s:d4}:(aQ AP).p 191 [.aJ (ds.map Dt.pv),.str s]=some (rF (kO ds s 0)):=by
 have h:=Ow hS hc s _ 0 rfl (by omega)
 rw [aw (af:=g191) rfl rfl (by decide)]
 rw [g191L0e] at h
 simp at h
 cases e:kO ds s 0 with
 | none=>rw [e] at h;simp at h;simp [g191,g191L0e,h,rF]
 | some q=>rw [e] at h;simp at h;simp [g191,g191L0e,h,rF]
theorem J6 {cs:List pH} {s:d4} {k:Nat} (h:BI cs s=some k):∃c,cs[k]?=some c∧c.name=s:=by
 unfold BI at h
 induction cs generalizing k with
 | nil=>simp [gp] at h
 | cons a r ih=>
   simp only [gp] at h
   split at h
   · rename_i e
     cases h
     exact ⟨a,rfl,by simpa using e⟩
   · simp only [Option.map_eq_some_iff] at h
     obtain ⟨j,hj,rfl⟩:=h
     obtain ⟨c,h1,h2⟩:=ih hj
     exact ⟨c,by simpa using h1,h2⟩
theorem vQ {s:d4}:∀{ds:List Dt} {n:Nat} {q:Nat×Nat},kO ds s n=some q→n≤q.1∧∃d c,ds[q.1-n]?=some d∧d.cons[q.2]?=some c∧c.name=s
 | [],n,q,h=>by simp [kO] at h
 | d::r,n,q,h=>by
   simp only [kO] at h
   split at h
   · rename_i k e
     cases h
     obtain ⟨c,h1,h2⟩:=J6 e
     exact ⟨Nat.le_refl _,d,c,by simp,h1,h2⟩
   · obtain ⟨h1,d',c,h2,h3,h4⟩:=vQ h
     refine ⟨by omega,d',c,?_,h3,h4⟩
     rw [show q.1-n=(q.1-(n+1))+1 from by omega]
     simpa using h2
end Go.Ab.Lw
namespace Go.Ab.Lw
open Ev
abbrev PS:=Int×Int
def fP (f:PS):PV:=.agg [vI f.1,vI f.2]
@[simp] theorem Hr (f:PS):fP f=.agg [vI f.1,vI f.2]:=rfl
abbrev m2 (f:PS):List AV:=[.pv (vI f.1),.pv (vI f.2)]
end Go.Ab.Lw
namespace Go.Ab.Lw
open Ev
inductive Ex.K5 (P:Ex→Prop):Ex→Prop
 | mk {e:Ex}:P e→(∀x∈e.ch,Ex.K5 P x)→Ex.K5 P e
theorem Ex.K5.h {P:Ex→Prop} {e:Ex} (h:e.K5 P):P e:=by cases h;assumption
theorem Ex.K5.c {P:Ex→Prop} {e:Ex} (h:e.K5 P):∀x∈e.ch,x.K5 P:=by cases h;assumption
inductive Ex.yG:Nat→Ex→Prop
 | mk {n:Nat} {e:Ex}:(∀x∈e.ch,Ex.yG n x)→Ex.yG (n+1) e
structure yH (e:Ex):Prop where
 ok:e.Ok
 one:e.One
 cw:e.K5 fun x=>x.ty.Cw
theorem yH.c {e x:Ex} (h:yH e) (hx:x∈e.ch):yH x:=⟨h.ok.c x hx,h.one.c x hx,h.cw.c x hx⟩
end Go.Ab.Lw
namespace Go.Ab.Lw
open Ev
inductive Lk:Ex→Ex→Prop
 | mk {e f:Ex}:f.kind=e.kind→f.name=e.name→f.num=e.num→f.ty=e.ty→f.kids.length=e.kids.length→f.bw.map (fun a=>(a.iR,a.vars))=e.bw.map (fun a=>(a.iR,a.vars)) →
     (∀(i:Nat) (x y:Ex),e.ch[i]?=some x→f.ch[i]?=some y→Lk x y)→Lk e f
def nO (b:Nat):List AV:=[.pv (vI 0),.pv (vI 0),.pv (.str []),.pv (vI 0),.own [] b,.own [] (b+1),.pv (vI 0),.pv (.str []),.pv (vI 0),.pv (vI 0),.own [] (b+2)]
theorem lI:∀{as:List Ar} {xs:List Ex},xs.length=as.length→(jj as xs).map ev.body=xs
 | [],[],_=>rfl
 | [],_::_,h=>by simp at h
 | _::_,[],h=>by simp at h
 | a::as,x::xs,h=>by simp only [jj,List.map_cons,lI (as:=as) (xs:=xs) (by simpa using h)]
theorem vR:∀{as:List Ar} {xs:List Ex},(jj as xs).map (fun a=>(a.iR,a.vars))=as.map (fun a=>(a.iR,a.vars))
 | [],xs=>by cases xs<;>rfl
 | a::as,[]=>rfl
 | a::as,x::xs=>by simp only [jj,List.map_cons,vR (as:=as) (xs:=xs)]
theorem BJ {e:Ex} {c:List Ex} (h:c.length=e.kids.length+e.bw.length):(e.sG c).ch=c:=by
 unfold Ex.sG
 rw [if_pos h]
 simp only [Ex.ch]
 rw [lI (by simp;omega),List.take_append_drop]
theorem ud {sz n:Nat} {ag:Bool}:Jj sz n ag none=none:=rfl
theorem yI {cs:List AV}:vf cs none=.agg cs:=rfl
theorem Cx {o:Option (List PV)}:nD none o=none:=rfl
theorem Cy {p:PV}:nD (some p) none=none:=rfl
theorem c145j {e:Ex} {X:Sh}:(aQ AP).i 145 [.pv e.pv] X []=(aQ AP).i 145 [.agg (e.II (.pv (.aJ (e.bw.map Ar.pv))))] X []:=by
 rw [aT (af:=g145) rfl (by simp [g145]),aT (af:=g145) rfl (by simp [g145])]
 simp [g145]
end Go.Ab.Lw
namespace Go.Ab.Lw
open Ev
theorem c372 {s:d5} {S:List Int} (hs:s.sl.length≤1000000) (ha:FL s.sl) (hO:∀x∈s.sl,x.ty.Ok) (hS:∀x∈s.sl,∀w,ij x.ty w→w∈S) (hf:S.length<1099511627776) {t:Ty} (ht:t.Ok) (hw:∀w,ij t w→w∈S) :
   ∃out,(aQ AP).p 372 [s.pv,.aJ [t.pv]]=some [.aJ (out.map vI)]∧kN S out∧∀v,RT s.sl t v→¬oJ s.sl v→v∈out:=by
 obtain ⟨rk,hr⟩:=ha
 obtain ⟨N,hN⟩:=ij.bound rk t
 obtain ⟨dn',out,P⟩:=HH hr hO hS N t ht hN hw (List.replicate s.sl.length false) [] (by simp) (rW hf) (by
   intro j hj
   exfalso
   by_cases q:j<s.sl.length
   · simp [List.getElem?_replicate,q] at hj
   · simp [List.getElem?_replicate,q] at hj)
 refine ⟨out,?_,P.Fs,P.all⟩
 have e:=P.PQ
 have hb:bT (List.replicate s.sl.length false)=List.replicate s.sl.length (.pv (.bool false)):=by simp [bT]
 have hp:=lH (dn:=List.replicate s.sl.length false)
 have hp':=lH (dn:=dn')
 unfold Mq at e
 rw [hb] at e hp
 have b1:(s.sl.length:Int)≤9223372036854775807:=by omega
 have b2:(s.sl.length:Int)≤140737488355328:=by omega
 have hn:=hp.norm
 have hn':=hp'.norm
 have hh:=hp.sh
 have hh':=hp'.sh
 have hm:=hp.mp
 generalize bT dn'=T' at *
 have hfl:(List.replicate s.sl.length [AV.pv (.bool false)]).flatten=List.replicate s.sl.length (.pv (.bool false)):=by
   generalize s.sl.length=n
   induction n with
   | zero=>rfl
   | succ n ih=>rw [List.replicate_succ,List.flatten_cons,ih,List.replicate_succ];rfl
 generalize List.replicate s.sl.length (AV.pv (.bool false))=T at *
 simp [fX] at e
 rw [aw (af:=g372) rfl rfl (by decide)]
 simp (disch:=omega) [g372,b1,b2,hn,hn',hh,hh',hm,hfl,g372L0e,g372B0,e,aA,ud,Cx,Cy,rA]
end Go.Ab.Lw
namespace Go.Ab.Lw
open Ev
theorem nP {k:Int} {t:Ty}:(t.eY k).length≤t.nodes.length:=by
 refine Ty.eP (p:=fun t=>(t.eY k).length≤t.nodes.length) ?_ t
 intro t ih
 rw [Ty.lC,Ty.bg]
 split
 · simp
 · have key:∀l:List Ty,(∀a∈l,(a.eY k).length≤a.nodes.length)→(l.flatMap (Ty.eY k)).length≤(l.flatMap Ty.nodes).length:=by
     intro l
     induction l with
     | nil=>intro _;simp
     | cons a r ihr=>
       intro h
       have h1:=h a (by simp)
       have h2:=ihr fun b hb=>h b (by simp [hb])
       simp only [List.flatMap_cons,List.length_append]
       omega
   have:=key t.args ih
   simp only [List.length_cons]
   omega
theorem lJ {k:Int} {t:Ty}:∀x∈t.eY k,x.args=[]:=by
 refine Ty.eP (p:=fun t=>∀x∈t.eY k,x.args=[]) ?_ t
 intro t ih x hx
 rw [Ty.lC] at hx
 split at hx
 · rename_i q
   simp at hx
   subst hx
   exact List.length_eq_zero_iff.1 q.2
 · simp only [List.mem_flatMap] at hx
   obtain ⟨a,ha,hx⟩:=hx
   exact ih a ha x hx
theorem c59t {u:Ty} (hu:u.Ok) (hn:u.nodes.length≤4000):∃r:List Ty,(aQ AP).p 59 [.aJ [u.pv]]=some [.aJ (r.map Ty.pv)]∧Sm r:=by
 have hl:=nP (k:=3) (t:=u)
 obtain ⟨r,e,h,_⟩:=c59 (S:=u.eY 3) (by omega) (fun x hx=>cZ (lJ x hx)) (l:=[u]) (by simp [Sm]) (by simpa using hu) (by simp)
 exact ⟨r,e,h⟩
structure Inv (n M:Nat) (S:List Int) (s:d5):Prop where
 len:s.sl.length=n
 IK:s.tr.length+(n+2)*ub s.sl≤M
 ok:∀x∈s.sl,x.ty.Ok
 l8:∀x∈s.sl,∀w,ij x.ty w→w∈S
 Ie:FL s.sl
 wf:∀x∈s.sl,x.ty.Kw
theorem mem_set {α:Type} {l:List α} {k:Nat} {x y:α} (h:y∈l.set k x):y=x∨y∈l:=by
 rcases List.mem_or_eq_of_mem_set h with h | h
 · exact .inr h
 · exact .inl h
theorem cD {s:d5} {i:Nat} {o x:Sl}:(gQ s i o x).sl=s.sl.set i x:=rfl
theorem l9 {s:d5} {i:Nat} {o x:Sl}:(gQ s i o x).tr.length=s.tr.length+1:=by simp [gQ]
theorem vS {s:List Sl} {k:Nat} {o:Sl} (hk:s[k]?=some o) (h:¬oJ s (k:Int)):o.bd=false:=by
 cases e:o.bd with
 | false=>rfl
 | true=>exact absurd ⟨k,o,rfl,hk,e⟩ h
theorem Ig {n M:Nat} {S:List Int} {s:d5} (I:Inv n M S s) {i j:Nat} {l h l' h':Sl} (hl:s.sl[i]?=some l) (hh:s.sl[j]?=some h) (hij:i≠j) (fi:¬oJ s.sl (i:Int)) (fj:¬oJ s.sl (j:Int))
   (hl1:l'.bd=l.bd) (hl2:l'.ty=l.ty) (hh1:h'.bd=true) (hh2:h'.ty=ct i) (hi:(i:Int)∈S) :
   Inv n M S (gQ (gQ s i l l') j h h')∧ub (gQ (gQ s i l l') j h h').sl<ub s.sl:=by
 have hj':(gQ s i l l').sl[j]?=some h:=by
   rw [cD,List.getElem?_set,if_neg hij,hh]
 have u1:=qk hl hl1
 have u2:=vP hj' (vS hh fj) hh1
 rw [cD] at u2
 have hp:=I.IK
 refine ⟨⟨by simp [gQ,I.len],?_,?_,?_,?_,?_⟩,?_⟩
 · rw [l9,l9]
   simp only [cD]
   have:(n+2)*ub s.sl=(n+2)*ub ((s.sl.set i l').set j h')+(n+2):=by rw [←u1,←u2,Nat.mul_add,Nat.mul_one]
   omega
 · intro x hx
   simp only [cD] at hx
   rcases mem_set hx with rfl | hx
   · rw [hh2];exact cZ rfl
   · rcases mem_set hx with rfl | hx
     · rw [hl2];exact I.ok l (bz hl)
     · exact I.ok x hx
 · intro x hx w ho
   simp only [cD] at hx
   rcases mem_set hx with rfl | hx
   · rw [hh2] at ho
     rw [jx (t:=ct i) rfl ho]
     exact hi
   · rcases mem_set hx with rfl | hx
     · rw [hl2] at ho;exact I.l8 l (bz hl) w ho
     · exact I.l8 x hx w ho
 · simp only [cD]
   refine yE (yD I.Ie hl hl1 hl2) ?_
   intro v ho hv
   rw [hh2] at ho
   have e:=jx (t:=ct i) rfl ho
   have e2:v=(i:Int):=e
   subst e2
   have fi':¬oJ (s.sl.set i l') (i:Int):=by
     rintro ⟨k,x,q,hx,hb⟩
     have:k=i:=by omega
     subst this
     have hlt:k<s.sl.length:=by obtain ⟨h,_⟩:=List.getElem?_eq_some_iff.1 hl;exact h
     rw [List.getElem?_set,if_pos rfl,if_pos hlt] at hx
     cases hx
     rw [hl1,vS hl fi] at hb
     cases hb
   have:=sk hv fi'
   omega
 · intro x hx
   simp only [cD] at hx
   rcases mem_set hx with rfl | hx
   · rw [hh2];exact ⟨by simp [ct],by simp [ct],by simp [ct]⟩
   · rcases mem_set hx with rfl | hx
     · rw [hl2];exact I.wf l (bz hl)
     · exact I.wf x hx
 · simp only [cD]
   omega
end Go.Ab.Lw
namespace Go.Ab.Lw
open Ev
theorem Inv.IL {n M:Nat} {S:List Int} {s:d5} (I:Inv n M S s):s.Ok n (M+10):=⟨by rw [I.len];omega,by have:=I.IK;have:0≤(n+2)*ub s.sl:=Nat.zero_le _;omega,I.ok⟩
theorem Inv.PT {n M:Nat} {S:List Int} {s:d5} (I:Inv n M S s) {i:Nat} {o x:Sl} (hx:x.ty.Ok):(gQ s i o x).Ok n (M+10):=⟨by rw [cD,List.length_set,I.len];omega,by rw [l9];have:=I.IK;have:0≤(n+2)*ub s.sl:=Nat.zero_le _;omega,by
 intro y hy
 rw [cD] at hy
 rcases mem_set hy with rfl | hy
 · exact hx
 · exact I.ok y hy⟩
theorem c397 {n M:Nat} {S:List Int} {s:d5} (I:Inv n M S s) (hn:n≤1000000) (hM:M≤100000000) {x y:Ty} {i j:Nat} (hxi:x.id=i) (hyj:y.id=j) (hi:i<n) (hj:j<n) (fi:¬oJ s.sl (i:Int)) (fj:¬oJ s.sl (j:Int)) (hiS:(i:Int)∈S) (hjS:(j:Int)∈S) :
   ∃s',(aQ AP).p 397 [s.pv,x.pv,y.pv]=some [s'.pv]∧Inv n M S s'∧(s'=s∨ub s'.sl<ub s.sl):=by
 by_cases hij:i=j
 · refine ⟨s,?_,I,.inl rfl⟩
   have h2:x.id=y.id:=by rw [hxi,hyj,hij]
   rw [aw (af:=g397) rfl rfl (by decide)]
   simp [g397,h2]
 · have hne:¬(i:Int)=j:=by omega
   obtain ⟨a,ha⟩:=bO (l:=s.sl) (i:=min i j) (by rw [I.len];omega)
   obtain ⟨b,hb⟩:=bO (l:=s.sl) (i:=max i j) (by rw [I.len];omega)
   have hab:min i j≠max i j:=by omega
   have fa:¬oJ s.sl ((min i j:Nat):Int):=by
     by_cases q:i≤j
     · rw [Nat.min_eq_left q];exact fi
     · rw [Nat.min_eq_right (by omega)];exact fj
   have fb:¬oJ s.sl ((max i j:Nat):Int):=by
     by_cases q:i≤j
     · rw [Nat.max_eq_right q];exact fj
     · rw [Nat.max_eq_left (by omega)];exact fi
   have haS:((min i j:Nat):Int)∈S:=by
     by_cases q:i≤j
     · rw [Nat.min_eq_left q];exact hiS
     · rw [Nat.min_eq_right (by omega)];exact hjS
   have hmin:(if j<i then (j:Int) else (i:Int))=((min i j:Nat):Int):=by split<;>omega
   have hmax:(if i<j then (j:Int) else (i:Int))=((max i j:Nat):Int):=by split<;>omega
   have hlo:min i j<s.sl.length:=by rw [I.len];omega
   have hhi:max i j<s.sl.length:=by rw [I.len];omega
   generalize min i j=p at *
   generalize max i j=q at *
   have k0:=c63 (n:=p)
   let a':Sl:=⟨a.bd,a.ty,if b.home<a.home then b.home else a.home,a.base || b.base⟩
   let b':Sl:=⟨true,ct p,b.home,b.base⟩
   have aO:a'.ty.Ok:=I.ok a (bz ha)
   have k1:=c393 I.IL (by omega) (by omega) ha a'
   have hb1:(gQ s p a a').sl[q]?=some b:=by rw [cD,List.getElem?_set,if_neg hab,hb]
   have k2:=c393 (I.PT (i:=p) (o:=a) aO) (by omega) (by omega) hb1 b'
   obtain ⟨J,hu⟩:=Ig I (l':=a') (h':=b') ha hb hab fa fb rfl rfl rfl rfl haS
   refine ⟨gQ (gQ s p a a') q b b',?_,J,.inr hu⟩
   generalize gQ (gQ s p a a') q b b'=s2 at *
   generalize gQ s p a a'=s1 at *
   simp [a',b',ct] at k0 k1 k2
   rw [aw (af:=g397) rfl rfl (by decide)]
   cases hab1:a.base
   · simp [hab1] at k1
     simp (disch:=omega) [-getElem?_pos,g397,hxi,hyj,hne,hmin,hmax,ha,hb,hlo,hhi,k0,k1,k2,hab1]
   · simp [hab1] at k1
     simp (disch:=omega) [-getElem?_pos,g397,hxi,hyj,hne,hmin,hmax,ha,hb,hlo,hhi,k0,k1,k2,hab1]
end Go.Ab.Lw
namespace Go.Ab.Lw
open Ev
def zS:List AV:=[.own [] 0,.own [] 1]
def oK (v:Sl):List AV:=[.pv (.bool v.bd),.pv (vI v.ty.kind),.pv (.str v.ty.name),.pv (vI v.ty.id),.pv (vI v.ty.home),.pv (.aJ (v.ty.args.map Ty.pv)),.pv (vI v.home),.pv (.bool v.base)]
def Ih (s:d5) (q:aN):Option (bG×St):=some (.ret,⟨[(6,.aG 6 0),(7,.pv (vI 13))],[(6,sC s)],[],q⟩)
theorem K6 {s:d5} {i:Nat} {t:Ty} {v:Sl} {out:List Int} {r:List Ty} (hr:Sm r):∀(n k:Nat),r.length-k=n→k≤r.length →
   (∃q,cl AP g398L0 ⟨[(1,.pv (vI i)),(3,.aG 3 0),(5,.aG 5 0),(6,.aG 6 0),(8,.aG 8 0),(9,.pv (.aJ (out.map vI))),(15,.pv (.aJ (r.map Ty.pv))),(16,.pv (vI k))],[(3,sC s),(5,tC t),(6,zS),(8,oK v)],[],[0,0]⟩=Ih s q) ∨
   cl AP g398L0 ⟨[(1,.pv (vI i)),(3,.aG 3 0),(5,.aG 5 0),(6,.aG 6 0),(8,.aG 8 0),(9,.pv (.aJ (out.map vI))),(15,.pv (.aJ (r.map Ty.pv))),(16,.pv (vI k))],[(3,sC s),(5,tC t),(6,zS),(8,oK v)],[],[0,0]⟩ =
     some (.exit 0,⟨[(1,.pv (vI i)),(3,.aG 3 0),(5,.aG 5 0),(6,.aG 6 0),(8,.aG 8 0),(9,.pv (.aJ (out.map vI))),(15,.pv (.aJ (r.map Ty.pv))),(16,.pv (vI r.length)),(57,.pv (.bool false))],[(3,sC s),(5,tC t),(6,zS),(8,oK v)],[],[0,0]⟩)
 | 0,k,hn,hk=>by
   have:k=r.length:=by omega
   subst this
   refine .inr ?_
   rw [g398L0e]
   simp [g398B0,sC,tC,zS,oK]
 | n+1,k,hn,hk=>by
   have hk:k<r.length:=by omega
   obtain ⟨x,hx⟩:=bO hk
   unfold Sm at hr
   by_cases hg:v.home<x.home
   · refine .inl ?_
     rw [g398L0e]
     simp (disch:=omega) [-getElem?_pos,g398B0,sC,tC,zS,oK,Ih,hx,hk,hg]
   · have ih:=K6 (s:=s) (i:=i) (t:=t) (v:=v) (out:=out) hr n (k+1) (by omega) (by omega)
     have e1:cl AP g398L0 ⟨[(1,.pv (vI i)),(3,.aG 3 0),(5,.aG 5 0),(6,.aG 6 0),(8,.aG 8 0),(9,.pv (.aJ (out.map vI))),(15,.pv (.aJ (r.map Ty.pv))),(16,.pv (vI k))],[(3,sC s),(5,tC t),(6,zS),(8,oK v)],[],[0,0]⟩=cl AP g398L0 ⟨[(1,.pv (vI i)),(3,.aG 3 0),(5,.aG 5 0),(6,.aG 6 0),(8,.aG 8 0),(9,.pv (.aJ (out.map vI))),(15,.pv (.aJ (r.map Ty.pv))),(16,.pv (vI (k+1:Nat)))],[(3,sC s),(5,tC t),(6,zS),(8,oK v)],[],[0,0]⟩:=by
       conv=>lhs;rw [g398L0e]
       simp (disch:=omega) [-getElem?_pos,g398B0,sC,tC,zS,oK,hx,hk,hg,aA]
     rw [e1]
     exact ih
theorem K7 {s:d5} {i:Nat} {t:Ty} {v:Sl} {out:List Int} (hr:Sm out):∀(n k:Nat),out.length-k=n→k≤out.length →
   (∃q,cl AP g398L1 ⟨[(1,.pv (vI i)),(3,.aG 3 0),(5,.aG 5 0),(6,.aG 6 0),(8,.aG 8 0),(9,.pv (.aJ (out.map vI))),(17,.pv (vI k))],[(3,sC s),(5,tC t),(6,zS),(8,oK v)],[],[0,0]⟩=Ih s q) ∨
   cl AP g398L1 ⟨[(1,.pv (vI i)),(3,.aG 3 0),(5,.aG 5 0),(6,.aG 6 0),(8,.aG 8 0),(9,.pv (.aJ (out.map vI))),(17,.pv (vI k))],[(3,sC s),(5,tC t),(6,zS),(8,oK v)],[],[0,0]⟩ =
     some (.exit 2,⟨[(1,.pv (vI i)),(3,.aG 3 0),(5,.aG 5 0),(6,.aG 6 0),(8,.aG 8 0),(9,.pv (.aJ (out.map vI))),(17,.pv (vI out.length)),(72,.pv (.bool false))],[(3,sC s),(5,tC t),(6,zS),(8,oK v)],[],[0,0]⟩)
 | 0,k,hn,hk=>by
   have:k=out.length:=by omega
   subst this
   refine .inr ?_
   rw [g398L1e]
   simp [g398B1,sC,tC,zS,oK]
 | n+1,k,hn,hk=>by
   have hk:k<out.length:=by omega
   obtain ⟨x,hx⟩:=bO hk
   unfold Sm at hr
   by_cases hg:(s.sl.length:Int)≤x∧v.home<0
   · obtain ⟨g1,g2⟩:=hg
     refine .inl ?_
     rw [g398L1e]
     simp (disch:=omega) [-getElem?_pos,g398B1,sC,tC,zS,oK,Ih,hx,hk,g1,g2]
   · have ih:=K7 (s:=s) (i:=i) (t:=t) (v:=v) (out:=out) hr n (k+1) (by omega) (by omega)
     have e1:cl AP g398L1 ⟨[(1,.pv (vI i)),(3,.aG 3 0),(5,.aG 5 0),(6,.aG 6 0),(8,.aG 8 0),(9,.pv (.aJ (out.map vI))),(17,.pv (vI k))],[(3,sC s),(5,tC t),(6,zS),(8,oK v)],[],[0,0]⟩=cl AP g398L1 ⟨[(1,.pv (vI i)),(3,.aG 3 0),(5,.aG 5 0),(6,.aG 6 0),(8,.aG 8 0),(9,.pv (.aJ (out.map vI))),(17,.pv (vI (k+1:Nat)))],[(3,sC s),(5,tC t),(6,zS),(8,oK v)],[],[0,0]⟩:=by
       conv=>lhs;rw [g398L1e]
       by_cases g1:(s.sl.length:Int)≤x
       · have g2:¬v.home<0:=fun h=>hg ⟨g1,h⟩
         simp (disch:=omega) [-getElem?_pos,g398B1,sC,tC,zS,oK,hx,hk,g1,g2,aA]
       · simp (disch:=omega) [-getElem?_pos,g398B1,sC,tC,zS,oK,hx,hk,g1,aA]
     rw [e1]
     exact ih
structure Kp (s s':d5) (c:Nat):Prop where
 len:s'.sl.length=s.sl.length
 tr:s'.tr.length≤s.tr.length+c
 Fu:∀(k:Nat) o',s'.sl[k]?=some o'→∃o,s.sl[k]?=some o∧o'.bd=o.bd∧o'.ty=o.ty
 ub:ub s'.sl=ub s.sl
theorem Kp.Ft {s s':d5} {c:Nat} (h:Kp s s' c) {i v:Int} (e:Edge s'.sl i v):Edge s.sl i v:=by
 obtain ⟨k,x,rfl,hx,hb,ho⟩:=e
 obtain ⟨o,hk,h1,h2⟩:=h.Fu k x hx
 exact ⟨k,o,rfl,hk,by rw [←h1];exact hb,by rw [←h2];exact ho⟩
theorem Kp.set {s s':d5} {c:Nat} (h:Kp s s' c) {k:Nat} {o x:Sl} (ho:s'.sl[k]?=some o) (hb:x.bd=o.bd) (ht:x.ty=o.ty):Kp s (gQ s' k o x) (c+1) where
 len:=by rw [cD,List.length_set,h.len]
 tr:=by rw [l9];have:=h.tr;omega
 Fu:=by
   intro j o' hj
   rw [cD,List.getElem?_set] at hj
   by_cases e:k=j
   · subst e
     have hl:k<s'.sl.length:=by obtain ⟨h,_⟩:=List.getElem?_eq_some_iff.1 ho;exact h
     rw [if_pos rfl,if_pos hl] at hj
     cases hj
     obtain ⟨p,h1,h2,h3⟩:=h.Fu k o ho
     exact ⟨p,h1,by rw [hb,h2],by rw [ht,h3]⟩
   · rw [if_neg e] at hj
     exact h.Fu j o' hj
 ub:=by rw [cD,qk ho hb,h.ub]
theorem Kp.refl {s:d5}:Kp s s 0:=⟨rfl,by omega,fun k o h=>⟨o,h,rfl,rfl⟩,rfl⟩
theorem Kp.gR {s s':d5} {c d:Nat} (h:Kp s s' c) (hd:c≤d):Kp s s' d:=⟨h.len,by have:=h.tr;omega,h.Fu,h.ub⟩
end Go.Ab.Lw
namespace Go.Ab.Lw
open Ev
def mW (n:Nat) (l:List Int):Nat:=(l.filter fun w:Int=>decide (w<(n:Int))).length
theorem Cz {n:Nat} {l:List Int} (hd:l.Nodup) (h0:∀w∈l,0≤w):mW n l≤n:=by
 have h1:(l.filter fun w=>decide (w<(n:Int))).Nodup:=hd.filter _
 have h2:∀x∈(l.filter fun w=>decide (w<(n:Int))),x∈(List.range n).map (fun k:Nat=>(k:Int)):=by
   intro x hx
   simp at hx
   simp
   exact ⟨x.toNat,by have:=h0 x hx.1;omega,by have:=h0 x hx.1;omega⟩
 have:=gD h1 h2
 simpa [mW] using this
theorem Kp.IL {n M:Nat} {S:List Int} {s s':d5} {c:Nat} (I:Inv n M S s) (h:Kp s s' c) (hc:c≤n):s'.Ok n (M+n+10):=⟨by rw [h.len,I.len];omega,by have:=h.tr;have:=I.IK;have:0≤(n+2)*Lw.ub s.sl:=Nat.zero_le _;omega,by
 intro x hx
 obtain ⟨k,hk⟩:=List.mem_iff_getElem?.1 hx
 obtain ⟨o,ho,_,e⟩:=h.Fu k x hk
 rw [e]
 exact I.ok o (bz ho)⟩
theorem CA {N M:Nat} {S:List Int} {s:d5} (I:Inv N M S s) (hN:N≤1000000) (hM:M≤100000000) {i:Nat} {t:Ty} {v:Sl} {out:List Int} (hr:Sm out) (hd:out.Nodup) (h0:∀w∈out,0≤w):∀(n k:Nat),out.length-k=n→k≤out.length→∀s':d5,Kp s s' (mW N (out.take k))→∃s2,Kp s s2 (mW N out) ∧
   cl AP g398L2 ⟨[(1,.pv (vI i)),(3,.aG 3 0),(5,.aG 5 0),(6,.aG 6 0),(8,.aG 8 0),(9,.pv (.aJ (out.map vI))),(18,.pv (vI k))],[(3,sC s'),(5,tC t),(6,zS),(8,oK v)],[],[0,0]⟩ =
     some (.exit 4,⟨[(1,.pv (vI i)),(3,.aG 3 0),(5,.aG 5 0),(6,.aG 6 0),(8,.aG 8 0),(9,.pv (.aJ (out.map vI))),(18,.pv (vI out.length)),(92,.pv (.bool false))],[(3,sC s2),(5,tC t),(6,zS),(8,oK v)],[],[0,0]⟩)
 | 0,k,hn,hk,s',hK=>by
   have:k=out.length:=by omega
   subst this
   refine ⟨s',by simpa using hK,?_⟩
   rw [g398L2e]
   simp [g398B2,sC,tC,zS,oK]
 | n+1,k,hn,hk,s',hK=>by
   have hk:k<out.length:=by omega
   obtain ⟨x,hx⟩:=bO hk
   have hx0:=h0 x (bz hx)
   have hl:=hK.len
   rw [I.len] at hl
   have htk:out.take (k+1)=out.take k++[x]:=by rw [List.take_add_one,hx];rfl
   have hsub:mW N (out.take k)≤N:=Cz (hd.sublist (List.take_sublist _ _)) (fun w hw=>h0 w (List.mem_of_mem_take hw))
   have hs:=hr
   unfold Sm at hr
   by_cases hg:x<(N:Int)
   · obtain ⟨j,rfl⟩:∃j:Nat,x=j:=⟨x.toNat,by omega⟩
     have hj:j<s'.sl.length:=by omega
     obtain ⟨o,ho⟩:=bO hj
     have hcnt:mW N (out.take (k+1))=mW N (out.take k)+1:=by
       rw [htk]
       simp [mW,hg]
     by_cases hh:v.home<o.home
     · have c:=c393 (hK.IL I hsub) hN (by omega) ho ⟨o.bd,o.ty,v.home,o.base⟩
       have hK2:=hK.set (x:=⟨o.bd,o.ty,v.home,o.base⟩) ho rfl rfl
       rw [←hcnt] at hK2
       obtain ⟨s2,h2,e⟩:=CA (i:=i) (t:=t) (v:=v) I hN hM hs hd h0 n (k+1) (by omega) (by omega) _ hK2
       refine ⟨s2,h2,?_⟩
       generalize gQ s' j o ⟨o.bd,o.ty,v.home,o.base⟩=s1 at *
       rw [g398L2e] at e ⊢
       simp [sC,tC,zS,oK] at e
       simp at c
       simp (disch:=omega) [-getElem?_pos,g398B2,sC,tC,zS,oK,hx,hk,hj,ho,hh,c,aA]
       rw [g398L2e]
       simp [e]
     · have hK2:Kp s s' (mW N (out.take (k+1))):=hK.gR (by omega)
       obtain ⟨s2,h2,e⟩:=CA (i:=i) (t:=t) (v:=v) I hN hM hs hd h0 n (k+1) (by omega) (by omega) s' hK2
       refine ⟨s2,h2,?_⟩
       rw [g398L2e] at e ⊢
       simp [sC,tC,zS,oK] at e
       simp (disch:=omega) [-getElem?_pos,g398B2,sC,tC,zS,oK,hx,hk,hj,ho,hh,aA]
       rw [g398L2e]
       simp [e]
   · have hcnt:mW N (out.take (k+1))=mW N (out.take k):=by
       rw [htk]
       simp [mW,hg]
     have hK2:Kp s s' (mW N (out.take (k+1))):=by rw [hcnt];exact hK
     obtain ⟨s2,h2,e⟩:=CA (i:=i) (t:=t) (v:=v) I hN hM hs hd h0 n (k+1) (by omega) (by omega) s' hK2
     refine ⟨s2,h2,?_⟩
     have hg':¬x<(s'.sl.length:Int):=by omega
     rw [g398L2e] at e ⊢
     simp [sC,tC,zS,oK] at e
     simp (disch:=omega) [-getElem?_pos,g398B2,sC,tC,zS,oK,hx,hk,hg',aA]
     rw [g398L2e]
     simp [e]
end Go.Ab.Lw
namespace Go.Ab.Lw
open Ev
def UR (n M:Nat) (S:List Int) (s s':d5) (e:Int):Prop:=e=0→Inv n M S s'∧(s'=s∨ub s'.sl<ub s.sl)
theorem yJ {n M:Nat} {S:List Int} {s s2:d5} (I:Inv n M S s) {i:Nat} {v:Sl} {t:Ty} (hv:s.sl[i]?=some v) (fi:¬oJ s.sl (i:Int)) {c:Nat} (hK:Kp s s2 c) (hc:c≤n) {o:Sl} (ho:s2.sl[i]?=some o) (ht:t.Ok) (hwf:t.Kw) (hw:∀w,ij t w→w∈S) (hnr:¬RT s.sl t i) {x:Sl} (hb:x.bd=true) (hx:x.ty=t) :
   Inv n M S (gQ s2 i o x)∧ub (gQ s2 i o x).sl<ub s.sl:=by
 have hob:o.bd=false:=by
   obtain ⟨o2,h1,h2,_⟩:=hK.Fu i o ho
   rw [hv] at h1;cases h1
   rw [h2];exact vS hv fi
 have u2:=vP ho hob hb
 have hu:=hK.ub
 have hp:=I.IK
 have hl:=I.len
 refine ⟨⟨by rw [cD,List.length_set,hK.len,I.len],?_,?_,?_,?_,?_⟩,?_⟩
 · rw [l9,cD]
   have:(n+2)*ub s.sl=(n+2)*ub (s2.sl.set i x)+(n+2):=by rw [←hu,←u2,Nat.mul_add,Nat.mul_one]
   have:=hK.tr
   omega
 · intro y hy
   rw [cD] at hy
   rcases mem_set hy with rfl | hy
   · rw [hx];exact ht
   · obtain ⟨k,hk⟩:=List.mem_iff_getElem?.1 hy
     obtain ⟨p,h1,_,h3⟩:=hK.Fu k y hk
     rw [h3];exact I.ok p (bz h1)
 · intro y hy w hw2
   rw [cD] at hy
   rcases mem_set hy with rfl | hy
   · rw [hx] at hw2;exact hw w hw2
   · obtain ⟨k,hk⟩:=List.mem_iff_getElem?.1 hy
     obtain ⟨p,h1,_,h3⟩:=hK.Fu k y hk
     rw [h3] at hw2;exact I.l8 p (bz h1) w hw2
 · rw [cD]
   refine yE (I.Ie.of fun a b=>hK.Ft) ?_
   intro w ho2 hr
   rw [hx] at ho2
   refine hnr ⟨w,ho2,?_⟩
   have key:∀{a b:Int},Cv s2.sl a b→Cv s.sl a b:=by
     intro a b h
     induction h with
     | refl=>exact .refl _
     | step e _ ih=>exact .step (hK.Ft e) ih
   exact key hr
 · intro y hy
   rw [cD] at hy
   rcases mem_set hy with rfl | hy
   · rw [hx];exact hwf
   · obtain ⟨k,hk⟩:=List.mem_iff_getElem?.1 hy
     obtain ⟨p,h1,_,h3⟩:=hK.Fu k y hk
     rw [h3];exact I.wf p (bz h1)
 · rw [cD];omega
theorem c398 {n M:Nat} {S:List Int} {s:d5} (I:Inv n M S s) (hn:n≤1000000) (hM:M≤100000000) (hf:S.length<1099511627776) (hS0:∀w∈S,0≤w) {i:Nat} (hi:i<n) (fi:¬oJ s.sl (i:Int)) {t:Ty} (ht:t.Ok) (hwf:t.Kw) (hw:∀w,ij t w→w∈S) :
   ∃s' e,(aQ AP).p 398 [s.pv,vI i,t.pv]=some [s'.pv,vI e]∧UR n M S s s' e:=by
 have hl:=I.len
 have his:i<s.sl.length:=by omega
 obtain ⟨v,hv⟩:=bO his
 obtain ⟨out,k1,hc,hall⟩:=c372 (by omega) I.Ie I.ok I.l8 hf ht hw
 have hsm:=hc.len
 have k2:=c95 hsm (y:=(i:Int))
 obtain ⟨a,b,ar,k3,_⟩:=c194g ht
 have hsl:Sm s.sl:=by unfold Sm;omega
 obtain ⟨u,bb,k4,hu,hun⟩:=c358 hsl I.ok ht
 obtain ⟨r,k5,hr⟩:=c59t hu hun
 have A:=K6 (s:=s) (i:=i) (t:=t) (v:=v) (out:=out) hr _ 0 rfl (by omega)
 have B:=K7 (s:=s) (i:=i) (t:=t) (v:=v) (out:=out) hsm _ 0 rfl (by omega)
 have h0:∀w∈out,0≤w:=fun w hw=>hS0 w (hc.sub w hw)
 obtain ⟨s2,hK,C⟩:=CA (i:=i) (t:=t) (v:=v) I hn hM hsm hc.nodup h0 _ 0 rfl (by omega) s (by simpa [mW] using Kp.refl)
 have hcn:mW n out≤n:=Cz hc.nodup h0
 have hi2:i<s2.sl.length:=by rw [hK.len];exact his
 obtain ⟨o,ho⟩:=bO hi2
 let x:Sl:=⟨true,t,v.home,v.base⟩
 have k6:=c393 (hK.IL I hcn) hn (by omega) ho x
 by_cases q1:(i:Int)∈out
 · rw [decide_eq_true q1] at k2
   refine ⟨s,12,?_,by intro h;cases h⟩
   rw [aw (af:=g398) rfl rfl (by decide)]
   simp at k1
   simp (disch:=omega) [-getElem?_pos,g398,his,hv,k1,k2]
 · rw [decide_eq_false q1] at k2
   have hnr:¬RT s.sl t i:=fun h=>q1 (hall i h fi)
   have J:=yJ I (x:=x) hv fi hK hcn ho ht hwf hw hnr rfl rfl
   generalize gQ s2 i o x=s3 at *
   simp [x] at k6
   simp at k1 k3 k4 k5
   rw [g398L0e] at A
   rw [g398L1e] at B
   rw [g398L2e] at C
   simp [sC,tC,zS,oK,Ih] at A B C
   by_cases q2:ar=true∧v.base=true
   · obtain ⟨q3,q4⟩:=q2
     refine ⟨s,14,?_,by intro h;cases h⟩
     rw [aw (af:=g398) rfl rfl (by decide)]
     simp (disch:=omega) [-getElem?_pos,g398,his,hv,k1,k2,k3,q3,q4]
   · rcases A with ⟨q,A⟩ | A
     · refine ⟨s,13,?_,by intro h;cases h⟩
       rw [aw (af:=g398) rfl rfl (by decide)]
       cases ar with
       | true=>
         have q4:v.base=false:=by cases e:v.base with | false=>rfl | true=>exact absurd ⟨rfl,e⟩ q2
         simp [q4] at A
         simp (disch:=omega) [-getElem?_pos,g398,his,hv,k1,k2,k3,k4,k5,q4,g398L0e,A]
       | false=>simp (disch:=omega) [-getElem?_pos,g398,his,hv,k1,k2,k3,k4,k5,g398L0e,A]
     · rcases B with ⟨q,B⟩ | B
       · refine ⟨s,13,?_,by intro h;cases h⟩
         rw [aw (af:=g398) rfl rfl (by decide)]
         cases ar with
         | true=>
           have q4:v.base=false:=by cases e:v.base with | false=>rfl | true=>exact absurd ⟨rfl,e⟩ q2
           simp [q4] at A B
           simp (disch:=omega) [-getElem?_pos,g398,his,hv,k1,k2,k3,k4,k5,q4,g398L0e,A,g398L1e,B]
         | false=>simp (disch:=omega) [-getElem?_pos,g398,his,hv,k1,k2,k3,k4,k5,g398L0e,A,g398L1e,B]
       · refine ⟨s3,0,?_,fun _=>⟨J.1,.inr J.2⟩⟩
         rw [aw (af:=g398) rfl rfl (by decide)]
         cases ar with
         | true=>
           have q4:v.base=false:=by cases e:v.base with | false=>rfl | true=>exact absurd ⟨rfl,e⟩ q2
           simp [q4] at A B C k6
           simp (disch:=omega) [-getElem?_pos,g398,his,hv,k1,k2,k3,k4,k5,q4,g398L0e,A,g398L1e,B,g398L2e,C,k6]
         | false=>simp (disch:=omega) [-getElem?_pos,g398,his,hv,k1,k2,k3,k4,k5,g398L0e,A,g398L1e,B,g398L2e,C,k6]
end Go.Ab.Lw
namespace Go.Ab.Lw
open Ev
theorem yK {s:List Sl} {rk:Int→Nat} (hr:∀i v,Edge s i v→rk v<rk i):∀(m:Nat) (t:Ty),iz s (wk s m t)≠none→∃(i:Nat) (l:List Nat),t.kind=1∧t.id=i∧l.length=m∧(i::l).Pairwise (fun a b:Nat=>rk (b:Int)<rk (a:Int))∧∀a∈i::l,a<s.length
 | 0,t,h=>by
   cases hb:iz s t with
   | none=>exact absurd hb h
   | some x=>
     obtain ⟨k,i,hi,hx,_⟩:=gq hb
     have hl:i<s.length:=by obtain ⟨h,_⟩:=List.getElem?_eq_some_iff.1 hx;exact h
     exact ⟨i,[],k,hi,rfl,by simp,by simpa using hl⟩
 | m+1,t,h=>by
   cases hb:iz s t with
   | none=>
     have:wk s (m+1) t=t:=by simp [wk,hb]
     rw [this] at h
     exact absurd hb h
   | some x=>
     obtain ⟨k,i,hi,hx,hbd⟩:=gq hb
     have hl:i<s.length:=by obtain ⟨h,_⟩:=List.getElem?_eq_some_iff.1 hx;exact h
     have e:wk s (m+1) t=wk s m x.ty:=by simp [wk,hb]
     rw [e] at h
     obtain ⟨j,l,k2,hj,hn,hp,ha⟩:=yK hr m x.ty h
     have ed:Edge s (i:Int) (j:Int):=⟨i,x,rfl,hx,hbd,by rw [←hj];exact .var k2⟩
     have hlt:=hr _ _ ed
     refine ⟨i,j::l,k,hi,by simp [hn],?_,?_⟩
     · rw [List.pairwise_cons]
       refine ⟨?_,hp⟩
       intro b hb
       simp only [List.mem_cons] at hb
       rcases hb with rfl | hb
       · exact hlt
       · have:=(List.pairwise_cons.1 hp).1 b hb;omega
     · intro a hm
       simp only [List.mem_cons] at hm
       rcases hm with rfl | hm
       · exact hl
       · exact ha a (by simpa using hm)
theorem sr {s:List Sl} (h:FL s) {t:Ty}:iz s (kv s t)=none:=by
 obtain ⟨rk,hr⟩:=h
 cases hb:iz s (kv s t) with
 | none=>rfl
 | some x=>
   exfalso
   obtain ⟨i,l,_,_,hl,hp,ha⟩:=yK hr (s.length+1) t (by unfold kv at hb;rw [hb];simp)
   have hd:(i::l).Nodup:=hp.imp (fun {a b} h e=>by rw [e] at h;omega)
   have:=gD hd (S:=List.range s.length) (fun a h=>by simpa using ha a h)
   simp at this
   omega
theorem kx {s:List Sl} {S:List Int} (hs:∀x∈s,∀w,ij x.ty w→w∈S):∀{m:Nat} {t:Ty},(∀w,ij t w→w∈S)→∀w,ij (wk s m t) w→w∈S
 | 0,t,h=>h
 | m+1,t,h=>by
   unfold wk
   split
   · rename_i x hx
     obtain ⟨_,i,_,hi,_⟩:=gq hx
     exact kx hs (hs x (bz hi))
   · exact h
theorem Ox {n M:Nat} {S:List Int} {s:d5} {x y:Ty} (hx:x.Ok) (hxy:x.args.length=y.args.length)
   (H:∀s',Inv n M S s'→(s'=s∨ub s'.sl<ub s.sl)→∀(i:Nat) a b,x.args[i]?=some a→y.args[i]?=some b→∃s2 e,(aQ AP).p 391 [s'.pv,a.pv,b.pv]=some [s2.pv,vI e]∧UR n M S s' s2 e) :
   ∀(m i:Nat),x.args.length-i=m→i≤x.args.length→∀(s':d5) (e:Int),UR n M S s s' e→∃(s2:d5) (e2:Int) (i2:Nat),
   cl AP g391L0 ⟨[(3,.aG 3 0),(6,.aG 6 0),(8,.aG 8 0),(9,.aG 9 0),(10,.pv (vI e)),(11,.pv (vI i))],[(3,sC s'),(6,zS),(8,tC x),(9,tC y)],[],[0,0]⟩ =
     some (.exit 1,⟨[(3,.aG 3 0),(6,.aG 6 0),(8,.aG 8 0),(9,.aG 9 0),(10,.pv (vI e2)),(11,.pv (vI i2)),(109,.pv (.bool false))],[(3,sC s2),(6,zS),(8,tC x),(9,tC y)],[],[0,0]⟩)∧UR n M S s s2 e2
 | 0,i,hm,hi,s',e,h=>by
   have:i=x.args.length:=by omega
   subst this
   refine ⟨s',e,x.args.length,?_,h⟩
   rw [g391L0e]
   simp [g391B0,sC,tC,zS]
 | m+1,i,hm,hi,s',e,h=>by
   have hi:i<x.args.length:=by omega
   obtain ⟨a,ha⟩:=bO hi
   have hiy:i<y.args.length:=by omega
   obtain ⟨b,hb⟩:=bO hiy
   have hsm:=hx.sm
   unfold Sm at hsm
   by_cases he:e=0
   · obtain ⟨I,hu⟩:=h he
     obtain ⟨s1,e1,c,h1⟩:=H s' I hu i a b ha hb
     have h2:UR n M S s s1 e1:=fun q=>by
       obtain ⟨J,ju⟩:=h1 q
       refine ⟨J,?_⟩
       rcases ju with rfl | ju
       · exact hu
       · rcases hu with rfl | hu
         · exact .inr ju
         · exact .inr (by omega)
     obtain ⟨s2,e2,i2,eq,h3⟩:=Ox hx hxy H m (i+1) (by omega) (by omega) s1 e1 h2
     refine ⟨s2,e2,i2,?_,h3⟩
     rw [g391L0e] at eq ⊢
     simp [sC,tC,zS] at eq
     simp at c
     simp (disch:=omega) [-getElem?_pos,g391B0,sC,tC,zS,hi,hiy,ha,hb,he,c,aA]
     rw [g391L0e]
     simp [eq]
   · refine ⟨s',e,i,?_,h⟩
     rw [g391L0e]
     simp (disch:=omega) [-getElem?_pos,g391B0,sC,tC,zS,hi,he]
end Go.Ab.Lw
namespace Go.Ab.Lw
open Ev
theorem mX {s:List Sl} {t:Ty} (h:mr s t=true):t.kind=1∧∃i:Nat,t.id=i∧i<s.length:=by
 simp [mr] at h
 exact ⟨h.1,t.id.toNat,by omega,by omega⟩
theorem nQ {s:List Sl} (hs:∀x∈s,x.ty.Kw):∀{m:Nat} {t:Ty},t.Kw→(wk s m t).Kw
 | 0,t,h=>h
 | m+1,t,h=>by
   unfold wk
   split
   · rename_i x hx
     obtain ⟨_,i,_,hi,_⟩:=gq hx
     exact nQ hs (hs x (bz hi))
   · exact h
theorem Oy {n M:Nat} {S:List Int} {s:d5} (I:Inv n M S s) (hn:n≤1000000) (hM:M≤100000000) (hf:S.length<1099511627776) (hS0:∀w∈S,0≤w) {a b:Ty} (ha:a.Ok) (hb:b.Ok) (wa:a.Kw) (wb:b.Kw) (oa:∀w,ij a w→w∈S) (ob:∀w,ij b w→w∈S) {r1:Nat} (k1:(aQ AP).p 355 [s.pv,a.pv,vI (200:Nat)]=some [vI r1])
   (H:r1≤200→∀s',Inv n M S s'→(s'=s∨ub s'.sl<ub s.sl)→∀(i:Nat) x y,(kv s.sl a).args[i]?=some x→(kv s.sl b).args[i]?=some y→∃s2 e,(aQ AP).p 391 [s'.pv,x.pv,y.pv]=some [s2.pv,vI e]∧UR n M S s' s2 e) :
   ∃s' e,(aQ AP).p 391 [s.pv,a.pv,b.pv]=some [s'.pv,vI e]∧UR n M S s s' e:=by
 have hl:=I.len
 have hsm:Sm s.sl:=by unfold Sm;omega
 obtain ⟨r2,k2,_,_,_⟩:=c355 hsm I.ok (m:=200) (by omega) hb
 have k3:=c386 hsm (t:=a)
 have k4:=c386 hsm (t:=b)
 have xf:=sr I.Ie (t:=a)
 have yf:=sr I.Ie (t:=b)
 have xO:(kv s.sl a).Ok:=lG I.ok ha
 have yO:(kv s.sl b).Ok:=lG I.ok hb
 have xo:∀w,ij (kv s.sl a) w→w∈S:=kx I.l8 oa
 have yo:∀w,ij (kv s.sl b) w→w∈S:=kx I.l8 ob
 change (aQ AP).p 386 [s.pv,a.pv]=some [(kv s.sl a).pv] at k3
 change (aQ AP).p 386 [s.pv,b.pv]=some [(kv s.sl b).pv] at k4
 have xw:(kv s.sl a).Kw:=nQ I.wf wa
 have yw:(kv s.sl b).Kw:=nQ I.wf wb
 generalize kv s.sl a=x at *
 generalize kv s.sl b=y at *
 have k5:=c396 (s:=s) (t:=x)
 have k6:=c396 (s:=s) (t:=y)
 simp at k1 k2 k3 k4
 by_cases h1:200<r1
 · refine ⟨s,15,?_,by intro h;cases h⟩
   have h1':(200:Int)<r1:=by omega
   rw [aw (af:=g391) rfl rfl (by decide)]
   simp [g391,k1,h1']
 · have h1':¬(200:Int)<r1:=by omega
   have H:=H (by omega)
   by_cases h2:200<r2
   · refine ⟨s,15,?_,by intro h;cases h⟩
     have h2':(200:Int)<r2:=by omega
     rw [aw (af:=g391) rfl rfl (by decide)]
     simp [g391,k1,k2,h1',h2']
   · have h2':¬(200:Int)<r2:=by omega
     cases sx:mr s.sl x with
     | true=>
       obtain ⟨xk,i,xi,hi⟩:=mX sx
       have fi:¬oJ s.sl (i:Int):=by rw [←xi];exact jg xk xf
       rw [sx] at k5
       cases sy:mr s.sl y with
       | true=>
         obtain ⟨yk,j,yj,hj⟩:=mX sy
         have fj:¬oJ s.sl (j:Int):=by rw [←yj];exact jg yk yf
         rw [sy] at k6
         obtain ⟨s',c,J⟩:=c397 I hn hM xi yj (by omega) (by omega) fi fj (by rw [←xi];exact xo _ (.var xk)) (by rw [←yj];exact yo _ (.var yk))
         refine ⟨s',0,?_,fun _=>J⟩
         simp at k5 k6 c
         rw [aw (af:=g391) rfl rfl (by decide)]
         simp [g391,k1,k2,k3,k4,k5,k6,h1',h2',c]
       | false=>
         rw [sy] at k6
         obtain ⟨s',e,c,J⟩:=c398 I hn hM hf hS0 (by omega) fi yO yw yo
         refine ⟨s',e,?_,J⟩
         simp [xi] at k3 k5 k6 c
         rw [aw (af:=g391) rfl rfl (by decide)]
         simp [g391,k1,k2,k3,k4,k5,k6,h1',h2',xi,c]
     | false=>
       rw [sx] at k5
       cases sy:mr s.sl y with
       | true=>
         obtain ⟨yk,j,yj,hj⟩:=mX sy
         have fj:¬oJ s.sl (j:Int):=by rw [←yj];exact jg yk yf
         rw [sy] at k6
         obtain ⟨s',e,c,J⟩:=c398 I hn hM hf hS0 (by omega) fj xO xw xo
         refine ⟨s',e,?_,J⟩
         simp [yj] at k4 k5 k6 c
         rw [aw (af:=g391) rfl rfl (by decide)]
         simp [g391,k1,k2,k3,k4,k5,k6,h1',h2',yj,c]
       | false=>
         rw [sy] at k6
         simp at k5 k6
         by_cases q:x.kind=y.kind∧x.name=y.name∧x.id=y.id∧x.home=y.home∧x.args.length=y.args.length
         · obtain ⟨q1,q2,q3,q4,q5⟩:=q
           obtain ⟨s2,e2,i2,eq,U⟩:=Ox xO q5 H _ 0 rfl (by omega) s 0 (fun _=>⟨I,.inl rfl⟩)
           refine ⟨s2,e2,?_,U⟩
           rw [g391L0e] at eq
           simp [sC,tC,zS] at eq
           rw [aw (af:=g391) rfl rfl (by decide)]
           simp [g391,k1,k2,k3,k4,k5,k6,h1',h2']
           simp only [q1,q2,q3,q4,q5] at *
           simp [g391L0e,eq]
         · refine ⟨s,11,?_,by intro h;cases h⟩
           rw [aw (af:=g391) rfl rfl (by decide)]
           by_cases q1:x.kind=y.kind
           · have p1:=eq_true q1
             by_cases q2:x.name=y.name
             · have p2:=eq_true q2
               by_cases q3:x.id=y.id
               · have p3:=eq_true q3
                 by_cases q4:x.home=y.home
                 · have p4:=eq_true q4
                   have q5:¬x.args.length=y.args.length:=fun e=>q ⟨q1,q2,q3,q4,e⟩
                   have q6:¬(x.args.length:Int)=y.args.length:=by omega
                   clear q q1 q2 q3 q4
                   simp [g391,k1,k2,k3,k4,k5,k6,h1',h2',p1,p2,p3,p4,q5,q6]
                 · clear q q1 q2 q3
                   simp [g391,k1,k2,k3,k4,k5,k6,h1',h2',p1,p2,p3,q4]
               · clear q q1 q2
                 simp [g391,k1,k2,k3,k4,k5,k6,h1',h2',p1,p2,q3]
             · clear q q1
               simp [g391,k1,k2,k3,k4,k5,k6,h1',h2',p1,q2]
           · simp [g391,k1,k2,k3,k4,k5,k6,h1',h2',q1]
theorem ql {S:List Int} {t:Ty} (hw:t.Kw) (h:∀w,ij t w→w∈S):∀z∈t.args,∀w,ij z w→w∈S:=by
 intro z hz w ho
 by_cases k:t.kind=1
 · rw [hw.var k] at hz;cases hz
 · exact h w (.arg k hz ho)
def Mw (n M:Nat) (S:List Int) (s:d5):Prop:=∀a b:Ty,a.Ok→b.Ok→a.Kw→b.Kw→(∀w,ij a w→w∈S)→(∀w,ij b w→w∈S)→∃s2 e,(aQ AP).p 391 [s.pv,a.pv,b.pv]=some [s2.pv,vI e]∧UR n M S s s2 e
theorem c391r {n M:Nat} {S:List Int} {s:d5} (I:Inv n M S s) (hn:n≤1000000) (hM:M≤100000000) (hf:S.length<1099511627776) (hS0:∀w∈S,0≤w)
   (IH:∀s':d5,ub s'.sl<ub s.sl→Inv n M S s'→Mw n M S s') (r:Nat) :
   ∀a b:Ty,Tr s.sl a r→a.Ok→b.Ok→a.Kw→b.Kw→(∀w,ij a w→w∈S)→(∀w,ij b w→w∈S)→∃s2 e,(aQ AP).p 391 [s.pv,a.pv,b.pv]=some [s2.pv,vI e]∧UR n M S s s2 e:=by
 induction r using Nat.strongRecOn with
 | ind r ih=>
   intro a b ht ha hb wa wb oa ob
   have hl:=I.len
   have hsm:Sm s.sl:=by unfold Sm;omega
   obtain ⟨r1,k1,_,_,_⟩:=c355 hsm I.ok (m:=200) (by omega) ha
   obtain ⟨ns,hT,hr⟩:=ht.inv
   have xO:(kv s.sl a).Ok:=lG I.ok ha
   have yO:(kv s.sl b).Ok:=lG I.ok hb
   have xw:(kv s.sl a).Kw:=nQ I.wf wa
   have yw:(kv s.sl b).Kw:=nQ I.wf wb
   have xo:=ql xw (kx I.l8 oa:∀w,ij (kv s.sl a) w→w∈S)
   have yo:=ql yw (kx I.l8 ob:∀w,ij (kv s.sl b) w→w∈S)
   refine Oy I hn hM hf hS0 ha hb wa wb oa ob k1 ?_
   intro _ s' I' hu i x y hx hy
   have hi:i<(kv s.sl a).args.length:=by obtain ⟨h,_⟩:=List.getElem?_eq_some_iff.1 hx;exact h
   have mx:=bz hx
   have my:=bz hy
   rcases hu with rfl | hu
   · obtain ⟨m,hm⟩:=bO (l:=ns) (i:=i) (by rw [hT.1];exact hi)
     have:=vO hm
     exact ih m (by omega) x y (hT.2 i x m hx hm) (xO.gV x mx) (yO.gV y my) (xw.gV x mx) (yw.gV y my) (xo x mx) (yo y my)
   · exact IH s' hu I' x y (xO.gV x mx) (yO.gV y my) (xw.gV x mx) (yw.gV y my) (xo x mx) (yo y my)
theorem c391 {n M:Nat} {S:List Int} (hn:n≤1000000) (hM:M≤100000000) (hf:S.length<1099511627776) (hS0:∀w∈S,0≤w) (u:Nat):∀s:d5,ub s.sl=u→Inv n M S s→Mw n M S s:=by
 induction u using Nat.strongRecOn with
 | ind u IH=>
   intro s hu I a b ha hb wa wb oa ob
   have hl:=I.len
   have hsm:Sm s.sl:=by unfold Sm;omega
   have IH':∀s':d5,ub s'.sl<ub s.sl→Inv n M S s'→Mw n M S s':=fun s' h I'=>IH _ (by omega) s' rfl I'
   obtain ⟨r1,k1,_,_,ht⟩:=c355 hsm I.ok (m:=200) (by omega) ha
   have xO:(kv s.sl a).Ok:=lG I.ok ha
   have yO:(kv s.sl b).Ok:=lG I.ok hb
   have xw:(kv s.sl a).Kw:=nQ I.wf wa
   have yw:(kv s.sl b).Kw:=nQ I.wf wb
   have xo:=ql xw (kx I.l8 oa:∀w,ij (kv s.sl a) w→w∈S)
   have yo:=ql yw (kx I.l8 ob:∀w,ij (kv s.sl b) w→w∈S)
   refine Oy I hn hM hf hS0 ha hb wa wb oa ob k1 ?_
   intro h200 s' I' hu i x y hx hy
   have hi:i<(kv s.sl a).args.length:=by obtain ⟨h,_⟩:=List.getElem?_eq_some_iff.1 hx;exact h
   have mx:=bz hx
   have my:=bz hy
   rcases hu with rfl | hu
   · obtain ⟨ns,hT,hr⟩:=(ht h200).inv
     obtain ⟨m,hm⟩:=bO (l:=ns) (i:=i) (by rw [hT.1];exact hi)
     exact c391r I' hn hM hf hS0 IH' m x y (hT.2 i x m hx hm) (xO.gV x mx) (yO.gV y my) (xw.gV x mx) (yw.gV y my) (xo x mx) (yo y my)
   · exact IH' s' hu I' x y (xO.gV x mx) (yO.gV y my) (xw.gV x mx) (yw.gV y my) (xo x mx) (yo y my)
end Go.Ab.Lw
namespace Go.Ab.Lw
open Ev
structure Fit (S:List Int) (t:Ty):Prop where
 ok:t.Ok
 wf:t.Kw
 l8:∀w,ij t w→w∈S
structure PU (n M:Nat) (S:List Int):Prop where
 n:n≤1000000
 m:M≤100000000
 Fm:S.length<1099511627776
 nn:∀w∈S,0≤w
theorem c385 {n M:Nat} {S:List Int} (N:PU n M S) {s:d5} (I:Inv n M S s) {a b:Ty} (fa:Fit S a) (fb:Fit S b):∃s' e,(aQ AP).p 385 [s.pv,a.pv,b.pv]=some [s'.pv,vI e]∧Inv n M S s':=by
 obtain ⟨s',e,c,U⟩:=c391 N.n N.m N.Fm N.nn _ s rfl I a b fa.ok fb.ok fa.wf fb.wf fa.l8 fb.l8
 simp at c
 by_cases he:e=0
 · refine ⟨s',0,?_,(U he).1⟩
   subst he
   rw [aw (af:=g385) rfl rfl (by decide)]
   simp [g385,c]
 · refine ⟨s,e,?_,I⟩
   rw [aw (af:=g385) rfl rfl (by decide)]
   simp [g385,c,he]
end Go.Ab.Lw
namespace Go.Ab.Lw
open Ev
theorem Ii {n M:Nat} {S:List Int} {s:d5} (I:Inv n M S s) {i:Nat} {o x:Sl} (ho:s.sl[i]?=some o) (hb:x.bd=o.bd) (ht:x.ty=o.ty):Inv n (M+1) S (gQ s i o x) where
 len:=by rw [cD,List.length_set,I.len]
 IK:=by rw [l9,cD,qk ho hb];have:=I.IK;omega
 ok:=by
   intro y hy
   rw [cD] at hy
   rcases mem_set hy with rfl | hy
   · rw [ht];exact I.ok o (bz ho)
   · exact I.ok y hy
 l8:=by
   intro y hy
   rw [cD] at hy
   rcases mem_set hy with rfl | hy
   · rw [ht];exact I.l8 o (bz ho)
   · exact I.l8 y hy
 Ie:=by rw [cD];exact yD I.Ie ho hb ht
 wf:=by
   intro y hy
   rw [cD] at hy
   rcases mem_set hy with rfl | hy
   · rw [ht];exact I.wf o (bz ho)
   · exact I.wf y hy
theorem Inv.gR {n M M':Nat} {S S':List Int} {s:d5} (I:Inv n M S s) (h:M≤M') (hS:∀w∈S,w∈S'):Inv n M' S' s:=⟨I.len,by have:=I.IK;omega,I.ok,fun x hx w ho=>hS w (I.l8 x hx w ho),I.Ie,I.wf⟩
theorem c394 {n M:Nat} {S:List Int} (N:PU n M S) (hS:∀w∈S,w<n) {s:d5} (I:Inv n M S s) {t:Ty} (ft:Fit S t):∃s',(aQ AP).p 394 [s.pv,t.pv]=some [s'.pv]∧Inv n (M+1) S s':=by
 have hl:=I.len
 have hn:=N.n
 have hM:=N.m
 have hsm:Sm s.sl:=by unfold Sm;omega
 have k3:=c386 hsm (t:=t)
 have xo:∀w,ij (wk s.sl (s.sl.length+1) t) w→w∈S:=kx I.l8 ft.l8
 generalize wk s.sl (s.sl.length+1) t=x at *
 by_cases k:x.kind=1
 · have ho:=xo _ (.var k)
   have h0:=N.nn _ ho
   have h1:=hS _ ho
   obtain ⟨i,hi⟩:∃i:Nat,x.id=i:=⟨x.id.toNat,by omega⟩
   have hil:i<s.sl.length:=by omega
   obtain ⟨o,hoo⟩:=bO hil
   have c:=c393 I.IL hn (by omega) hoo ⟨o.bd,o.ty,o.home,true⟩
   refine ⟨_,?_,Ii I hoo (x:=⟨o.bd,o.ty,o.home,true⟩) rfl rfl⟩
   generalize gQ s i o ⟨o.bd,o.ty,o.home,true⟩=s1 at *
   simp [k,hi] at k3
   simp at c
   rw [aw (af:=g394) rfl rfl (by decide)]
   simp (disch:=omega) [-getElem?_pos,g394,k3,hil,hoo,c]
 · refine ⟨s,?_,I.gR (by omega) (fun _ h=>h)⟩
   simp at k3
   rw [aw (af:=g394) rfl rfl (by decide)]
   simp [g394,k3,k]
def eG (n:Nat):List Int:=(List.range n).map fun k:Nat=>(k:Int)
theorem eK {n:Nat} {w:Int}:w∈eG n↔0≤w∧w<n:=by
 simp only [eG,List.mem_map,List.mem_range]
 constructor
 · rintro ⟨k,h,rfl⟩;omega
 · intro h;exact ⟨w.toNat,by omega,by omega⟩
theorem Mx {n M:Nat} (hn:n≤1000000) (hM:M≤100000000):PU n M (eG n):=⟨hn,hM,by simp [eG];omega,fun w h=>(eK.1 h).1⟩
theorem ue {n M:Nat} {s:d5} (I:Inv n M (eG n) s) (home:Int) (b:Bool) {M':Nat} (hM:M+ub s.sl+n+4≤M'):Inv (n+1) M' (eG (n+1)) (dr s home b) where
 len:=by simp [dr,I.len]
 IK:=by
   have:=I.IK
   have hu:ub (dr s home b).sl=ub s.sl+1:=by simp [dr,ub,List.countP_append]
   have ht:(dr s home b).tr.length=s.tr.length+1:=by simp [dr]
   rw [hu,ht]
   have:(n+1+2)*(ub s.sl+1)=(n+2)*ub s.sl+ub s.sl+n+3:=by rw [Nat.mul_add,Nat.add_right_comm n 1 2,Nat.add_mul (n+2) 1];omega
   omega
 ok:=by
   intro x hx
   simp [dr] at hx
   rcases hx with hx | rfl
   · exact I.ok x hx
   · exact cZ rfl
 l8:=by
   intro x hx w ho
   simp [dr] at hx
   rcases hx with hx | rfl
   · have:=eK.1 (I.l8 x hx w ho);exact eK.2 (by omega)
   · cases ho with
     | var q=>simp [bW] at q
     | arg _ ha _=>simp [bW] at ha
 Ie:=H9 I.Ie rfl
 wf:=by
   intro x hx
   simp [dr] at hx
   rcases hx with hx | rfl
   · exact I.wf x hx
   · exact ⟨by simp [bW],by simp [bW],by simp [bW]⟩
end Go.Ab.Lw
namespace Go.Ab.Lw
open Ev
mutual
def Ty.lK (l:List d4):Ty→Ty
 | ⟨k,n,i,h,as⟩=>if k=5∧0≤nN l n then cQ (nN l n) else ⟨k,n,i,h,Ty.Ij l as⟩
def Ty.Ij (l:List d4):List Ty→List Ty
 | []=>[]
 | a::r=>a.lK l::Ty.Ij l r
end
theorem Ty.yL (l:List d4):∀as:List Ty,Ty.Ij l as=as.map (Ty.lK l)
 | []=>by simp [Ty.Ij]
 | a::r=>by simp [Ty.Ij,Ty.yL l r]
theorem Ty.vT (l:List d4) (t:Ty):t.lK l=if t.kind=5∧0≤nN l t.name then cQ (nN l t.name) else ⟨t.kind,t.name,t.id,t.home,t.args.map (Ty.lK l)⟩:=by
 cases t;simp only [Ty.lK,Ty.yL]
theorem Oz {l:List d4} {t:Ty} (hS:Sm t.args) (h:∀x∈t.args,(aQ AP).p 198 [x.pv,.aJ (l.map .str)]=some [(x.lK l).pv]):∀(n i:Nat),t.args.length-i=n→i≤t.args.length→∀acc:List Ty,acc=(t.args.take i).map (Ty.lK l) →
   cl AP g198L0 ⟨[(1,.pv (.aJ (l.map .str))),(2,.aG 2 0),(4,.aG 4 0),(6,.aG 6 0),(7,.pv (vI i))],
     [(2,Mh t),(4,[.pv (vI 0),.pv (.str []),.pv (vI 0),.pv (vI 0),.own [] 0]),(6,[.pv (vI t.kind),.pv (.str t.name),.pv (vI t.id),.pv (vI t.home),.own (acc.map Ty.pv) 1])],[],[0,acc.length]⟩ =
     some (.exit 0,⟨[(1,.pv (.aJ (l.map .str))),(2,.aG 2 0),(4,.aG 4 0),(6,.aG 6 0),(7,.pv (vI t.args.length)),(26,.pv (.bool false))],
     [(2,Mh t),(4,[.pv (vI 0),.pv (.str []),.pv (vI 0),.pv (vI 0),.own [] 0]),(6,[.pv (vI t.kind),.pv (.str t.name),.pv (vI t.id),.pv (vI t.home),.own ((t.args.map (Ty.lK l)).map Ty.pv) 1])],[],[0,t.args.length]⟩)
 | 0,i,hn,hi,acc,ha=>by
   have:i=t.args.length:=by omega
   subst this
   subst ha
   rw [g198L0e]
   simp [g198B0]
 | n+1,i,hn,hi,acc,ha=>by
   have hi:i<t.args.length:=by omega
   obtain ⟨x,hx⟩:=bO hi
   unfold Sm at hS
   have hb:(acc.length+1)*64≤140737488355328:=by subst ha;simp;omega
   have hc:=h x (bz hx)
   have ih:=Oz hS h n (i+1) (by omega) (by omega) (acc++[x.lK l]) (by rw [List.take_add_one,hx,ha];simp)
   rw [g198L0e] at ih ⊢
   simp at ih hc
   simp (disch:=omega) [-getElem?_pos,g198B0,hx,hi,hc,hb,aA]
   rw [g198L0e]
   simp [ih]
theorem c198 {l:List d4} (hl:Sm l) {t:Ty} (hO:t.Ok) (hC:t.Cw):(aQ AP).p 198 [t.pv,.aJ (l.map .str)]=some [(t.lK l).pv]:=by
 revert hO hC
 refine Ty.eP (p:=fun t=>t.Ok→t.Cw→(aQ AP).p 198 [t.pv,.aJ (l.map .str)]=some [(t.lK l).pv]) ?_ t
 intro t ih hO hC
 have k1:=c216 hl (y:=t.name)
 have k2:=c72 (n:=nN l t.name)
 have h:=Oz hO.sm (fun x hx=>ih x hx (hO.gV x hx) (hC.gV x hx)) t.args.length 0 (by omega) (by omega) [] (by simp)
 rw [aw (af:=g198) rfl rfl (by decide),Ty.vT]
 rw [g198L0e] at h
 simp at k2 h
 by_cases e1:t.kind=5
 · have ea:=hC.bare (by rw [e1];decide)
   by_cases e2:0≤nN l t.name
   · simp [g198,k1,e1,e2,k2,cQ]
   · simp [g198,k1,e1,e2,ea]
 · simp [g198,e1,g198L0e,h]
end Go.Ab.Lw
namespace Go.Ab.Lw
open Ev
def eT (out:List d4) (x:d4):List d4:=if x∈out then out else out++[x]
structure jy (S out:List d4):Prop where
 nodup:out.Nodup
 sub:∀x∈out,x∈S
 Fm:S.length<1099511627776
theorem jy.len {S out:List d4} (h:jy S out):Sm out:=by
 have:=gD h.nodup h.sub
 have:=h.Fm
 unfold Sm;omega
theorem jy.put {S out:List d4} (h:jy S out) {x:d4} (hx:x∈S):jy S (eT out x):=by
 unfold eT
 split
 · exact h
 · rename_i e
   refine ⟨?_,?_,h.Fm⟩
   · rw [List.nodup_append]
     refine ⟨h.nodup,by simp,?_⟩
     intro a ha b hb
     simp at hb
     subst hb
     intro e';subst e';exact e ha
   · intro y hy
     simp at hy
     rcases hy with hy | rfl
     · exact h.sub y hy
     · exact hx
theorem jy.fold {S:List d4}:∀{l:List d4} {out:List d4},jy S out→(∀x∈l,x∈S)→jy S (l.foldl eT out)
 | [],_,h,_=>h
 | x::r,out,h,hx=>by
   simp only [List.foldl_cons]
   exact jy.fold (h.put (hx x (by simp))) (fun y hy=>hx y (by simp [hy]))
theorem uf:∀{l:List d4} {out:List d4} {x:d4},x∈out→x∈l.foldl eT out
 | [],_,_,h=>h
 | y::r,out,x,h=>by
   simp only [List.foldl_cons]
   apply uf
   unfold eT
   split
   · exact h
   · simp [h]
mutual
def Ty.gh:Ty→List d4
 | ⟨k,n,_,_,as⟩=>(if k=5 then [n] else [])++Ty.yM as
def Ty.yM:List Ty→List d4
 | []=>[]
 | a::r=>a.gh++Ty.yM r
end
theorem Ty.ug:∀l:List Ty,Ty.yM l=l.flatMap Ty.gh
 | []=>by simp [Ty.yM]
 | a::r=>by simp [Ty.yM,Ty.ug r]
theorem Ty.CB (t:Ty):t.gh=(if t.kind=5 then [t.name] else [])++t.args.flatMap Ty.gh:=by
 cases t;simp only [Ty.gh,Ty.ug]
def d7 (t:Ty):List d4:=t.gh.foldl eT []
theorem OA {S:List d4} {t:Ty} (hS:Sm t.args) (h:∀x∈t.args,∀out,jy S out→(aQ AP).i 222 [.own (out.map .str) 0,.pv x.pv] [] [out.length]=some ([.own ((x.gh.foldl eT out).map .str) 0],[],[(x.gh.foldl eT out).length]))
   (hk:∀y∈t.args.flatMap Ty.gh,y∈S):∀(n i:Nat),t.args.length-i=n→i≤t.args.length→∀out,jy S out →
   cl AP g222L0 ⟨[(0,.own (out.map .str) 0),(3,.aG 3 0),(5,.pv (vI i))],[(3,Mh t)],[],[out.length]⟩ =
     some (.exit 0,⟨[(0,.own ((((t.args.drop i).flatMap Ty.gh).foldl eT out).map .str) 0),(3,.aG 3 0),(5,.pv (vI t.args.length)),(25,.pv (.bool false))],[(3,Mh t)],[],[(((t.args.drop i).flatMap Ty.gh).foldl eT out).length]⟩)
 | 0,i,hn,hi,out,hc=>by
   have:i=t.args.length:=by omega
   subst this
   rw [g222L0e]
   simp [g222B0]
 | n+1,i,hn,hi,out,hc=>by
   have hi:i<t.args.length:=by omega
   obtain ⟨x,hx⟩:=bO hi
   unfold Sm at hS
   have hkx:∀y∈x.gh,y∈S:=fun y hy=>hk y (by simp only [List.mem_flatMap];exact ⟨x,bz hx,hy⟩)
   have k:=h x (bz hx) out hc
   have ih:=OA (t:=t) (by unfold Sm;exact hS) h hk n (i+1) (by omega) (by omega) _ (hc.fold hkx)
   rw [g222L0e] at ih ⊢
   rw [cY hx]
   simp at k ih
   simp (disch:=omega) [-getElem?_pos,g222B0,hx,hi,k,aA]
   rw [g222L0e]
   simp [ih]
theorem c222 {S:List d4} {t:Ty} (hO:t.Ok) (hk:∀y∈t.gh,y∈S):∀out,jy S out →
   (aQ AP).i 222 [.own (out.map .str) 0,.pv t.pv] [] [out.length]=some ([.own ((t.gh.foldl eT out).map .str) 0],[],[(t.gh.foldl eT out).length]):=by
 revert hO hk
 refine Ty.eP (p:=fun t=>t.Ok→(∀y∈t.gh,y∈S)→∀out,jy S out →
   (aQ AP).i 222 [.own (out.map .str) 0,.pv t.pv] [] [out.length]=some ([.own ((t.gh.foldl eT out).map .str) 0],[],[(t.gh.foldl eT out).length])) ?_ t
 intro t ih hO hk out hc
 rw [Ty.CB] at hk ⊢
 have hkb:∀y∈(if t.kind=5 then [t.name] else []),y∈S:=fun y hy=>hk y (List.mem_append_left _ hy)
 have hka:∀y∈t.args.flatMap Ty.gh,y∈S:=fun y hy=>hk y (List.mem_append_right _ hy)
 have h:=OA (S:=S) hO.sm (fun x hx out hc=>ih x hx (hO.gV x hx) (fun y hy=>hka y (by simp only [List.mem_flatMap];exact ⟨x,hx,hy⟩)) out hc) hka _ 0 rfl (by omega) _ (hc.fold hkb)
 have hl:=hc.len
 have k:=c216 hl (y:=t.name)
 have k2:=HZ (s:=out) (y:=t.name)
 unfold Sm at hl
 have hb:(out.length+1)*16≤140737488355328:=by omega
 have hh:bC 1 (out.map PV.str)=true:=by cases out<;>simp
 rw [aT (af:=g222) rfl (by simp [g222]),List.foldl_append]
 rw [g222L0e] at h
 by_cases e1:t.kind=5
 · by_cases e2:t.name∈out
   · simp [e2] at k2
     have k3:¬nN out t.name<0:=by omega
     simp [e1,eT,e2] at h
     simp [g222,e1,k,k3,g222L0e,h,eT,e2]
   · simp [e2] at k2
     simp [e1,eT,e2] at h
     simp [g222,e1,k,k2,g222L0e,h,eT,e2,hb,hh]
 · simp [e1] at h
   simp [g222,e1,g222L0e,h]
theorem c196 {S:List d4} (hS:S.length<1099511627776) {t:Ty} (hO:t.Ok) (hk:∀y∈t.gh,y∈S):(aQ AP).p 196 [t.pv]=some [.aJ ((d7 t).map .str)]:=by
 have k:=c222 hO hk [] ⟨by simp,by simp,hS⟩
 rw [aw (af:=g196) rfl rfl (by decide)]
 unfold d7
 simp at k
 simp [g196,k]
end Go.Ab.Lw
namespace Go.Ab.Lw
open Ev
structure Small (ds:List Dt):Prop where
 num:Sm ds
 par:∀d∈ds,Sm d.params
 iR:∀d∈ds,Sm d.cons
 Qo:Sm (ds.flatMap Dt.cons)
 Qb:∀d∈ds,∀c∈d.cons,Sm c.fields∧(∀x∈c.fields,x.Ok)∧∀x∈c.fields,x.Cw
theorem J7 {l:List Dt} {b:Nat} (h:∀d∈l,d.cons.length≤b):(l.flatMap Dt.cons).length≤l.length*b:=by
 induction l with
 | nil=>simp
 | cons a r ih=>
   have h1:=h a (by simp)
   have h2:=ih (fun x hx=>h x (by simp [hx]))
   simp only [List.flatMap_cons,List.length_append,List.length_cons,Nat.add_mul]
   omega
end Go.Ab.Lw
namespace Go.Ab.Lw
open Ev
def yN (a b:Ty):Ty:=⟨4,[45,62],0,0,[a,b]⟩
def pW (n:Nat):List Ty:=(List.range n).map fun i:Nat=>cQ i
theorem nR {n:Nat}:(pW n).length=n:=by simp [pW]
theorem Fv {n:Nat}:pW (n+1)=pW n++[cQ n]:=by simp [pW,List.range_succ]
def PW (d:Dt):List AV:=[.pv (vI d.pos),.pv (.str d.name),.pv (.aJ (d.params.map .str)),.pv (.aJ (d.cons.map pH.pv))]
@[simp] theorem PX (d:Dt):PW d=[.pv (vI d.pos),.pv (.str d.name),.pv (.aJ (d.params.map .str)),.pv (.aJ (d.cons.map pH.pv))]:=rfl
def Ik (d:Dt):Ty:=⟨4,d.name,0,0,pW d.params.length⟩
theorem OB {d:Dt} (hS:Sm d.params):∀(n i:Nat),d.params.length-i=n→i≤d.params.length →
   cl AP g221L0 ⟨[(1,.aG 1 0),(2,.aG 2 0),(3,.own ((pW i).map Ty.pv) 0),(4,.pv (vI i))],[(1,PW d),(2,[.pv (vI 0),.pv (.str []),.pv (vI 0),.pv (vI 0),.own [] 1])],[],[i,0]⟩ =
     some (.exit 0,⟨[(1,.aG 1 0),(2,.aG 2 0),(3,.own ((pW d.params.length).map Ty.pv) 0),(4,.pv (vI d.params.length)),(9,.pv (.bool false))],[(1,PW d),(2,[.pv (vI 0),.pv (.str []),.pv (vI 0),.pv (vI 0),.own [] 1])],[],[d.params.length,0]⟩)
 | 0,i,hn,hi=>by
   have:i=d.params.length:=by omega
   subst this
   have hl:=nR (n:=d.params.length)
   rw [g221L0e]
   simp [g221B0,hl]
 | n+1,i,hn,hi=>by
   have hi:i<d.params.length:=by omega
   unfold Sm at hS
   have hl:=nR (n:=i)
   have hl2:=nR (n:=i+1)
   have hb:(i+1)*64≤140737488355328:=by omega
   have k:=c72 (n:=i)
   have ih:=OB hS n (i+1) (by omega) (by omega)
   rw [g221L0e] at ih ⊢
   rw [Fv] at ih
   simp [cQ,hl] at ih k
   simp (disch:=omega) [-getElem?_pos,g221B0,hi,k,hl,hb,aA]
   rw [g221L0e]
   simp [ih,hl]
theorem c221 {d:Dt} (hS:Sm d.params):(aQ AP).p 221 [d.pv]=some [(Ik d).pv]:=by
 have h:=OB hS _ 0 rfl (by omega)
 have hl:=nR (n:=d.params.length)
 have k:=c62 (s:=d.name) (l:=pW d.params.length) (by unfold Sm at hS ⊢;omega)
 rw [aw (af:=g221) rfl rfl (by decide)]
 rw [g221L0e] at h
 simp [pW] at h
 simp [pW] at k
 simp [g221,g221L0e,h,k,Ik,pW]
def BK (ps:List d4) (fs:List Ty) (t:Ty):Ty:=fs.foldr (fun f t=>yN (f.lK ps) t) t
theorem Fw {ps:List d4} {fs:List Ty} {k:Nat} {x t:Ty} (h:fs[k]?=some x):BK ps (fs.take (k+1)) t=BK ps (fs.take k) (yN (x.lK ps) t):=by
 rw [List.take_add_one,h]
 simp [BK]
def pJ (ds:List Dt) (s:d4):Option Sc:=(kO ds s 0).bind fun q=>(ds[q.1]?).bind fun d=>(d.cons[q.2]?).map fun c=>⟨d.params.length,BK d.params c.fields (Ik d)⟩
theorem OC {ds:List Dt} {i:Nat} {d:Dt} (hd:ds[i]?=some d) (hp:Sm d.params) {fs:List Ty} (hS:Sm fs) (hO:∀x∈fs,x.Ok) (hC:∀x∈fs,x.Cw):∀(k:Nat),k≤fs.length→∀t:Ty,
   cl AP g193L0 ⟨[(0,.pv (.aJ (ds.map Dt.pv))),(4,.aG 4 0),(6,.pv (vI i)),(9,.aG 9 0),(10,.pv (.aJ (fs.map Ty.pv))),(11,.pv (vI ((k:Int)-1)))],
     [(4,[.pv (vI 0),.pv (vI 0),.pv (.str []),.pv (vI 0),.pv (vI 0),.own [] 0]),(9,Mh t)],[],[0]⟩ =
   some (.exit 0,⟨[(0,.pv (.aJ (ds.map Dt.pv))),(4,.aG 4 0),(6,.pv (vI i)),(9,.aG 9 0),(10,.pv (.aJ (fs.map Ty.pv))),(11,.pv (vI (-1))),(40,.pv (.bool false))],
     [(4,[.pv (vI 0),.pv (vI 0),.pv (.str []),.pv (vI 0),.pv (vI 0),.own [] 0]),(9,Mh (BK d.params (fs.take k) t))],[],[0]⟩)
 | 0,hk,t=>by
   rw [g193L0e]
   simp [g193B0,BK]
 | k+1,hk,t=>by
   obtain ⟨x,hx⟩:=bO (l:=fs) (i:=k) (by omega)
   unfold Sm at hS
   have ih:=OC hd hp (fs:=fs) (by unfold Sm;exact hS) hO hC k (by omega) (yN (x.lK d.params) t)
   have e1:((k+1:Nat):Int)-1=k:=by omega
   have q1:=c198 hp (hO x (bz hx)) (hC x (bz hx))
   have q2:=c69 (a:=x.lK d.params) (b:=t)
   rw [g193L0e,e1,Fw hx]
   simp [yN] at ih q1 q2
   simp (disch:=omega) [-getElem?_pos,g193B0,hd,hx,q1,q2,aA,ih,yN]
theorem c193 {ds:List Dt} (hS:Sm ds) (hc:∀d∈ds,Sm d.cons) (hp:∀d∈ds,Sm d.params) (hf:∀d∈ds,∀c∈d.cons,Sm c.fields∧(∀x∈c.fields,x.Ok)∧∀x∈c.fields,x.Cw) {s:d4} :
   (aQ AP).p 193 [.aJ (ds.map Dt.pv),.str s]=some (J0 (pJ ds s)):=by
 have k:=c191 hS hc (s:=s)
 rw [aw (af:=g193) rfl rfl (by decide)]
 cases e:kO ds s 0 with
 | none=>
   rw [e] at k
   simp [rF] at k
   simp [g193,k,pJ,e,J0,lA]
 | some q=>
   rw [e] at k
   obtain ⟨_,d,c,hd,hcc,_⟩:=vQ e
   simp only [Nat.sub_zero] at hd
   obtain ⟨f1,f2,f3⟩:=hf d (bz hd) c (bz hcc)
   have k2:=c221 (hp d (bz hd))
   have h:=OC hd (hp d (bz hd)) f1 f2 f3 c.fields.length (Nat.le_refl _) (Ik d)
   rw [List.take_length] at h
   rw [g193L0e] at h
   unfold Sm at f1
   simp [rF] at k
   simp at k2 h
   simp (disch:=omega) [-getElem?_pos,g193,k,hd,hcc,k2,pJ,e,J0,aA,g193L0e,h]
end Go.Ab.Lw
namespace Go.Ab.Lw
open Ev
def Nf:List d4→List d4→Bool
 | _,[]=>false
 | pre,s::r=>decide (s∈pre) || Nf (pre++[s]) r
def Qp (a b:List (PV×PV)):Sh:=[some [.fo a],some [.fo b]]
@[simp] theorem PY (a b:List (PV×PV)):Qp a b=[some [.fo a],some [.fo b]]:=rfl
def PZ (c:pH):List AV:=[.pv (vI c.pos),.pv (.str c.name),.pv (.aJ (c.fields.map Ty.pv))]
@[simp] theorem Pr (c:pH):PZ c=[.pv (vI c.pos),.pv (.str c.name),.pv (.aJ (c.fields.map Ty.pv))]:=rfl
end Go.Ab.Lw
namespace Go.Ab.Lw
open Ev
theorem BL {l:List d4} {t:Ty} (h:t.Ok):(t.lK l).Ok:=by
 revert h
 refine Ty.eP (p:=fun t=>t.Ok→(t.lK l).Ok) ?_ t
 intro t ih h
 rw [Ty.vT]
 split
 · exact cZ rfl
 · refine ⟨by have:=h.sm;unfold Sm at this ⊢;simpa using this,?_⟩
   intro x hx
   simp only [List.mem_map] at hx
   obtain ⟨y,hy,rfl⟩:=hx
   exact ih y hy (h.gV y hy)
end Go.Ab.Lw
namespace Go.Ab.Lw
open Ev
def fieldsOf (ds:List Dt) (s:d4) (as:List Ty):Option (List Ty):=(kO ds s 0).bind fun q=>(ds[q.1]?).bind fun d=>(d.cons[q.2]?).bind fun c=>if as.length=d.params.length then some (c.fields.map fun f=>(f.lK d.params).l6 as) else none
def OD (o:Option (List Ty)):List PV:=[.aJ ((o.getD []).map Ty.pv),.bool o.isSome]
theorem OE {ds:List Dt} {i:Nat} {d:Dt} (hd:ds[i]?=some d) (hp:Sm d.params) {as:List Ty} (ha:Sm as) {fs:List Ty} (hS:Sm fs) (hO:∀x∈fs,x.Ok) (hC:∀x∈fs,x.Cw):∀(n j:Nat),fs.length-j=n→j≤fs.length→∀acc:List Ty,acc=(fs.take j).map (fun f=>(f.lK d.params).l6 as) →
   cl AP g207L0 ⟨[(0,.pv (.aJ (ds.map Dt.pv))),(2,.pv (.aJ (as.map Ty.pv))),(8,.pv (vI i)),(11,.own (acc.map Ty.pv) 0),(12,.pv (.aJ (fs.map Ty.pv))),(13,.pv (vI j))],[],[],[acc.length]⟩ =
     some (.exit 0,⟨[(0,.pv (.aJ (ds.map Dt.pv))),(2,.pv (.aJ (as.map Ty.pv))),(8,.pv (vI i)),(11,.own ((fs.map (fun f=>(f.lK d.params).l6 as)).map Ty.pv) 0),(12,.pv (.aJ (fs.map Ty.pv))),(13,.pv (vI fs.length)),(46,.pv (.bool false))],[],[],[fs.length]⟩)
 | 0,j,hn,hj,acc,hacc=>by
   have:j=fs.length:=by omega
   subst this
   subst hacc
   rw [g207L0e]
   simp [g207B0]
 | n+1,j,hn,hj,acc,hacc=>by
   have hj:j<fs.length:=by omega
   obtain ⟨x,hx⟩:=bO hj
   have q1:=c198 hp (hO x (bz hx)) (hC x (bz hx))
   have q2:=c48 ha (t:=x.lK d.params) (BL (hO x (bz hx)))
   unfold Sm at hS
   have hb:(acc.length+1)*64≤140737488355328:=by subst hacc;simp;omega
   have ih:=OE hd hp ha (fs:=fs) (by unfold Sm;exact hS) hO hC n (j+1) (by omega) (by omega) (acc++[(x.lK d.params).l6 as]) (by rw [List.take_add_one,hx,hacc];simp)
   generalize x.lK d.params=u at q1 q2 ih
   generalize u.l6 as=v at q2 ih
   rw [g207L0e] at ih ⊢
   simp at ih q1 q2
   simp (disch:=omega) [-getElem?_pos,g207B0,hd,hx,hj,q1,q2,hb,aA]
   rw [g207L0e]
   simp [ih]
theorem c207 {ds:List Dt} (h:Small ds) {as:List Ty} (ha:Sm as) {s:d4}:(aQ AP).p 207 [.aJ (ds.map Dt.pv),.str s,.aJ (as.map Ty.pv)]=some (OD (fieldsOf ds s as)):=by
 have k:=c191 h.num h.iR (s:=s)
 rw [aw (af:=g207) rfl rfl (by decide)]
 cases e:kO ds s 0 with
 | none=>
   rw [e] at k
   simp [rF] at k
   simp [g207,k,fieldsOf,e,OD]
 | some q=>
   rw [e] at k
   obtain ⟨_,d,c,hd,hc,_⟩:=vQ e
   simp only [Nat.sub_zero] at hd
   obtain ⟨f1,f2,f3⟩:=h.Qb d (bz hd) c (bz hc)
   have hl:=OE hd (h.par d (bz hd)) ha f1 f2 f3 _ 0 rfl (by omega) [] rfl
   rw [g207L0e] at hl
   simp [rF] at k
   by_cases e2:as.length=d.params.length
   · simp at hl
     simp (disch:=omega) [-getElem?_pos,g207,k,hd,hc,fieldsOf,e,OD,e2,g207L0e,hl]
   · have e3:¬(as.length:Int)=d.params.length:=by omega
     simp (disch:=omega) [-getElem?_pos,g207,k,hd,hc,fieldsOf,e,OD,e2,e3]
end Go.Ab.Lw
namespace Go.Ab.Lw
open Ev
theorem yP {S:List Ty} (hf:S.length<1099511627776) {l:List Ty} (hG:∀t∈l,Good S t):Sm (vars l):=by
 have c0:kN (S.map Ty.id) []:=rW (by simpa using hf)
 refine (c0.fold (l:=l.flatMap Ty.nodes) ?_).len
 intro x hx hk
 simp only [List.mem_flatMap] at hx
 obtain ⟨t,ht,hx⟩:=hx
 exact List.mem_map_of_mem ((hG t ht).sub x (uc (hG t ht).wf x hx hk))
end Go.Ab.Lw
namespace Go.Ab.Lw
open Ev
mutual
def Ty.jE (k:Int):Ty→Bool
 | ⟨q,_,_,_,as⟩=>decide (q=k) || Ty.yQ k as
def Ty.yQ (k:Int):List Ty→Bool
 | []=>false
 | a::r=>a.jE k || Ty.yQ k r
end
theorem Ty.uh (k:Int):∀l:List Ty,Ty.yQ k l=l.any (Ty.jE k)
 | []=>by simp [Ty.yQ]
 | a::r=>by simp [Ty.yQ,Ty.uh k r]
theorem Ty.CC (k:Int) (t:Ty):t.jE k=(decide (t.kind=k) || t.args.any (Ty.jE k)):=by
 cases t;simp only [Ty.jE,Ty.uh]
theorem OF {t:Ty} {k:Int} (hS:Sm t.args) (h:∀x∈t.args,(aQ AP).p 351 [x.pv,vI k]=some [.bool (x.jE k)]):∀(n i:Nat),t.args.length-i=n→i≤t.args.length →
   cl AP g351L0 ⟨[(1,.pv (vI k)),(2,.aG 2 0),(5,.pv (vI i))],[(2,[.pv (vI t.kind),.pv (.str t.name),.pv (vI t.id),.pv (vI t.home),.pv (.aJ (t.args.map Ty.pv))])],[],[]⟩ =
     if (t.args.drop i).any (Ty.jE k)=true then some (.ret,⟨[(4,.pv (.bool true))],[],[],[]⟩)
     else some (.exit 0,⟨[(1,.pv (vI k)),(2,.aG 2 0),(5,.pv (vI t.args.length)),(14,.pv (.bool false))],[(2,[.pv (vI t.kind),.pv (.str t.name),.pv (vI t.id),.pv (vI t.home),.pv (.aJ (t.args.map Ty.pv))])],[],[]⟩)
 | 0,i,hn,hi=>by
   have:i=t.args.length:=by omega
   subst this
   rw [g351L0e]
   simp [g351B0]
 | n+1,i,hn,hi=>by
   have hi:i<t.args.length:=by omega
   obtain ⟨x,hx⟩:=bO hi
   unfold Sm at hS
   have c:=h x (bz hx)
   have ih:=OF hS h n (i+1) (by omega) (by omega)
   rw [g351L0e] at ih ⊢
   rw [cY hx,List.any_cons]
   cases e:x.jE k with
   | true=>
     rw [e] at c
     simp at c
     simp (disch:=omega) [-getElem?_pos,g351B0,hx,hi,c]
   | false=>
     rw [e] at c
     simp at c
     rw [Bool.false_or,←ih]
     simp (disch:=omega) [-getElem?_pos,g351B0,hx,hi,c,aA]
     rw [g351L0e]
     simp [g351B0]
theorem c351 {t:Ty} {k:Int} (hO:t.Ok):(aQ AP).p 351 [t.pv,vI k]=some [.bool (t.jE k)]:=by
 revert hO
 refine Ty.eP (p:=fun t=>t.Ok→(aQ AP).p 351 [t.pv,vI k]=some [.bool (t.jE k)]) ?_ t
 intro t ih hO
 have h:=OF (k:=k) hO.sm (fun x hx=>ih x hx (hO.gV x hx)) _ 0 rfl (by omega)
 rw [aw (af:=g351) rfl rfl (by decide),Ty.CC]
 rw [g351L0e] at h
 by_cases e:t.kind=k
 · simp [g351,e]
 · cases e':t.args.any (Ty.jE k) with
   | true=>simp only [List.drop_zero,e'] at h;simp at h;simp [g351,e,g351L0e,h]
   | false=>simp only [List.drop_zero,e'] at h;simp at h;simp [g351,e,g351L0e,h]
end Go.Ab.Lw
namespace Go.Ab.Lw
open Ev
def vr (x:Ty):List Int:=if x.kind=1 then [x.id] else []
end Go.Ab.Lw
namespace Go.Ab.Lw
open Ev
def ky (h:Int):Nat→List Ty
 | 0=>[]
 | n+1=>ky h n++[kq h n]
theorem lL (h:Int):∀n,(ky h n).length=n
 | 0=>rfl
 | n+1=>by simp [ky,lL h n]
theorem OG {T:Ty} {h:Int} {nm:List d4} {q:List AV} (hq7:q=T.cl) (hS:nm.length<1000000000):∀(n i:Nat),nm.length-i=n→i≤nm.length →
   cl AP g327L0 ⟨[(1,.pv (vI h)),(4,.aG 4 0),(5,.aG 5 0),(6,.pv (.aJ (nm.map .str))),(7,.aG 7 0),(8,.own ((ky h i).map Ty.pv) 0),(9,.pv (vI i))],
     [(4,[.pv (vI 0),.pv (.str []),.pv (vI 0),.pv (vI 0),.own [] 1]),(5,[.pv (vI 0),.pv (vI 0),.pv (.str []),.pv (vI 0),.pv (vI 0),.own [] 2]),(7,q)],[],[i,0,0]⟩ =
     some (.exit 0,⟨[(1,.pv (vI h)),(4,.aG 4 0),(5,.aG 5 0),(6,.pv (.aJ (nm.map .str))),(7,.aG 7 0),(8,.own ((ky h nm.length).map Ty.pv) 0),(9,.pv (vI nm.length)),(18,.pv (.bool false))],
     [(4,[.pv (vI 0),.pv (.str []),.pv (vI 0),.pv (vI 0),.own [] 1]),(5,[.pv (vI 0),.pv (vI 0),.pv (.str []),.pv (vI 0),.pv (vI 0),.own [] 2]),(7,q)],[],[nm.length,0,0]⟩)
 | 0,i,hn,hi=>by
   have:i=nm.length:=by omega
   subst this
   have hl:=lL h nm.length
   subst hq7
   generalize ky h nm.length=R at *
   rw [g327L0e]
   simp [g327B0,hl,Ty.cl]
 | n+1,i,hn,hi=>by
   have hi:i<nm.length:=by omega
   have ih:=OG (h:=h) hq7 hS n (i+1) (by omega) (by omega)
   have k:=c71 (n:=h) (m:=i)
   have hl:=lL h i
   have hb:(i+1)*64≤140737488355328:=by omega
   have hr:(ky h (i+1)).map Ty.pv=(ky h i).map Ty.pv++[(kq h i).pv]:=by simp [ky]
   rw [hr] at ih
   subst hq7
   generalize ky h i=R at *
   rw [g327L0e] at ih ⊢
   simp [hl,Ty.cl,kq] at ih k
   simp (disch:=omega) [-getElem?_pos,g327B0,hi,hl,k,hb,Ty.cl,aA]
   rw [g327L0e]
   simp [hl,ih]
theorem c327 {S:List d4} (hf:S.length<1000000000) {t:Ty} (hO:t.Ok) (hC:t.Cw) (hk:∀y∈t.gh,y∈S) {h:Int}:(aQ AP).p 327 [t.pv,vI h]=some [((t.lK (d7 t)).l6 (ky h (d7 t).length)).pv,(As.mk (d7 t).length (t.lK (d7 t))).pv]:=by
 have hcn:=jy.fold (S:=S) (l:=t.gh) (out:=[]) ⟨by simp,by simp,by omega⟩ hk
 have hnl:(d7 t).length<1000000000:=by
   have:=gD hcn.nodup hcn.sub
   unfold d7
   omega
 have k1:=c196 (S:=S) (by omega) hO hk
 have k2:=c198 (l:=d7 t) (by unfold Sm;omega) hO hC
 have hbO:=BL (l:=d7 t) hO
 have k3:=c48 (s:=ky h (d7 t).length) (by unfold Sm;rw [lL];omega) hbO
 generalize d7 t=nm at *
 generalize t.lK nm=T at *
 have h4:=OG (h:=h) (T:=T) (nm:=nm) rfl hnl _ 0 rfl (by omega)
 generalize ky h nm.length=R at *
 generalize T.l6 R=U at *
 rw [g327L0e] at h4
 simp [ky,Ty.cl] at h4
 simp at k1 k2 k3
 rw [aw (af:=g327) rfl rfl (by decide)]
 simp [g327,k1,k2,g327L0e,h4,k3]
end Go.Ab.Lw
namespace Go.Ab.Lw
open Ev
theorem c325 {S:List d4} (hf:S.length<1000000000) {t:Ty} (hO:t.Ok) (hC:t.Cw) (hk:∀y∈t.gh,y∈S):(aQ AP).p 325 [t.pv]=some [((t.lK (d7 t)).l6 (ky 98 (d7 t).length)).pv]:=by
 have k:=c327 hf hO hC hk (h:=98)
 generalize (t.lK (d7 t)).l6 (ky 98 (d7 t).length)=U at *
 simp at k
 rw [aw (af:=g325) rfl rfl (by decide)]
 simp [g325,k]
theorem OH {vs:List Int} (hv:Sm vs) {t:Ty}:∀(n i:Nat),vs.length-i=n→i≤vs.length→∀acc:List As,acc.length≤i →
   cl AP g363L0 ⟨[(1,.aG 1 0),(2,.aG 2 0),(3,.pv (.aJ (vs.map vI))),(4,.own (acc.map As.pv) 0),(5,.pv (vI i))],[(1,tC t),(2,zC 1)],[],[acc.length,0]⟩ =
     some (.exit 0,⟨[(1,.aG 1 0),(2,.aG 2 0),(3,.pv (.aJ (vs.map vI))),(4,.own ((acc++(vs.drop i).map fun v=>As.mk v bA).map As.pv) 0),(5,.pv (vI vs.length)),(12,.pv (.bool false))],[(1,tC t),(2,zC 1)],[],[(acc++(vs.drop i).map fun v=>(⟨v,bA⟩:As)).length,0]⟩)
 | 0,i,hn,hi,acc,ha=>by
   have:i=vs.length:=by omega
   subst this
   rw [g363L0e]
   simp [g363B0,tC,zC]
 | n+1,i,hn,hi,acc,ha=>by
   have hi:i<vs.length:=by omega
   obtain ⟨x,hx⟩:=bO hi
   unfold Sm at hv
   have hb:(acc.length+1)*72≤140737488355328:=by omega
   have k:=c34
   have ih:=OH (t:=t) hv n (i+1) (by omega) (by omega) (acc++[⟨x,bA⟩]) (by simp;omega)
   rw [g363L0e] at ih ⊢
   rw [cY hx]
   simp [tC,zC,bA] at ih k
   simp (disch:=omega) [-getElem?_pos,g363B0,tC,zC,bA,hx,hi,k,aA,hb]
   rw [g363L0e]
   simp [ih]
theorem c363 {S:List Ty} (hf:S.length<1099511627776) (hSo:∀x∈S,x.Ok) {t:Ty} (hG:Good S t):(aQ AP).p 363 [t.pv]=some [(t.sub ((vars [t]).map fun v=>As.mk v bA)).pv]:=by
 have k1:=BF hf hSo (l:=[t]) (by simp [Sm]) (by simpa using hG)
 have hv:=yP hf (l:=[t]) (by simpa using hG)
 have h:=OH (t:=t) hv _ 0 rfl (by omega) [] (by simp)
 have k2:=c46 (s:=(vars [t]).map fun v=>As.mk v bA) (by unfold Sm at *;simpa using hv) hG.ok
 generalize vars [t]=vs at *
 rw [g363L0e] at h
 simp [tC,zC] at h
 simp at k1 k2
 rw [aw (af:=g363) rfl rfl (by decide)]
 simp [g363,k1,k2,g363L0e,h]
end Go.Ab.Lw
namespace Go.Ab.Lw
open Ev
def gz (k:Nat):List AV:=[.pv (vI 0),.pv (vI 0),.pv (.str []),.pv (vI 0),.pv (vI 0),.own [] k]
end Go.Ab.Lw
namespace Go.Ab.Lw
open Ev
theorem OI {l:List Ex} (hl:l.length≤2000) {k:Int} (IH:∀x∈l,∃b,(aQ AP).p 307 [x.pv,vI k]=some [.bool b]):∀(n i:Nat),l.length-i=n→i≤l.length →
   cl AP g307L0 ⟨[(1,.pv (vI k)),(5,.pv (.aJ (l.map Ex.pv))),(6,.pv (vI i))],[],[],[]⟩=some (.ret,⟨[(4,.pv (.bool true))],[],[],[]⟩) ∨
   cl AP g307L0 ⟨[(1,.pv (vI k)),(5,.pv (.aJ (l.map Ex.pv))),(6,.pv (vI i))],[],[],[]⟩=some (.exit 0,⟨[(1,.pv (vI k)),(5,.pv (.aJ (l.map Ex.pv))),(6,.pv (vI l.length)),(16,.pv (.bool false))],[],[],[]⟩)
 | 0,i,hn,hi=>by
   have:i=l.length:=by omega
   subst this
   refine .inr ?_
   rw [g307L0e]
   simp [g307B0]
 | n+1,i,hn,hi=>by
   have hi:i<l.length:=by omega
   obtain ⟨x,hx⟩:=bO hi
   obtain ⟨b,c⟩:=IH x (bz hx)
   have he:=H0.len x
   have ho:=H0.of x
   cases b with
   | true=>
     refine .inl ?_
     simp at c he ho
     rw [g307L0e]
     simp (disch:=omega) [-getElem?_pos,g307B0,hx,hi,c,he,ho]
   | false=>
     have ih:=OI hl IH n (i+1) (by omega) (by omega)
     have e1:cl AP g307L0 ⟨[(1,.pv (vI k)),(5,.pv (.aJ (l.map Ex.pv))),(6,.pv (vI i))],[],[],[]⟩=cl AP g307L0 ⟨[(1,.pv (vI k)),(5,.pv (.aJ (l.map Ex.pv))),(6,.pv (vI (i+1:Nat)))],[],[],[]⟩:=by
       conv=>lhs;rw [g307L0e]
       simp at c he ho
       simp (disch:=omega) [-getElem?_pos,g307B0,hx,hi,c,aA,he,ho]
     rw [e1]
     exact ih
theorem c307 {e:Ex} (h:e.Ok) (k:Int):∃b,(aQ AP).p 307 [e.pv,vI k]=some [.bool b]:=by
 induction h with
 | @mk e hk ha hv ht hc ih=>
   have k1:=c145 (Ex.Ok.mk hk ha hv ht hc)
   have hl:e.ch.length≤2000:=by rw [Ex.jD];omega
   have L:=OI hl ih _ 0 rfl (by omega)
   rw [g307L0e] at L
   simp at L k1
   by_cases q:e.kind=k
   · refine ⟨true,?_⟩
     rw [aw (af:=g307) rfl rfl (by decide)]
     simp [g307,q]
   · rcases L with L | L
     · refine ⟨true,?_⟩
       rw [aw (af:=g307) rfl rfl (by decide)]
       simp [g307,q,k1,g307L0e,L]
     · refine ⟨false,?_⟩
       rw [aw (af:=g307) rfl rfl (by decide)]
       simp [g307,q,k1,g307L0e,L]
end Go.Ab.Lw
namespace Go.Ab.Lw
open Ev
def gS (i:Nat):List Int→List As
 | []=>[]
 | v::r=>⟨v,ct i⟩::gS (i+1) r
theorem Il {i:Nat} {l:List Int}:(gS i l).length=l.length:=by
 induction l generalizing i with
 | nil=>rfl
 | cons a r ih=>simp [gS,ih]
theorem K8 {l:List Ty} {vs:List Int} (hv:Sm vs):∀(n i:Nat),vs.length-i=n→i≤vs.length→∀acc:List As,acc.length≤i →
   cl AP g395L0 ⟨[(0,.pv (.aJ (l.map Ty.pv))),(3,.pv (.aJ (vs.map vI))),(4,.own (acc.map As.pv) 0),(5,.pv (vI i))],[],[],[acc.length]⟩ =
     some (.exit 0,⟨[(0,.pv (.aJ (l.map Ty.pv))),(3,.pv (.aJ (vs.map vI))),(4,.own ((acc++gS i (vs.drop i)).map As.pv) 0),(5,.pv (vI vs.length)),(13,.pv (.bool false))],[],[],[(acc++gS i (vs.drop i)).length]⟩)
 | 0,i,hn,hi,acc,ha=>by
   have:i=vs.length:=by omega
   subst this
   rw [g395L0e]
   simp [g395B0,gS]
 | n+1,i,hn,hi,acc,ha=>by
   have hi:i<vs.length:=by omega
   obtain ⟨x,hx⟩:=bO hi
   unfold Sm at hv
   have hb:(acc.length+1)*72≤140737488355328:=by omega
   have k:=c63 (n:=i)
   have ih:=K8 (l:=l) hv n (i+1) (by omega) (by omega) (acc++[As.mk x (ct i)]) (by simp;omega)
   rw [g395L0e] at ih ⊢
   rw [cY hx]
   simp [ct] at ih k
   simp (disch:=omega) [-getElem?_pos,g395B0,hx,hi,k,aA,hb,gS,ct]
   rw [g395L0e]
   simp [ih]
theorem K9 {l:List Ty} (hl:Sm l) (hO:∀t∈l,t.Ok) {s:List As} (hs:Sm s):∀(n i:Nat),l.length-i=n→i≤l.length→∀acc:List Ty,acc.length≤i →
   cl AP g395L1 ⟨[(0,.pv (.aJ (l.map Ty.pv))),(4,.own (s.map As.pv) 0),(6,.own (acc.map Ty.pv) 1),(7,.pv (vI i))],[],[],[s.length,acc.length]⟩ =
     some (.exit 2,⟨[(0,.pv (.aJ (l.map Ty.pv))),(4,.own (s.map As.pv) 0),(6,.own ((acc++(l.drop i).map (Ty.sub s)).map Ty.pv) 1),(7,.pv (vI l.length)),(29,.pv (.bool false))],[],[],[s.length,(acc++(l.drop i).map (Ty.sub s)).length]⟩)
 | 0,i,hn,hi,acc,ha=>by
   have:i=l.length:=by omega
   subst this
   rw [g395L1e]
   simp [g395B1]
 | n+1,i,hn,hi,acc,ha=>by
   have hi:i<l.length:=by omega
   obtain ⟨x,hx⟩:=bO hi
   have hl':=hl
   unfold Sm at hl
   have hb:(acc.length+1)*64≤140737488355328:=by omega
   have k:=c46 hs (hO x (bz hx))
   have ih:=K9 hl' hO hs n (i+1) (by omega) (by omega) (acc++[x.sub s]) (by simp;omega)
   rw [g395L1e] at ih ⊢
   rw [cY hx]
   simp at ih k
   simp (disch:=omega) [-getElem?_pos,g395B1,hx,hi,k,aA,hb]
   rw [g395L1e]
   simp [ih]
theorem c395i {S:List Ty} (hf:S.length<1099511627776) (hSo:∀x∈S,x.Ok) {l:List Ty} (hl:Sm l) (hG:∀t∈l,Good S t):(aQ AP).i 395 [.pv (.aJ (l.map Ty.pv))] [] []=some ([.own ((l.map (Ty.sub (gS 0 (vars l)))).map Ty.pv) 0],[],[l.length]):=by
 have k1:=BF hf hSo hl hG
 have hv:=yP hf hG
 have h1:=K8 (l:=l) hv _ 0 rfl (by omega) [] (by simp)
 have hs:Sm (gS 0 (vars l)):=by unfold Sm at *;rw [Il];exact hv
 have h2:=K9 hl (fun t ht=>(hG t ht).ok) hs _ 0 rfl (by omega) [] (by simp)
 generalize vars l=vs at *
 rw [g395L0e] at h1
 rw [g395L1e] at h2
 simp at h1 h2 k1
 generalize gS 0 vs=s at *
 rw [aT (af:=g395) rfl (by simp [g395])]
 simp [g395,k1,g395L0e,h1,g395L1e,h2]
end Go.Ab.Lw
namespace Go.Ab.Lw
open Ev
theorem c377 {s:List As} (hs:Sm s) {c:Sc} (hO:c.ty.Ok):(aQ AP).p 377 [.aJ (s.map As.pv),c.pv]=some [(As.mk c.id (c.ty.sub s)).pv]:=by
 have k:=c22 hs hO
 generalize c.ty.sub s=u at *
 simp at k
 rw [aw (af:=g377) rfl rfl (by decide)]
 simp [g377,k]
theorem K_ {l:List En} (hl:Sm l) {g:Ty} {b:PV}:∀(n i:Nat),l.length-i=n→i≤l.length→∀acc:List Ty,acc.length≤i →
   cl AP g376L0 ⟨[(2,.pv b),(3,.aG 3 0),(6,.aG 6 0),(8,.own (acc.map Ty.pv) 0),(9,.pv (.aJ (l.map En.pv))),(10,.pv (vI i))],[(3,tC g),(6,[.own [] 1,.own [] 2])],[],[acc.length,0,0]⟩ =
     some (.exit 0,⟨[(2,.pv b),(3,.aG 3 0),(6,.aG 6 0),(8,.own ((acc++(l.drop i).map fun x=>x.sc.ty).map Ty.pv) 0),(9,.pv (.aJ (l.map En.pv))),(10,.pv (vI l.length)),(21,.pv (.bool false))],[(3,tC g),(6,[.own [] 1,.own [] 2])],[],[(acc++(l.drop i).map fun x=>x.sc.ty).length,0,0]⟩)
 | 0,i,hn,hi,acc,ha=>by
   have:i=l.length:=by omega
   subst this
   rw [g376L0e]
   simp [g376B0,tC]
 | n+1,i,hn,hi,acc,ha=>by
   have hi:i<l.length:=by omega
   obtain ⟨x,hx⟩:=bO hi
   unfold Sm at hl
   have hb:(acc.length+1)*64≤140737488355328:=by omega
   have ih:=K_ (g:=g) (b:=b) hl n (i+1) (by omega) (by omega) (acc++[x.sc.ty]) (by simp;omega)
   rw [g376L0e] at ih ⊢
   rw [cY hx]
   simp [tC] at ih
   simp (disch:=omega) [-getElem?_pos,g376B0,tC,hx,hi,aA,hb]
   rw [g376L0e]
   simp [ih]
end Go.Ab.Lw
namespace Go.Ab.Lw
open Ev
def s8:Nat→d5
 | 0=>⟨[],[]⟩
 | i+1=>dr (s8 i) 1000000 false
theorem Im:∀i,ub (s8 i).sl=i
 | 0=>rfl
 | i+1=>by
   have:=Im i
   simp only [ub] at this
   simp [s8,dr,ub,List.countP_append,this]
theorem vU:∀i,Inv i (i*i+4*i) (eG i) (s8 i)
 | 0=>⟨rfl,by simp [s8,ub],by simp [s8],by simp [s8],⟨fun _=>0,by rintro i v ⟨k,x,_,h,_⟩;simp [s8] at h⟩,by simp [s8]⟩
 | i+1=>by
   have I:=vU i
   refine ue I 1000000 false ?_
   rw [Im]
   have:(i+1)*(i+1)=i*i+2*i+1:=by rw [Nat.add_mul,Nat.mul_add];omega
   omega
theorem La {vs:List Int} (hv:vs.length≤5000):∀(n i:Nat),vs.length-i=n→i≤vs.length→∀acc:List As,acc.length≤i →
   cl AP g376L1 ⟨[(2,.pv (.aJ [])),(6,.aG 6 0),(11,.pv (.aJ (vs.map vI))),(12,.aG 12 0),(13,.own (acc.map As.pv) 0),(14,.pv (vI i))],[(6,[.own [] 1,.own [] 2]),(12,sC (s8 i))],[],[acc.length,0,0]⟩ =
     some (.exit 2,⟨[(2,.pv (.aJ [])),(6,.aG 6 0),(11,.pv (.aJ (vs.map vI))),(12,.aG 12 0),(13,.own ((acc++gS i (vs.drop i)).map As.pv) 0),(14,.pv (vI vs.length)),(42,.pv (.bool false))],[(6,[.own [] 1,.own [] 2]),(12,sC (s8 vs.length))],[],[(acc++gS i (vs.drop i)).length,0,0]⟩)
 | 0,i,hn,hi,acc,ha=>by
   have:i=vs.length:=by omega
   subst this
   rw [g376L1e]
   simp [g376B1,sC,gS]
 | n+1,i,hn,hi,acc,ha=>by
   have hi:i<vs.length:=by omega
   obtain ⟨x,hx⟩:=bO hi
   have hb:(acc.length+1)*72≤140737488355328:=by omega
   have k0:=c95 (s:=[]) (by simp [Sm]) (y:=x)
   have I:=vU i
   have hq:i*i≤5000*5000:=Nat.mul_le_mul (by omega) (by omega)
   have k:=c381 I.IL (by omega) (by omega) 1000000 false
   rw [I.len] at k
   have ih:=La hv n (i+1) (by omega) (by omega) (acc++[As.mk x (ct i)]) (by simp;omega)
   simp only [s8] at ih
   generalize dr (s8 i) 1000000 false=s1 at *
   generalize s8 i=s0 at *
   rw [g376L1e] at ih ⊢
   rw [cY hx]
   simp [ct] at k
   simp [sC,ct] at ih
   simp at k0
   simp (disch:=omega) [-getElem?_pos,g376B1,sC,hx,hi,k,k0,aA,hb,gS,ct]
   rw [g376L1e]
   simp [ih]
end Go.Ab.Lw
namespace Go.Ab.Lw
open Ev
theorem c376 {S:List Ty} (hf:S.length≤5000) (hSo:∀x∈S,x.Ok) {g:Ty} (hg:Good S g) {l:List En} (hl:Sm l) (hl2:l.length<1000000) (hG:∀x∈l,Good S x.sc.ty):∃vs:List Int,vs=vars (g::(dJ l).map fun x=>x.sc.ty)∧vs.length≤5000 ∧
   (aQ AP).p 376 [g.pv,.aJ (l.map En.pv),.aJ []]=some [(s8 vs.length).pv,.aJ ((gS 0 vs).map As.pv)]:=by
 have hsl:=rY l
 have k1:=c201 hl
 have hG2:∀t∈(g::(dJ l).map fun x=>x.sc.ty),Good S t:=by
   intro t ht
   simp only [List.mem_cons,List.mem_map] at ht
   rcases ht with rfl | ⟨x,hx,rfl⟩
   · exact hg
   · exact hG x (lD l x hx)
 have hs:Sm (dJ l):=by unfold Sm at *;omega
 have h1:=K_ hs (g:=g) (b:=.aJ []) _ 0 rfl (by omega) [] (by simp)
 have k2:=BF (by omega) hSo (l:=g::(dJ l).map fun x=>x.sc.ty) (by unfold Sm at *;simp;omega) hG2
 have hv:(vars (g::(dJ l).map fun x=>x.sc.ty)).length≤5000:=by
   have c0:kN (S.map Ty.id) []:=rW (by simp;omega)
   have c1:=c0.fold (l:=(g::(dJ l).map fun x=>x.sc.ty).flatMap Ty.nodes) (by
     intro x hx hk
     simp only [List.mem_flatMap] at hx
     obtain ⟨t,ht,hx⟩:=hx
     exact List.mem_map_of_mem ((hG2 t ht).sub x (uc (hG2 t ht).wf x hx hk)))
   have:=gD c1.nodup c1.sub
   rw [List.length_map] at this
   unfold vars
   omega
 refine ⟨_,rfl,hv,?_⟩
 generalize vars (g::(dJ l).map fun x=>x.sc.ty)=vs at *
 have h2:=La hv _ 0 rfl (by omega) [] (by simp)
 have k3:=c388
 have hb:(1+(dJ l).length)*64≤140737488355328:=by omega
 rw [g376L0e] at h1
 rw [g376L1e] at h2
 generalize s8 vs.length=s2 at *
 simp [tC] at h1
 simp [s8,sC] at h2
 have hh:=Cl.head ((dJ l).map fun x=>x.sc.ty)
 generalize dJ l=E at *
 simp at k1 k2 k3 hh
 rw [aw (af:=g376) rfl rfl (by decide)]
 by_cases hE:E=[]
 · subst hE
   simp at h1 k1 k2
   simp (disch:=omega) [g376,k1,g376L0e,h1,hb,hh,k2,k3,g376L1e,h2]
 · simp (disch:=omega) [g376,k1,g376L0e,h1,hb,hh,hE,k2,k3,g376L1e,h2]
end Go.Ab.Lw
namespace Go.Ab.Lw
open Ev
def nT (s:d5):Nat→d5
 | 0=>s
 | i+1=>dr (nT s i) 1000000 false
theorem Lb {s:List Sl}:ub s≤s.length:=List.countP_le_length
theorem l_ {n M:Nat} {s:d5} (I:Inv n M (eG n) s):∀i,Inv (n+i) (M+i*(2*(n+i)+4)) (eG (n+i)) (nT s i)
 | 0=>by simpa [nT] using I
 | i+1=>by
   have J:=l_ I i
   have hu:ub (nT s i).sl≤n+i:=by have:=Lb (s:=(nT s i).sl);rw [J.len] at this;exact this
   refine ue J 1000000 false ?_
   have:(i+1)*(2*(n+(i+1))+4)=i*(2*(n+i)+4)+i*2+(2*(n+(i+1))+4):=by
     rw [Nat.add_mul,Nat.one_mul,show 2*(n+(i+1))+4=(2*(n+i)+4)+2 by omega,Nat.mul_add]
   omega
def yR (c:Sc):List AV:=[.pv (vI c.id),.pv (vI c.ty.kind),.pv (.str c.ty.name),.pv (vI c.ty.id),.pv (vI c.ty.home),.pv (.aJ (c.ty.args.map Ty.pv))]
theorem Lc {n M:Nat} {s:d5} (I:Inv n M (eG n) s) {c:Sc} {K:Nat} (hc:c.id=K) (hN:n+K≤10000) (hM:M≤1000000) {g:Ty} {p3:PV} {p4:PV}:∀(k i:Nat),K-i=k→i≤K→∀acc:List Ty,acc.length=i →
   cl AP g389L0 ⟨[(3,.pv p3),(4,.pv p4),(5,.aG 5 0),(6,.aG 6 0),(7,.aG 7 0),(13,.own (acc.map Ty.pv) 0),(14,.pv (vI i))],[(5,sC (nT s i)),(6,yR c),(7,tC g)],[],[acc.length]⟩ =
     some (.exit 0,⟨[(3,.pv p3),(4,.pv p4),(5,.aG 5 0),(6,.aG 6 0),(7,.aG 7 0),(13,.own ((acc++(List.range' i (K-i)).map fun j=>ct (n+j:Nat)).map Ty.pv) 0),(14,.pv (vI K)),(39,.pv (.bool false))],[(5,sC (nT s K)),(6,yR c),(7,tC g)],[],[K]⟩)
 | 0,i,hk,hi,acc,ha=>by
   have:i=K:=by omega
   subst this
   rw [g389L0e]
   simp [g389B0,sC,yR,tC,hc,ha]
 | k+1,i,hk,hi,acc,ha=>by
   have hi:i<K:=by omega
   have J:=l_ I i
   have hq:i*(2*(n+i)+4)≤10000*20004:=Nat.mul_le_mul (by omega) (by omega)
   have c1:=c381 J.IL (by omega) (by omega) 1000000 false
   rw [J.len] at c1
   have ih:=Lc I hc hN hM (g:=g) (p3:=p3) (p4:=p4) k (i+1) (by omega) (by omega) (acc++[ct (n+i:Nat)]) (by simp;omega)
   have hr:List.range' i (K-i)=i::List.range' (i+1) (K-(i+1)):=by
     rw [show K-i=(K-(i+1))+1 by omega,List.range'_succ]
   have hb:(acc.length+1)*64≤140737488355328:=by omega
   simp only [nT] at ih
   rw [hr]
   generalize dr (nT s i) 1000000 false=s1 at *
   generalize nT s i=s0 at *
   rw [g389L0e] at ih ⊢
   simp [ct] at c1
   simp [sC,yR,tC,ct,hc] at ih
   simp (disch:=omega) [-getElem?_pos,g389B0,sC,yR,tC,hc,hi,c1,aA,hb,ct]
   rw [g389L0e]
   simp [ih]
end Go.Ab.Lw
namespace Go.Ab.Lw
open Ev
def yS (t:Ty):Prop:=t.Ok∧t.Kw
theorem Ld {s:d5} {x:Ty} (hx:x.Ok) {ns:List Nat} (hns:ns.length=x.args.length) (IH:∀(i:Nat) a n,x.args[i]?=some a→ns[i]?=some n→∃u:Ty,(aQ AP).p 373 [s.pv,a.pv]=some [u.pv]∧yS u∧u.nodes.length=n):∀(k i:Nat),x.args.length-i=k→i≤x.args.length→∀acc:List Ty,acc.length=i→(∀u∈acc,yS u)→(acc.flatMap Ty.nodes).length=(ns.take i).sum→∃us:List Ty,
   cl AP g373L0 ⟨[(2,.aG 2 0),(3,.aG 3 0),(4,.aG 4 0),(5,.aG 5 0),(6,.pv (vI i))],[(2,sC s),(3,tC x),(4,zC 0),(5,uC x acc 1)],[],[0,acc.length]⟩ =
     some (.exit 0,⟨[(2,.aG 2 0),(3,.aG 3 0),(4,.aG 4 0),(5,.aG 5 0),(6,.pv (vI x.args.length)),(16,.pv (.bool false))],[(2,sC s),(3,tC x),(4,zC 0),(5,uC x us 1)],[],[0,us.length]⟩)∧us.length=x.args.length∧(∀u∈us,yS u)∧(us.flatMap Ty.nodes).length=ns.sum
 | 0,i,hk,hi,acc,ha,hu,hc=>by
   have:i=x.args.length:=by omega
   subst this
   refine ⟨acc,?_,ha,hu,by rw [hc,←hns,List.take_length]⟩
   rw [g373L0e]
   simp [g373B0,sC,tC,zC,uC]
 | k+1,i,hk,hi,acc,ha,hu,hc=>by
   have hi:i<x.args.length:=by omega
   obtain ⟨a,hax⟩:=bO hi
   obtain ⟨n,hn⟩:=bO (l:=ns) (i:=i) (by omega)
   have hsm:=hx.sm
   unfold Sm at hsm
   obtain ⟨u,e,hO,hnn⟩:=IH i a n hax hn
   obtain ⟨us,e',h1,h2,h3⟩:=Ld hx hns IH k (i+1) (by omega) (by omega) (acc++[u]) (by simp;omega) (by
     intro y hy;simp at hy;rcases hy with hy | rfl
     · exact hu y hy
     · exact hO) (by rw [List.take_add_one,hn,List.flatMap_append,List.length_append,hc];simp [hnn])
   refine ⟨us,?_,h1,h2,h3⟩
   have hb:(acc.length+1)*64≤140737488355328:=by omega
   rw [g373L0e] at e' ⊢
   simp at e
   simp [sC,tC,zC,uC] at e'
   simp (disch:=omega) [-getElem?_pos,g373B0,sC,tC,zC,uC,hi,hax,aA,e,hb]
   rw [g373L0e]
   simp [e']
theorem c373k {s:d5} (hs:Sm s.sl) (hO:∀x∈s.sl,x.ty.Ok) (hW:∀x∈s.sl,x.ty.Kw) (r:Nat):∀t:Ty,Tr s.sl t r→yS t→∃u:Ty,(aQ AP).p 373 [s.pv,t.pv]=some [u.pv]∧yS u∧u.nodes.length=r:=by
 induction r using Nat.strongRecOn with
 | ind r ih=>
   intro t ht hto
   have k:=c386 hs (t:=t)
   have hw:(wk s.sl (s.sl.length+1) t).Ok:=lG hO hto.1
   have hk:(wk s.sl (s.sl.length+1) t).Kw:=nQ hW hto.2
   obtain ⟨ns,hn,hr⟩:=ht.inv
   unfold kv at hn
   obtain ⟨us,e,h1,h2,h3⟩:=Ld (s:=s) hw hn.1 (fun i a n hi hni=>by
     have:=vO hni
     exact ih n (by omega) a (hn.2 i a n hi hni) ⟨hw.gV a (bz hi),hk.gV a (bz hi)⟩) _ 0 rfl (by omega) [] rfl (by simp) rfl
   refine ⟨⟨(wk s.sl (s.sl.length+1) t).kind,(wk s.sl (s.sl.length+1) t).name,(wk s.sl (s.sl.length+1) t).id,(wk s.sl (s.sl.length+1) t).home,us⟩,?_,⟨⟨by have:=hw.sm;unfold Sm at *;simp only;omega,fun y hy=>(h2 y hy).1⟩,.mk (fun q=>?_) hk.nm fun y hy=>(h2 y hy).2⟩,by rw [Ty.bg];simp only [List.length_cons];omega⟩
   · rw [aw (af:=g373) rfl rfl (by decide)]
     rw [g373L0e] at e
     generalize wk s.sl (s.sl.length+1) t=x at *
     simp at k
     simp [sC,tC,zC,uC] at e
     simp [g373,k,g373L0e,e]
   · have:=hk.hd q
     refine ⟨this.1,?_⟩
     rw [this.2] at h1
     exact List.length_eq_zero_iff.1 h1
theorem My:bW.Kw:=.bare rfl (by simp [bW]) (by simp [bW])
theorem c358k {s:d5} (hs:Sm s.sl) (hO:∀x∈s.sl,x.ty.Ok) (hW:∀x∈s.sl,x.ty.Kw) {t:Ty} (ht:yS t):∃(u:Ty) (b:Bool),(aQ AP).p 358 [s.pv,t.pv]=some [u.pv,.bool b]∧yS u∧u.nodes.length≤4000:=by
 obtain ⟨r,e,h1,h2,h3⟩:=c355 hs hO (m:=4000) (by omega) ht.1
 simp at e
 by_cases hr:r≤4000
 · obtain ⟨u,e2,hu,hnu⟩:=c373k hs hO hW r t (h3 hr) ht
   refine ⟨u,true,?_,hu,by omega⟩
   simp at e2
   have hr':¬(4000:Int)<r:=by omega
   rw [aw (af:=g358) rfl rfl (by decide)]
   simp [g358,e,hr',e2]
 · refine ⟨bW,false,?_,⟨cZ rfl,My⟩,by rw [Ty.bg];simp [bW]⟩
   have hr':(4000:Int)<r:=by omega
   rw [aw (af:=g358) rfl rfl (by decide)]
   simp [g358,e,hr',bW]
def mh (n:Nat):Ty:=⟨4,[45,62],0,0,[ct n,ct (n+1:Nat)]⟩
theorem ss {n:Int}:(ct n).Kw:=.bare rfl (by simp [ct]) (by simp [ct])
theorem nU {S:List Int} {n:Int} (h:n∈S):Fit S (ct n):=⟨cZ rfl,ss,fun w ho=>by rw [jx (t:=ct n) rfl ho];exact h⟩
theorem su {n:Nat}:Fit (eG (n+2)) (mh n) where
 ok:=⟨by simp [mh,Sm],by intro x hx;simp [mh] at hx;rcases hx with rfl | rfl<;>exact cZ rfl⟩
 wf:=.mk (by simp [mh]) (by simp [mh]) (by intro x hx;simp [mh] at hx;rcases hx with rfl | rfl<;>exact ss)
 l8:=by
   intro w ho
   cases ho with
   | var q=>simp [mh] at q
   | arg _ ha ho=>
     simp [mh] at ha
     rcases ha with rfl | rfl
     · exact (nU (S:=eG (n+2)) (eK.2 (by omega))).l8 w ho
     · exact (nU (S:=eG (n+2)) (eK.2 (by omega))).l8 w ho
theorem vV {s:d5} {i:Nat} {v:Sl} (h:s.sl[i]?=some v):∀k,(nT s k).sl[i]?=some v
 | 0=>h
 | k+1=>by
   have ih:=vV h k
   have hl:i<(nT s k).sl.length:=by obtain ⟨h,_⟩:=List.getElem?_eq_some_iff.1 ih;exact h
   simp only [nT,dr]
   rw [List.getElem?_append_left hl]
   exact ih
theorem BM {s:d5} {v:Int}:∀{k:Nat},oJ (nT s k).sl v→oJ s.sl v
 | 0,h=>h
 | k+1,h=>by
   obtain ⟨j,x,e,hx,hb⟩:=h
   simp only [nT,dr] at hx
   by_cases hl:j<(nT s k).sl.length
   · rw [List.getElem?_append_left hl] at hx
     exact BM (k:=k) ⟨j,x,e,hx,hb⟩
   · rw [List.getElem?_append_right (by omega)] at hx
     have:j-(nT s k).sl.length=0:=by
       have:=(List.getElem?_eq_some_iff.1 hx).1
       simpa using this
     rw [this] at hx
     simp at hx
     subst hx
     cases hb
theorem Mz {s:List Sl} {v:Int} (h:oJ s v):v<s.length:=by
 obtain ⟨k,x,e,hx,_⟩:=h
 have:=(List.getElem?_eq_some_iff.1 hx).1
 omega
theorem J8 {n M:Nat} {s:d5} (I:Inv n M (eG n) s) {i:Nat} {v:Sl} (hv:s.sl[i]?=some v) (hf:¬oJ s.sl (i:Int)) :
   Inv (n+2) (M+2*(2*(n+2)+4)) (eG (n+2)) (gQ (nT s 2) i v ⟨true,mh n,v.home,v.base⟩):=by
 have J:=l_ I 2
 have h1:=vV hv 2
 have fi:¬oJ (nT s 2).sl (i:Int):=fun h=>hf (BM h)
 have hi:i<n:=by have:=(List.getElem?_eq_some_iff.1 hv).1;rw [I.len] at this;exact this
 refine (yJ J (t:=mh n) h1 fi Kp.refl (by omega) h1 su.ok su.wf su.l8 ?_ rfl rfl).1
 rintro ⟨w,ho,hr⟩
 have hw:n≤w:=by
   cases ho with
   | var q=>simp [mh] at q
   | arg _ ha ho=>
     simp [mh] at ha
     rcases ha with rfl | rfl
     · rw [jx (t:=ct n) rfl ho];simp [ct]
     · have:=jx (t:=ct ((n:Int)+1)) rfl ho;simp [ct] at this;omega
 have hnb:¬oJ (nT s 2).sl w:=fun h=>by
   have:=Mz (BM h)
   rw [I.len] at this
   omega
 have:=sk hr hnb
 omega
end Go.Ab.Lw
namespace Go.Ab.Lw
open Ev
theorem Fit.gR {S S':List Int} {t:Ty} (h:Fit S t) (hS:∀w∈S,w∈S'):Fit S' t:=⟨h.ok,h.wf,fun w ho=>hS w (h.l8 w ho)⟩
theorem ui {n m:Nat} (h:n≤m):∀w∈eG n,w∈eG m:=fun w hw=>by have:=eK.1 hw;exact eK.2 (by omega)
structure OJ (m M:Nat) (s:d5) (t w g:Ty) (args:List Ty) (vs:List As):Prop where
 inv:Inv m M (eG m) s
 t:Fit (eG m) t
 w:Fit (eG m) w
 g:Fit (eG m) g
 args:∀a∈args,Fit (eG m) a
 vs:∀x∈vs,Fit (eG m) x.ty
theorem Fit.wk {m M:Nat} {s:d5} (I:Inv m M (eG m) s) {t:Ty} (h:Fit (eG m) t):Fit (eG m) (kv s.sl t):=⟨lG I.ok h.ok,nQ I.wf h.wf,kx I.l8 h.l8⟩
theorem c194a {a b:Ty}:(aQ AP).p 194 [(Ty.mk 4 [45,62] 0 0 [a,b]).pv]=some [a.pv,b.pv,.bool true]:=by
 rw [aw (af:=g194) rfl rfl (by decide)]
 simp [g194]
theorem c194f {S:List Int} {t:Ty} (ht:Fit S t):∃(a b:Ty) (c:Bool),(aQ AP).p 194 [t.pv]=some [a.pv,b.pv,.bool c]∧(c=true→t.kind=4∧Fit S a∧Fit S b):=by
 obtain ⟨a,b,c,e,_,_,h⟩:=c194g ht.ok
 refine ⟨a,b,c,e,?_⟩
 intro hc
 have q:=h hc
 have hk:t.kind=4:=by rw [q]
 have ha:a∈t.args:=by rw [q];simp
 have hb:b∈t.args:=by rw [q];simp
 have hn:t.kind≠1:=by rw [hk];decide
 exact ⟨hk,⟨ht.ok.gV a ha,ht.wf.gV a ha,fun w ho=>ht.l8 w (.arg hn ha ho)⟩,⟨ht.ok.gV b hb,ht.wf.gV b hb,fun w ho=>ht.l8 w (.arg hn hb ho)⟩⟩
def lM (q:aN):Option (bG×St):=some (.ret,⟨[(10,.bN []),(11,.bN []),(12,.pv (.bool false))],[],[],q⟩)
def kJ (vs:List As) (N:Nat) (s:d5) (g w t:Ty) (args:List Ty):St:=⟨[(3,.pv (.aJ (vs.map As.pv))),(4,.pv (vI N)),(5,.aG 5 0),(7,.aG 7 0),(16,.aG 16 0),(17,.aG 17 0),(18,.own (args.map Ty.pv) 0)],[(5,sC s),(7,tC g),(16,tC w),(17,tC t)],[],[args.length]⟩
theorem OK {m M:Nat} {s:d5} {t w g:Ty} {args:List Ty} {vs:List As} (E:OJ m M s t w g args vs) (hm:m≤30000) (hM:M≤10000000) {N:Nat} (hl:args.length<N) (hN:N≤1000) :
   (∃q,cl AP g389L1 (kJ vs N s g w t args)=lM q)∨∃m' M' s' t' args',m≤m'∧m'≤m+2∧M'≤M+200000∧args'.length=args.length+1∧OJ m' M' s' t' w g args' vs∧cl AP g389L1 (kJ vs N s g w t args)=cl AP g389L1 (kJ vs N s' g w t' args'):=by
 have hsl:=E.inv.len
 have hsm:Sm s.sl:=by unfold Sm;omega
 have k1:=c386 hsm (t:=t)
 have F:=E.t.wk E.inv
 have fr:=sr E.inv.Ie (t:=t)
 change (aQ AP).p 386 [s.pv,t.pv]=some [(kv s.sl t).pv] at k1
 generalize kv s.sl t=x at *
 have hb:(args.length+1)*64≤140737488355328:=by omega
 have hlN:(args.length:Int)<N:=by omega
 have wk2:∀w∈eG m,w∈eG (m+2):=ui (by omega)
 by_cases hk:x.kind=1
 · have BZ:=eK.1 (F.l8 _ (.var hk))
   obtain ⟨i,hi⟩:∃i:Nat,x.id=i:=⟨x.id.toNat,by omega⟩
   have him:i<m:=by omega
   have his:i<s.sl.length:=by omega
   obtain ⟨o,ho⟩:=bO his
   have fi:¬oJ s.sl (i:Int):=by rw [←hi];exact jg hk fr
   cases hbs:o.base with
   | true=>
     left
     obtain ⟨a,b,c,k2,h2⟩:=c194f F
     have hc:c=false:=by
       cases c with
       | false=>rfl
       | true=>have:=(h2 rfl).1;omega
     subst hc
     simp [hk,hi] at k1 k2
     rw [g389L1e]
     simp (disch:=omega) [-getElem?_pos,g389B1,kJ,lM,sC,tC,hlN,k1,hk,hi,his,ho,hbs,k2]
   | false=>
     right
     have J:=l_ E.inv 1
     have hu:ub (nT s 1).sl≤m+1:=by have:=Lb (s:=(nT s 1).sl);rw [J.len] at this;exact this
     have c1:=c381 E.inv.IL (by omega) (by omega) 1000000 false
     have c2:=c381 J.IL (by omega) (by omega) 1000000 false
     have J2:=l_ E.inv 2
     have h2:=vV ho 2
     have c4:=c393 J2.IL (by omega) (by omega) h2 ⟨true,mh m,o.home,o.base⟩
     have c3:=c69 (a:=ct m) (b:=ct (m+1:Nat))
     have c5:=c194a (a:=ct m) (b:=ct (m+1:Nat))
     have I:=J8 E.inv ho fi
     have e1:nT s 1=dr s 1000000 false:=rfl
     have e2:nT s 2=dr (dr s 1000000 false) 1000000 false:=rfl
     have hl2:(nT s 2).sl.length=m+2:=J2.len
     rw [hsl] at c1
     rw [J.len,e1] at c2
     refine ⟨m+2,M+200000,gQ (nT s 2) i o ⟨true,mh m,o.home,o.base⟩,ct (m+1:Nat),args++[ct m],by omega,by omega,by omega,by simp,⟨I.gR (by omega) (fun _ h=>h),nU (eK.2 (by omega)),E.w.gR wk2,E.g.gR wk2,?_,fun x hx=>(E.vs x hx).gR wk2⟩,?_⟩
     · intro a ha
       simp at ha
       rcases ha with ha | rfl
       · exact (E.args a ha).gR wk2
       · exact nU (eK.2 (by omega))
     · rw [e2] at c4 h2 hl2 ⊢
       generalize gQ (dr (dr s 1000000 false) 1000000 false) i o ⟨true,mh m,o.home,o.base⟩=s3 at *
       generalize dr (dr s 1000000 false) 1000000 false=s2 at *
       generalize dr s 1000000 false=s1 at *
       have hi2:i<s2.sl.length:=by omega
       simp [hk,hi] at k1
       simp [ct,hbs] at c1 c2 c3 c4 c5
       simp [mh,ct] at c4
       conv=>lhs;rw [g389L1e]
       simp (disch:=omega) [-getElem?_pos,g389B1,kJ,sC,tC,hlN,k1,hk,hi,his,ho,hbs,c1,c2,h2,hi2,c3,c4,c5,ct,hb]
 · obtain ⟨a,b,c,k2,h2⟩:=c194f F
   simp at k1 k2
   cases c with
   | false=>
     left
     rw [g389L1e]
     simp (disch:=omega) [-getElem?_pos,g389B1,kJ,lM,sC,tC,hlN,k1,hk,k2]
   | true=>
     right
     obtain ⟨_,fa,fb⟩:=h2 rfl
     refine ⟨m,M,s,b,args++[a],by omega,by omega,by omega,by simp,⟨E.inv,fb,E.w,E.g,?_,E.vs⟩,?_⟩
     · intro y hy
       simp at hy
       rcases hy with hy | rfl
       · exact E.args y hy
       · exact fa
     · conv=>lhs;rw [g389L1e]
       simp (disch:=omega) [-getElem?_pos,g389B1,kJ,sC,tC,hlN,k1,hk,k2,hb]
theorem Le {vs:List As} {N:Nat} (hN:N≤1000) {w g:Ty}:∀(k m M:Nat) (s:d5) (t:Ty) (args:List Ty),N-args.length=k→args.length≤N→OJ m M s t w g args vs→m+2*k≤30000→M+200000*k≤10000000 →
   (∃q,cl AP g389L1 (kJ vs N s g w t args)=lM q)∨∃m' M' s' t' args',m'≤30000∧M'≤10000000∧args'.length=N∧OJ m' M' s' t' w g args' vs∧cl AP g389L1 (kJ vs N s g w t args)=some (.exit 2,⟨[(3,.pv (.aJ (vs.map As.pv))),(4,.pv (vI N)),(5,.aG 5 0),(7,.aG 7 0),(16,.aG 16 0),(17,.aG 17 0),(18,.own (args'.map Ty.pv) 0),(59,.pv (.bool false))],[(5,sC s'),(7,tC g),(16,tC w),(17,tC t')],[],[args'.length]⟩)
 | 0,m,M,s,t,args,hk,ha,E,h1,h2=>by
   have hl:args.length=N:=by omega
   refine .inr ⟨m,M,s,t,args,by omega,by omega,hl,E,?_⟩
   rw [g389L1e]
   simp [g389B1,kJ,sC,tC,hl]
 | k+1,m,M,s,t,args,hk,ha,E,h1,h2=>by
   rcases OK E (by omega) (by omega) (N:=N) (by omega) hN with h | ⟨m',M',s',t',args',a1,a2,a3,a4,E',e⟩
   · exact .inl h
   · rw [e]
     exact Le hN k m' M' s' t' args' (by omega) (by omega) E' (by omega) (by omega)
end Go.Ab.Lw
namespace Go.Ab.Lw
open Ev
def Fx (u:Ty):Prop:=yS u∧u.nodes.length≤4000
theorem Lf {m M:Nat} {s:d5} (I:Inv m M (eG m) s) (hm:m≤1000000) {vs:List As} (hv:vs.length≤100000) (hF:∀x∈vs,Fit (eG m) x.ty) {args:List Ty}:∀(k i:Nat),vs.length-i=k→i≤vs.length→∀acc:List Ty,acc.length=i→(∀u∈acc,Fx u) →
   (∃q,cl AP g389L2 ⟨[(3,.pv (.aJ (vs.map As.pv))),(5,.aG 5 0),(18,.own (args.map Ty.pv) 0),(29,.own (acc.map Ty.pv) 1),(30,.pv (vI i))],[(5,sC s)],[],[args.length,acc.length]⟩=lM q) ∨
   ∃us:List Ty,us.length=vs.length∧(∀u∈us,Fx u)∧cl AP g389L2 ⟨[(3,.pv (.aJ (vs.map As.pv))),(5,.aG 5 0),(18,.own (args.map Ty.pv) 0),(29,.own (acc.map Ty.pv) 1),(30,.pv (vI i))],[(5,sC s)],[],[args.length,acc.length]⟩ =
     some (.exit 4,⟨[(3,.pv (.aJ (vs.map As.pv))),(5,.aG 5 0),(18,.own (args.map Ty.pv) 0),(29,.own (us.map Ty.pv) 1),(30,.pv (vI vs.length)),(153,.pv (.bool false))],[(5,sC s)],[],[args.length,us.length]⟩)
 | 0,i,hk,hi,acc,ha,hu=>by
   have:i=vs.length:=by omega
   subst this
   refine .inr ⟨acc,ha,hu,?_⟩
   rw [g389L2e]
   simp [g389B2,sC]
 | k+1,i,hk,hi,acc,ha,hu=>by
   have hi:i<vs.length:=by omega
   obtain ⟨x,hx⟩:=bO hi
   have fx:=hF x (bz hx)
   have hsm:Sm s.sl:=by unfold Sm;rw [I.len];omega
   obtain ⟨r,k1,_,_,_⟩:=c355 hsm I.ok (m:=200) (by omega) fx.ok
   have hb:(acc.length+1)*64≤140737488355328:=by omega
   by_cases hr:(200:Int)<r
   · left
     simp at k1
     rw [g389L2e]
     simp (disch:=omega) [-getElem?_pos,g389B2,lM,sC,hx,hi,k1,hr]
   · obtain ⟨u,b,k2,hu1,hu2⟩:=c358k hsm I.ok I.wf ⟨fx.ok,fx.wf⟩
     have ih:=Lf I hm hv hF (args:=args) k (i+1) (by omega) (by omega) (acc++[u]) (by simp;omega) (by
       intro y hy;simp at hy;rcases hy with hy | rfl
       · exact hu y hy
       · exact ⟨hu1,hu2⟩)
     have e1:cl AP g389L2 ⟨[(3,.pv (.aJ (vs.map As.pv))),(5,.aG 5 0),(18,.own (args.map Ty.pv) 0),(29,.own (acc.map Ty.pv) 1),(30,.pv (vI i))],[(5,sC s)],[],[args.length,acc.length]⟩=cl AP g389L2 ⟨[(3,.pv (.aJ (vs.map As.pv))),(5,.aG 5 0),(18,.own (args.map Ty.pv) 0),(29,.own ((acc++[u]).map Ty.pv) 1),(30,.pv (vI (i+1:Nat)))],[(5,sC s)],[],[args.length,(acc++[u]).length]⟩:=by
       simp at k1 k2
       conv=>lhs;rw [g389L2e]
       simp (disch:=omega) [-getElem?_pos,g389B2,sC,hx,hi,k1,hr,k2,hb,aA]
     rw [e1]
     exact ih
theorem Lg {m M:Nat} {s:d5} (I:Inv m M (eG m) s) (hm:m≤1000000) {p3:PV} {args:List Ty} (hv:args.length≤100000) (hF:∀x∈args,Fit (eG m) x) {V:Nat}:∀(k i:Nat),args.length-i=k→i≤args.length→∀acc:List Ty,acc.length≤V+i→V≤100000→(∀u∈acc,Fx u) →
   ∃us:List Ty,us.length≤V+args.length∧(∀u∈us,Fx u)∧acc.length≤us.length∧cl AP g389L3 ⟨[(3,.pv p3),(5,.aG 5 0),(18,.own (args.map Ty.pv) 0),(29,.own (acc.map Ty.pv) 1),(33,.pv (vI i))],[(5,sC s)],[],[args.length,acc.length]⟩ =
     some (.exit 6,⟨[(3,.pv p3),(5,.aG 5 0),(18,.own (args.map Ty.pv) 0),(29,.own (us.map Ty.pv) 1),(33,.pv (vI args.length)),(181,.pv (.bool false))],[(5,sC s)],[],[args.length,us.length]⟩)
 | 0,i,hk,hi,acc,ha,hV,hu=>by
   have:i=args.length:=by omega
   subst this
   refine ⟨acc,ha,hu,Nat.le_refl _,?_⟩
   rw [g389L3e]
   simp [g389B3,sC]
 | k+1,i,hk,hi,acc,ha,hV,hu=>by
   have hi:i<args.length:=by omega
   obtain ⟨x,hx⟩:=bO hi
   have fx:=hF x (bz hx)
   have hsm:Sm s.sl:=by unfold Sm;rw [I.len];omega
   have hb:(acc.length+1)*64≤140737488355328:=by omega
   obtain ⟨u,b,k2,hu1,hu2⟩:=c358k hsm I.ok I.wf ⟨fx.ok,fx.wf⟩
   obtain ⟨us,q1,q2,q3,e⟩:=Lg I hm hv hF (p3:=p3) (V:=V) k (i+1) (by omega) (by omega) (acc++[u]) (by simp;omega) hV (by
       intro y hy;simp at hy;rcases hy with hy | rfl
       · exact hu y hy
       · exact ⟨hu1,hu2⟩)
   refine ⟨us,q1,q2,by simp at q3;omega,?_⟩
   rw [g389L3e] at e ⊢
   simp [sC] at e
   simp at k2
   simp (disch:=omega) [-getElem?_pos,g389B3,sC,hx,hi,k2,hb,aA]
   rw [g389L3e]
   simp [e]
theorem J9 {l:List Ty} {t:Ty}:∀w,ij (t.l6 l) w→ij t w∨∃x∈l,ij x w:=by
 refine Ty.eP (p:=fun t=>∀w,ij (t.l6 l) w→ij t w∨∃x∈l,ij x w) ?_ t
 intro t ih w h
 rw [Ty.lF] at h
 cases e:H3 l t with
 | some x=>
   rw [e] at h
   obtain ⟨_,_,_,hx⟩:=lE e
   exact .inr ⟨x,bz hx,h⟩
 | none=>
   rw [e] at h
   simp only [Option.getD_none] at h
   generalize hy:(Ty.mk t.kind t.name t.id t.home (t.args.map (Ty.l6 l)))=y at h
   cases h with
   | var q=>subst hy;exact .inl (.var q)
   | arg q ha ho=>
     subst hy
     simp only [List.mem_map] at ha
     obtain ⟨a,ha,rfl⟩:=ha
     rcases ih a ha _ ho with h | h
     · exact .inl (.arg q ha h)
     · exact .inr h
theorem OL {sz τ:Nat} {l:List PV} {k:IntKind} {h:Int} (h0:0≤h) (h1:h≤l.length) (hs:bC sz l=true):dc false sz true false false [.own l τ,.pv (.int k h)]=some (.pv (.aJ (l.drop h.toNat))):=by
 simp [dc,cS,eH,h0,h1,hs]
end Go.Ab.Lw
namespace Go.Ab.Lw
open Ev
abbrev Mt:=List (Int×Ty)
def kz:Mt→Int→Option Ty
 | [],_=>none
 | (j,x)::r,i=>if i=j then some x else kz r i
def oL:Mt→Int→Ty→Mt
 | [],i,t=>[(i,t)]
 | (j,x)::r,i,t=>if i=j then (i,t)::r else (j,x)::oL r i t
def mp (m:Mt):List (PV×PV):=m.map fun a=>(vI a.1,a.2.pv)
theorem qm {i j:Int} {t:Ty}:∀{m:Mt},kz (oL m i t) j=if j=i then some t else kz m j
 | []=>by simp [oL,kz]
 | (k,x)::r=>by
   have ih:=qm (i:=i) (j:=j) (t:=t) (m:=r)
   simp only [oL,kz]
   by_cases e:i=k
   · subst e
     by_cases e2:j=i<;>simp [kz,e2]
   · by_cases e2:j=i
     · subst e2;simp [kz,e,ih]
     · have e':¬k=i:=fun h=>e h.symm
       by_cases e3:j=k<;>simp [kz,e,e',e2,e3,ih]
def BN (m:Mt):Prop:=∀i x,kz m i=some x→x.Ok
theorem BN.put {m:Mt} (h:BN m) {t:Ty} (ht:t.Ok) {i:Int}:BN (oL m i t):=by
 intro j x hx
 rw [qm] at hx
 split at hx
 · cases hx;exact ht
 · exact h j x hx
def OM (p t:Ty):Bool:=decide (p.kind=t.kind) && decide (p.name=t.name) && decide (p.id=t.id) && decide (p.home=t.home) && decide (p.args.length=t.args.length)
end Go.Ab.Lw
namespace Go.Ab.Lw
open Ev
def P0:Ty:=⟨0,[],0,0,[]⟩
def gN (m:Mt) (n:Nat):List Ty:=(List.range n).map fun i:Nat=>(kz m i).getD P0
theorem iS {m:Mt} {n:Nat}:(gN m n).length=n:=by simp [gN]
def rI:Option (List Ty)→List PV
 | some l=>[.aJ (l.map Ty.pv),.bool true]
 | none=>[.aJ [],.bool false]
end Go.Ab.Lw
namespace Go.Ab.Lw
open Ev
def Lh (m:Mt) (n:Nat):List Bool:=(List.range n).map fun i:Nat=>(kz m i).isSome
theorem qn {m:Mt} {n:Nat}:(Lh m n).length=n:=by simp [Lh]
theorem oM {m:Mt} {n i:Nat} (h:i<n):(gN m n)[i]?=some ((kz m i).getD P0):=by simp [gN,h]
theorem vW {m:Mt} {n i:Nat} (h:i<n):(Lh m n)[i]?=some (kz m i).isSome:=by simp [Lh,h]
theorem Fy {m:Mt} {n i:Nat} {t:Ty}:gN (oL m i t) n=(gN m n).set i t:=by
 apply List.ext_getElem?
 intro j
 by_cases hj:j<n
 · rw [oM hj,List.getElem?_set,qm]
   by_cases e:i=j
   · subst e;simp [iS,hj]
   · have e':¬(j:Int)=i:=by omega
     simp [e,e',oM hj]
 · rw [List.getElem?_eq_none (by rw [iS];omega),List.getElem?_eq_none (by simp [iS];omega)]
theorem J_ {m:Mt} {n i:Nat} {t:Ty}:Lh (oL m i t) n=(Lh m n).set i true:=by
 apply List.ext_getElem?
 intro j
 by_cases hj:j<n
 · rw [vW hj,List.getElem?_set,qm]
   by_cases e:i=j
   · subst e;simp [qn,hj]
   · have e':¬(j:Int)=i:=by omega
     simp [e,e',vW hj]
 · rw [List.getElem?_eq_none (by rw [qn];omega),List.getElem?_eq_none (by simp [qn];omega)]
theorem uj:∀{l:List Ty} {i:Nat},i≤l.length→(l.flatMap Ty.cl).take (i*5)=(l.take i).flatMap Ty.cl
 | _,0,_=>by simp
 | [],i+1,h=>by simp at h
 | a::r,i+1,h=>by
   have ih:=uj (l:=r) (i:=i) (by simp at h;omega)
   have e:(i+1)*5=a.cl.length+i*5:=by simp [Ty.cl];omega
   rw [List.flatMap_cons,List.take_succ_cons,List.flatMap_cons,e,List.take_length_add_append,ih]
theorem oN:∀{l:List Ty} {i:Nat},i≤l.length→(l.flatMap Ty.cl).drop (i*5)=(l.drop i).flatMap Ty.cl
 | _,0,_=>by simp
 | [],i+1,h=>by simp at h
 | a::r,i+1,h=>by
   have ih:=oN (l:=r) (i:=i) (by simp at h;omega)
   have e:(i+1)*5=a.cl.length+i*5:=by simp [Ty.cl];omega
   rw [List.flatMap_cons,List.drop_succ_cons,e,List.drop_length_add_append,ih]
theorem J' {l:List Ty} {i:Nat} {t:Ty} (h:i<l.length):bo (jC l 0) (i*5) t.cl=jC (l.set i t) 0:=by
 have e0:∀l:List Ty,jC l 0=l.flatMap Ty.cl:=fun l=>by simp [jC]
 rw [aK,e0,e0,uj (by omega)]
 have e1:i*5+t.cl.length=(i+1)*5:=by simp [Ty.cl];omega
 rw [e1,oN (by omega),List.set_eq_take_append_cons_drop,if_pos h]
 simp
theorem Ka {l:List Ty} {i:Nat} {x:Ty} (h:l[i]?=some x):((jC l 0).drop (i*5)).take 5=x.cl:=by
 have hi:i<l.length:=(List.getElem?_eq_some_iff.1 h).1
 have e0:jC l 0=l.flatMap Ty.cl:=by simp [jC]
 rw [e0,oN (by omega),cY h,List.flatMap_cons]
 have:(5:Nat)=x.cl.length:=by simp [Ty.cl]
 rw [this,List.take_left]
mutual
noncomputable def Ty.rt (t:Ty) (m:Mt):Ty→Bool×Mt
 | ⟨k,n,i,h,as⟩=>if k=2 then (match kz m i with | some x=>(decide (x=t),m) | none=>(true,oL m i t)) else if OM ⟨k,n,i,h,as⟩ t=true then Ty.CD t.args m as else (false,m)
noncomputable def Ty.CD (ts:List Ty) (m:Mt):List Ty→Bool×Mt
 | []=>(true,m)
 | p::ps=>match ts with
   | []=>(true,m)
   | t::ts=>if (Ty.rt t m p).1=true then Ty.CD ts (Ty.rt t m p).2 ps else (false,(Ty.rt t m p).2)
end
theorem Ty.Li (t:Ty) (m:Mt) (p:Ty):Ty.rt t m p=if p.kind=2 then (match kz m p.id with | some x=>(decide (x=t),m) | none=>(true,oL m p.id t)) else if OM p t=true then Ty.CD t.args m p.args else (false,m):=by
 cases p;simp only [Ty.rt]
end Go.Ab.Lw
namespace Go.Ab.Lw
open Ev
def y7 (m:Mt) (n:Nat):List AV:=(Lh m n).map fun b=>.pv (.bool b)
theorem vX {m:Mt} {n:Nat}:(y7 m n).length=n:=by simp [y7,qn]
theorem Kb {m:Mt} {n i:Nat} (h:i<n):(y7 m n)[i]?=some (.pv (.bool (kz m i).isSome)):=by simp [y7,vW h]
theorem BO {m:Mt} {n:Nat}:∀v∈y7 m n,∃p,v=AV.pv p:=by
 intro v hv
 simp only [y7,List.mem_map] at hv
 obtain ⟨b,_,rfl⟩:=hv
 exact ⟨_,rfl⟩
theorem yT {m:Mt} {n:Nat}:dC (y7 m n)=false:=eu BO
theorem Kc {m:Mt} {n i:Nat} {t:Ty} (h:i<n):bo (y7 m n) (i*1) [.pv (.bool true)]=y7 (oL m i t) n:=by
 have hl:i<(y7 m n).length:=by rw [vX];exact h
 rw [aK]
 have e:y7 (oL m i t) n=(y7 m n).set i (.pv (.bool true)):=by
   unfold y7
   rw [J_,List.map_set]
 rw [e,List.set_eq_take_append_cons_drop,if_pos hl]
 simp
theorem Kd {m:Mt} {n i:Nat} {t:Ty} (h:i<n):bo (jC (gN m n) 0) (i*5) t.cl=jC (gN (oL m i t) n) 0:=by
 rw [Fy];exact J' (by rw [iS];exact h)
def mG (m:Mt) (n:Nat):Sh:=[some (jC (gN m n) 0),some (y7 m n)]
theorem ew {m:Mt} {n:Nat}:bP (mG m n):=bP.app (bP.one vJ) (bP.one BO)
theorem yU {m m':Mt} {n n':Nat}:(mG m' n').take (mG m n).length=mG m' n':=rfl
def Ke (n:Nat) (p:Ty):Prop:=∀x∈p.nodes,x.kind=2→0≤x.id∧x.id<n
theorem Ke.gV {n:Nat} {p:Ty} (h:Ke n p):∀y∈p.args,Ke n y:=by
 intro y hy x hx
 refine h x ?_
 rw [Ty.bg p]
 simp only [List.mem_cons,List.mem_flatMap]
 exact .inr ⟨y,hy,hx⟩
theorem Io:∀{ps ts:List Ty} {m:Mt},(∀p∈ps,∀t∈ts,∀m,BN m→BN (Ty.rt t m p).2)→BN m→BN (Ty.CD ts m ps).2
 | [],ts,m,_,h=>by simpa [Ty.CD] using h
 | p::ps,[],m,_,h=>by simpa [Ty.CD] using h
 | p::ps,t::ts,m,hp,h=>by
   have h1:=hp p (by simp) t (by simp) m h
   simp only [Ty.CD]
   split
   · exact Io (fun q hq u hu=>hp q (by simp [hq]) u (by simp [hu])) h1
   · exact h1
theorem ON {p:Ty}:∀{t:Ty},t.Ok→∀m,BN m→BN (Ty.rt t m p).2:=by
 refine Ty.eP (p:=fun p=>∀{t:Ty},t.Ok→∀m,BN m→BN (Ty.rt t m p).2) ?_ p
 intro p ih t ht m hm
 rw [Ty.Li]
 split
 · split
   · exact hm
   · exact hm.put ht
 · split
   · exact Io (fun q hq u hu m hm=>ih q hq (ht.gV u hu) m hm) hm
   · exact hm
theorem OO {N:Nat} {p t:Ty} (hS:Sm t.args) (hl:p.args.length=t.args.length) (h:∀x∈p.args,∀y∈t.args,∀m,BN m→(aQ AP).i 240 [.pv x.pv,.pv y.pv,.bI 0 5 N true,.bI 1 1 N false] (mG m N) []=some ([.pv (.bool (Ty.rt y m x).1)],mG (Ty.rt y m x).2 N,[]))
   (hO:t.Ok):∀(n i:Nat),t.args.length-i=n→i≤t.args.length→∀m,BN m →
   cl AP g240L0 ⟨[(2,.bI 0 5 N true),(3,.bI 1 1 N false),(4,.aG 4 0),(5,.aG 5 0),(9,.pv (vI i))],[(4,[.pv (vI p.kind),.pv (.str p.name),.pv (vI p.id),.pv (vI p.home),.pv (.aJ (p.args.map Ty.pv))]),(5,[.pv (vI t.kind),.pv (.str t.name),.pv (vI t.id),.pv (vI t.home),.pv (.aJ (t.args.map Ty.pv))])],mG m N,[]⟩ =
     if (Ty.CD (t.args.drop i) m (p.args.drop i)).1=true then some (.exit 0,⟨[(2,.bI 0 5 N true),(3,.bI 1 1 N false),(4,.aG 4 0),(5,.aG 5 0),(9,.pv (vI t.args.length)),(80,.pv (.bool false))],[(4,[.pv (vI p.kind),.pv (.str p.name),.pv (vI p.id),.pv (vI p.home),.pv (.aJ (p.args.map Ty.pv))]),(5,[.pv (vI t.kind),.pv (.str t.name),.pv (vI t.id),.pv (vI t.home),.pv (.aJ (t.args.map Ty.pv))])],mG (Ty.CD (t.args.drop i) m (p.args.drop i)).2 N,[]⟩)
     else some (.ret,⟨[(8,.pv (.bool false))],[],mG (Ty.CD (t.args.drop i) m (p.args.drop i)).2 N,[]⟩)
 | 0,i,hn,hi,m,hm=>by
   have:i=t.args.length:=by omega
   subst this
   have e1:p.args.drop t.args.length=[]:=by rw [←hl];simp
   have h1:=(ew (m:=m) (n:=N)).norm
   rw [g240L0e,e1]
   simp [g240B0,Ty.CD,h1,hl]
 | n+1,i,hn,hi,m,hm=>by
   have hi:i<t.args.length:=by omega
   obtain ⟨y,hy⟩:=bO hi
   obtain ⟨x,hx⟩:=bO (l:=p.args) (i:=i) (by omega)
   have hix:i<p.args.length:=by omega
   unfold Sm at hS
   have h1:=(ew (m:=m) (n:=N)).norm
   have h2:=(ew (m:=(Ty.rt y m x).2) (n:=N)).norm
   have h3:=(ew (m:=(Ty.rt y m x).2) (n:=N)).shift
   have k:=h x (bz hx) y (bz hy) m hm
   have ih:=OO hS hl h hO n (i+1) (by omega) (by omega) (Ty.rt y m x).2 (ON (hO.gV y (bz hy)) m hm)
   rw [g240L0e] at ih ⊢
   rw [cY hx,cY hy]
   simp only [Ty.CD]
   simp [h2] at k ih
   by_cases e:(Ty.rt y m x).1=true
   · rw [e] at k
     simp only [if_pos e]
     simp (disch:=omega) [-getElem?_pos,g240B0,hx,hy,hi,hix,k,aA,h1,h2,h3]
     rw [g240L0e]
     simp [ih,h2]
   · have e':(Ty.rt y m x).1=false:=by simpa using e
     rw [e'] at k
     simp only [if_neg e]
     simp (disch:=omega) [-getElem?_pos,g240B0,hx,hy,hi,hix,k,aA,h1,h2,h3]
theorem c240 {N:Nat} (hN:N<1099511627776) {p:Ty}:∀{t:Ty},t.Ok→Ke N p→∀m,BN m→(aQ AP).i 240 [.pv p.pv,.pv t.pv,.bI 0 5 N true,.bI 1 1 N false] (mG m N) []=some ([.pv (.bool (Ty.rt t m p).1)],mG (Ty.rt t m p).2 N,[]):=by
 refine Ty.eP (p:=fun p=>∀{t:Ty},t.Ok→Ke N p→∀m,BN m→(aQ AP).i 240 [.pv p.pv,.pv t.pv,.bI 0 5 N true,.bI 1 1 N false] (mG m N) []=some ([.pv (.bool (Ty.rt t m p).1)],mG (Ty.rt t m p).2 N,[])) ?_ p
 intro p ih t ht hR m hm
 have h1:=(ew (m:=m) (n:=N)).norm
 have h2:=(ew (m:=m) (n:=N)).shift
 rw [aT (af:=g240) rfl (by simp [g240]),Ty.Li]
 by_cases e2:p.kind=2
 · obtain ⟨i0,i1⟩:=hR p (by rw [Ty.bg];simp) e2
   obtain ⟨k,hk,hkN⟩:=mT i0 i1
   have kl:=Kb (m:=m) hkN
   have kl2:=vX (m:=m) (n:=N)
   have al:=yv (d:=gN m N) (m:=0)
   rw [iS] at al
   have fl:=oM (m:=m) hkN
   have gl:=Ka fl
   have hlen:k*5+5≤(jC (gN m N) 0).length:=by omega
   have hk1:k+1≤N:=hkN
   rw [if_pos e2,hk]
   cases hf:kz m k with
   | none=>
     rw [hf] at kl
     have s1:=Kd (m:=m) (t:=t) hkN
     have s2:=Kc (m:=m) (t:=t) hkN
     have h3:=(ew (m:=oL m k t) (n:=N)).norm
     simp [mG,Ty.cl] at h1 h2 h3 kl s1 s2
     simp (disch:=omega) [-getElem?_pos,g240,e2,hk,hkN,hk1,mG,h1,h2,h3,kl,kl2,yT,s1,s2,hlen]
   | some x=>
     rw [hf] at kl gl
     have q:=c20 (a:=x) (b:=t) (hm _ _ hf)
     simp [mG,Ty.cl] at h1 h2 kl gl q
     simp (disch:=omega) [-getElem?_pos,g240,e2,hk,hkN,hk1,mG,h1,h2,kl,kl2,yT,gl,hlen,q]
 · rw [if_neg e2]
   by_cases e:OM p t=true
   · rw [if_pos e]
     simp [OM] at e
     obtain ⟨⟨⟨⟨e1,e2'⟩,e3⟩,e4⟩,e5⟩:=e
     have h:=OO (N:=N) (p:=p) (t:=t) ht.sm e5 (fun x hx y hy m hm=>ih x hx (ht.gV y hy) (hR.gV x hx) m hm) ht _ 0 rfl (by omega) m hm
     have h3:=(ew (m:=(Ty.CD t.args m p.args).2) (n:=N)).norm
     rw [g240L0e] at h
     have e2t:¬t.kind=2:=by rw [←e1];exact e2
     simp [h1,e1,e2',e3,e4] at h
     cases e6:(Ty.CD t.args m p.args).1 with
     | true=>simp [e6] at h;simp [g240,e2t,e1,e2',e3,e4,e5,h1,h2,h3,yU,g240L0e,h]
     | false=>simp [e6] at h;simp [g240,e2t,e1,e2',e3,e4,e5,h1,h2,h3,yU,g240L0e,h]
   · rw [if_neg e]
     have:¬(p.kind=t.kind∧p.name=t.name∧p.id=t.id∧p.home=t.home∧p.args.length=t.args.length):=by
       rintro ⟨h1,h2,h3,h4,h5⟩;apply e;simp [OM,h1,h2,h3,h4,h5]
     by_cases q1:p.kind=t.kind
     · have e2':¬t.kind=2:=by rw [←q1];exact e2
       by_cases q2:p.name=t.name
       · by_cases q3:p.id=t.id
         · by_cases q4:p.home=t.home
           · have h5:¬p.args.length=t.args.length:=fun h5=>this ⟨q1,q2,q3,q4,h5⟩
             have h5':¬(p.args.length:Int)=t.args.length:=by omega
             simp [g240,e2',q1,q2,q3,q4,h5',h1,h2]
           · simp [g240,e2',q1,q2,q3,q4,h1,h2]
         · simp [g240,e2',q1,q2,q3,h1,h2]
       · simp [g240,e2',q1,q2,h1,h2]
     · simp [g240,e2,q1,h1,h2]
end Go.Ab.Lw
