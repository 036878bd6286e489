import Derived.Test.YtfhhognolpjikaaGreatCodeA
import Derived.Test.YtfhhognolpjikaaGreatAbBridge
import Derived.Test.YtfhhognolpjikaaGreatAbForce
import Derived.KernelRfl
/-
  The program's data.
  The makers: what their functions Gb.
  The makers: what their functions Gb.
  The data declarations that programs are made of: what the reader makes of their text.
  The makers: data declarations, chosen by bits.
  The makers: types and substitutions off the tape.
  Types and substitutions: what replaces variables.
  Types: rebuilding with new leaves.
  Types and substitutions: the program's replacing, finding, composing.
  Substitutions: composing; equality of types and of substitutions.
  Chapter 13: the plain laws, and the law that composition composes.
  Chapter 13: equality of substitutions; the laws SubstAssociates and SubstEqual.
  Functions of package slices over any elements.
  Ranges over a slice backward.
  Which types are valid.
  Contexts: their entries; looking names up.
  slices.EqualFunc and slices.Clip over any elements.
  What the pure data of a parameter looks MS.
  Chapter 3: what its laws make; the laws TypesValid and TypesEqual.
  The variables of types, by the program and by the reference.
  The reference's variables of types; they are the program's.
  Contexts: schemes, adding, hidden entries; what law 19 makes.
  Law 19 makes contexts; the law EnvironLooks.
  The maker of types over any list of data types.
  Correct types in declarations.
  Expressions.
  The reference's store of type variables: what it looks MS, bound variables, walks.
  The reference's store: sizes and resolved types.
  The reference's store: resolving, new variables, changes.
  slices.DeleteFunc over an array of texts that may be written.
  Arrays of structs in shared memory: their cells one behind the other.
  Chapter 13: valid and idempotent substitutions.
  The reference's store: a slot is set.
  The reference's unifier: arrows, rigid constants, variables of a store, joining.
  The reference's store: acyclic stores.
  The reference's store: a finder Im.
  The reference's store: a finder finds every variable that is reached and not bound.
  Expressions: children, the part at a path, and the names that are bound.
  Expressions: other children.
  The names that are visible at a path.
  Chapter 9: where a constructor is.
  Scopes: to which declaration aX belong.
  Scopes: the errors of a case itself, by the reference.
  Scopes: the errors of a case itself, by the program.
  Scopes: the first error of an expression.
  Positions are numbered.
  The reference's store: the variables of a type.
  Chapter 3: opening.
  Contexts: their free variables; the law EnvironSeen.
  Types by the kinds of their nodes.
  The reference's unifier: joining two variables.
  The reference's unifier: joining two variables, the walk.
  The reference's unifier: binding a variable, the loops.
  The reference's unifier: binding a variable.
  The reference's unifier: binding a variable, the walk.
  The reference's unifier: ends of walks, the loop over the arguments.
  The reference's unifier.
  The reference's unifier, from outside; marking a variable.
  The search's reference: a variable is marked; new variables bg a store fit.
  Chapter 9: written type variables become quantified ones.
-/
set_option linter.unusedVariables false
set_option linter.unusedSimpArgs false
set_option maxRecDepth 100000
set_option maxHeartbeats 8000000
namespace Go.Ab.Lw
structure Ty where
 kind:Int
 name:List UInt8
 id:Int
 home:Int
 args:List Ty
 deriving Inhabited
noncomputable instance:DecidableEq Ty:=fun _ _=>Classical.propDecidable _
mutual
def Ty.pv:Ty→PV
 | ⟨k,n,i,h,as⟩=>.agg [.int .i64 k,.str n,.int .i64 i,.int .i64 h,.aD (Ty.dE as)]
def Ty.dE:List Ty→List PV
 | []=>[]
 | a::r=>a.pv::Ty.dE r
end
theorem Ty.nk:∀l:List Ty,Ty.dE l=l.map Ty.pv
 | []=>by simp [Ty.dE]
 | a::r=>by simp [Ty.dE,Ty.nk r]
@[simp] theorem Ty.kN (t:Ty):t.pv=.agg [.int .i64 t.kind,.str t.name,.int .i64 t.id,.int .i64 t.home,.aD (t.args.map Ty.pv)]:=by
 cases t;simp only [Ty.pv,Ty.nk]
theorem Ty.eD {p:Ty→Prop} (h:∀t:Ty,(∀x∈t.args,p x)→p t):∀t,p t
 | ⟨k,n,i,hm,as⟩=>h _ (fun x _hx=>Ty.eD h x)
termination_by t=>SizeOf.sizeOf t
decreasing_by have:=_root_.List.sizeOf_lt_of_mem _hx;simp at *;omega
structure fW where
 pos:Int
 name:List UInt8
 fields:List Ty
 deriving Inhabited
structure Dt where
 pos:Int
 name:List UInt8
 params:List (List UInt8)
 cons:List fW
 deriving Inhabited
def fW.pv (c:fW):PV:=.agg [.int .i64 c.pos,.str c.name,.aD (c.fields.map Ty.pv)]
def Dt.pv (d:Dt):PV:=.agg [.int .i64 d.pos,.str d.name,.aD (d.params.map .str),.aD (d.cons.map fW.pv)]
@[simp] theorem fW.kN (c:fW):c.pv=.agg [.int .i64 c.pos,.str c.name,.aD (c.fields.map Ty.pv)]:=rfl
@[simp] theorem Dt.kN (d:Dt):d.pv=.agg [.int .i64 d.pos,.str d.name,.aD (d.params.map .str),.aD (d.cons.map fW.pv)]:=rfl
structure As where
 id:Int
 ty:Ty
 deriving Inhabited
def As.pv (a:As):PV:=.agg [.int .i64 a.id,.int .i64 a.ty.kind,.str a.ty.name,.int .i64 a.ty.id,.int .i64 a.ty.home,.aD (a.ty.args.map Ty.pv)]
@[simp] theorem As.kN (a:As):a.pv=.agg [.int .i64 a.id,.int .i64 a.ty.kind,.str a.ty.name,.int .i64 a.ty.id,.int .i64 a.ty.home,.aD (a.ty.args.map Ty.pv)]:=rfl
@[simp] theorem As.eta (t:As):As.mk t.id t.ty=t:=rfl
abbrev vI (n:Int):PV:=.int .i64 n
def tp (L:List Int) (i:Int):Sh:=[some [.pv (.aD (L.map vI)),.pv (vI i)]]
@[simp] theorem QS (L:List Int) (i:Int):tp L i=[some [.pv (.aD (L.map vI)),.pv (vI i)]]:=rfl
def Sm {α:Type} (l:List α):Prop:=l.length<1099511627776
def Ra {α:Type} (l:List α):Prop:=l.length≤9223372036854775807
@[simp] theorem Qx (n:Nat):((n:Int)<0)↔False:=by simp
@[simp] theorem Qj (n:Nat):((n:Int)+1<0)↔False:=by simp;omega
theorem bC {α:Type} {l:List α} {i:Nat} {x:α} (h:l[i]?=some x):l.drop i=x::l.drop (i+1):=by
 obtain ⟨hi,rfl⟩:=List.getElem?_eq_some_iff.1 h
 exact List.drop_eq_getElem_cons hi
theorem bn {α:Type} {l:List α} {i:Nat} (h:i<l.length):∃x,l[i]?=some x:=⟨_,List.getElem?_eq_getElem h⟩
theorem bo {α:Type} {l:List α} {i:Nat} {x:α} (h:l[i]?=some x):x∈l:=List.mem_of_getElem? h
theorem rp {α:Type} {l:List α} {i:Nat} (h:l.length≤i):l.drop i=[]:=List.drop_eq_nil_of_le h
end Go.Ab.Lw
namespace Go.Ab.Lw
open Ev
theorem c26 {n m:Int} (h1:1≤m) (h2:m<4611686018427387904):∃r,(aN AP).p 26 [vI n,vI m]=some [vI r]∧0≤r∧r<m:=by
 rw [au (af:=g26) rfl rfl (by decide)]
 have a1:=Int.tmod_lt_of_pos n (show 0<m by omega)
 have a2:=Int.lt_tmod_of_pos n (show 0<m by omega)
 have e1:¬m<1:=by omega
 have e2:¬m=0:=by omega
 by_cases h:n.tmod m<0
 · refine ⟨n.tmod m+m,?_,by omega,by omega⟩
   simp (disch:=omega) [g26,e1,e2,h,aq]
 · refine ⟨n.tmod m,?_,by omega,by omega⟩
   simp [g26,e1,e2,h]
theorem c63 {n:Int}:(aN AP).p 63 [vI n]=some [(Ty.mk 1 [] n 0 []).pv]:=by
 rw [au (af:=g63) rfl rfl (by decide)]
 simp [g63]
theorem c71 {n m:Int}:(aN AP).p 71 [vI n,vI m]=some [(Ty.mk 3 [] m n []).pv]:=by
 rw [au (af:=g71) rfl rfl (by decide)]
 simp [g71]
theorem c72 {n:Int}:(aN AP).p 72 [vI n]=some [(Ty.mk 2 [] n 0 []).pv]:=by
 rw [au (af:=g72) rfl rfl (by decide)]
 simp [g72]
theorem c62 {s:List UInt8} {l:List Ty} (h:Sm l):(aN AP).p 62 [.str s,.aD (l.map Ty.pv)]=some [(Ty.mk 4 s 0 0 l).pv]:=by
 unfold Sm at h
 rw [au (af:=g62) rfl rfl (by decide)]
 cases l with
 | nil=>simp [g62]
 | cons a r=>
   have:(r.length+1)*64≤140737488355328:=by simp at h;omega
   simp [g62,this]
theorem c34:(aN AP).p 34 []=some [(Ty.mk 4 [73,110,116] 0 0 []).pv]:=by
 rw [au (af:=g34) rfl rfl (by decide)]
 have h:=c62 (s:=[73,110,116]) (l:=[]) (by simp [Sm])
 simp at h
 simp [g34,h]
theorem c69 {a b:Ty}:(aN AP).p 69 [a.pv,b.pv]=some [(Ty.mk 4 [45,62] 0 0 [a,b]).pv]:=by
 rw [au (af:=g69) rfl rfl (by decide)]
 have h:=c62 (s:=[45,62]) (l:=[a,b]) (by simp [Sm])
 simp at h
 simp [g69,h]
theorem c15 {l:List Int}:(aN AP).p 15 [.aD (l.map vI)]=some [.bool (decide (l.length≤60))]:=by
 rw [au (af:=g15) rfl rfl (by decide)]
 simp [g15]
 omega
end Go.Ab.Lw
namespace Go.Ab.Lw
open Ev
def cm (n:Int):Ty:=⟨1,[],n,0,[]⟩
def np (h n:Int):Ty:=⟨3,[],n,h,[]⟩
def dm (n:Int):Ty:=⟨2,[],n,0,[]⟩
def bw:Ty:=⟨4,[73,110,116],0,0,[]⟩
end Go.Ab.Lw
namespace Go.Ab.Lw
def OJ:List UInt8:=[100,97,116,97,32,66,111,111,108,32,61,32,84,114,117,101,32,124,32,70,97,108,115,101,59,32,100,97,116,97,32,79,112,116,105,111,110,32,97,32,61,32,78,111,110,101,32,124,32,83,111,109,101,32,97,59,32,100,97,116,97,32,76,105,115,116,32,97,32,61,32,78,105,108,32,124,32,67,111,110,115,32,97,32,40,76,105,115,116,32,97,41,59,100,97,116,97,32,80,97,105,114,32,97,32,98,32,61,32,80,97,105,114,32,97,32,98,59,32,100,97,116,97,32,78,97,116,32,61,32,90,101,114,111,32,124,32,83,117,99,99,32,78,97,116,59,32,100,97,116,97,32,70,117,110,32,97,32,98,32,61,32,70,117,110,32,40,97,32,45,62,32,98,41,59,32,100,97,116,97,32,84,119,111,32,97,32,61,32,66,111,116,104,32,97,32,97,32,124,32,79,110,101,32,40,79,112,116,105,111,110,32,97,41,59]
def LQ:List PV:=[.aD [.agg [.int .i64 4,.str [100,97,116,97],.int .i64 0],.agg [.int .i64 2,.str [66,111,111,108],.int .i64 5],.agg [.int .i64 5,.str [61],.int .i64 10],.agg [.int .i64 2,.str [84,114,117,101],.int .i64 12],.agg [.int .i64 5,.str [124],.int .i64 17],.agg [.int .i64 2,.str [70,97,108,115,101],.int .i64 19],.agg [.int .i64 5,.str [59],.int .i64 24],.agg [.int .i64 4,.str [100,97,116,97],.int .i64 26],.agg [.int .i64 2,.str [79,112,116,105,111,110],.int .i64 31],.agg [.int .i64 1,.str [97],.int .i64 38],.agg [.int .i64 5,.str [61],.int .i64 40],.agg [.int .i64 2,.str [78,111,110,101],.int .i64 42],.agg [.int .i64 5,.str [124],.int .i64 47],.agg [.int .i64 2,.str [83,111,109,101],.int .i64 49],.agg [.int .i64 1,.str [97],.int .i64 54],.agg [.int .i64 5,.str [59],.int .i64 55],.agg [.int .i64 4,.str [100,97,116,97],.int .i64 57],.agg [.int .i64 2,.str [76,105,115,116],.int .i64 62],.agg [.int .i64 1,.str [97],.int .i64 67],.agg [.int .i64 5,.str [61],.int .i64 69],.agg [.int .i64 2,.str [78,105,108],.int .i64 71],.agg [.int .i64 5,.str [124],.int .i64 75],.agg [.int .i64 2,.str [67,111,110,115],.int .i64 77],.agg [.int .i64 1,.str [97],.int .i64 82],.agg [.int .i64 5,.str [40],.int .i64 84],.agg [.int .i64 2,.str [76,105,115,116],.int .i64 85],.agg [.int .i64 1,.str [97],.int .i64 90],.agg [.int .i64 5,.str [41],.int .i64 91],.agg [.int .i64 5,.str [59],.int .i64 92],.agg [.int .i64 4,.str [100,97,116,97],.int .i64 93],.agg [.int .i64 2,.str [80,97,105,114],.int .i64 98],.agg [.int .i64 1,.str [97],.int .i64 103],.agg [.int .i64 1,.str [98],.int .i64 105],.agg [.int .i64 5,.str [61],.int .i64 107],.agg [.int .i64 2,.str [80,97,105,114],.int .i64 109],.agg [.int .i64 1,.str [97],.int .i64 114],.agg [.int .i64 1,.str [98],.int .i64 116],.agg [.int .i64 5,.str [59],.int .i64 117],.agg [.int .i64 4,.str [100,97,116,97],.int .i64 119],.agg [.int .i64 2,.str [78,97,116],.int .i64 124],.agg [.int .i64 5,.str [61],.int .i64 128],.agg [.int .i64 2,.str [90,101,114,111],.int .i64 130],.agg [.int .i64 5,.str [124],.int .i64 135],.agg [.int .i64 2,.str [83,117,99,99],.int .i64 137],.agg [.int .i64 2,.str [78,97,116],.int .i64 142],.agg [.int .i64 5,.str [59],.int .i64 145],.agg [.int .i64 4,.str [100,97,116,97],.int .i64 147],.agg [.int .i64 2,.str [70,117,110],.int .i64 152],.agg [.int .i64 1,.str [97],.int .i64 156],.agg [.int .i64 1,.str [98],.int .i64 158],.agg [.int .i64 5,.str [61],.int .i64 160],.agg [.int .i64 2,.str [70,117,110],.int .i64 162],.agg [.int .i64 5,.str [40],.int .i64 166],.agg [.int .i64 1,.str [97],.int .i64 167],.agg [.int .i64 5,.str [45,62],.int .i64 169],.agg [.int .i64 1,.str [98],.int .i64 172],.agg [.int .i64 5,.str [41],.int .i64 173],.agg [.int .i64 5,.str [59],.int .i64 174],.agg [.int .i64 4,.str [100,97,116,97],.int .i64 176],.agg [.int .i64 2,.str [84,119,111],.int .i64 181],.agg [.int .i64 1,.str [97],.int .i64 185],.agg [.int .i64 5,.str [61],.int .i64 187],.agg [.int .i64 2,.str [66,111,116,104],.int .i64 189],.agg [.int .i64 1,.str [97],.int .i64 194],.agg [.int .i64 1,.str [97],.int .i64 196],.agg [.int .i64 5,.str [124],.int .i64 198],.agg [.int .i64 2,.str [79,110,101],.int .i64 200],.agg [.int .i64 5,.str [40],.int .i64 204],.agg [.int .i64 2,.str [79,112,116,105,111,110],.int .i64 205],.agg [.int .i64 1,.str [97],.int .i64 212],.agg [.int .i64 5,.str [41],.int .i64 213],.agg [.int .i64 5,.str [59],.int .i64 214]],.agg [.int .i64 0,.int .i64 0]]
def cG:List Dt:=[⟨0,[66,111,111,108],[],[⟨12,[84,114,117,101],[]⟩,⟨19,[70,97,108,115,101],[]⟩]⟩,
 ⟨26,[79,112,116,105,111,110],[[97]],[⟨42,[78,111,110,101],[]⟩,⟨49,[83,111,109,101],[⟨5,[97],0,0,[]⟩]⟩]⟩,
 ⟨57,[76,105,115,116],[[97]],[⟨71,[78,105,108],[]⟩,⟨77,[67,111,110,115],[⟨5,[97],0,0,[]⟩,⟨4,[76,105,115,116],0,0,[⟨5,[97],0,0,[]⟩]⟩]⟩]⟩,
 ⟨93,[80,97,105,114],[[97],[98]],[⟨109,[80,97,105,114],[⟨5,[97],0,0,[]⟩,⟨5,[98],0,0,[]⟩]⟩]⟩,
 ⟨119,[78,97,116],[],[⟨130,[90,101,114,111],[]⟩,⟨137,[83,117,99,99],[⟨4,[78,97,116],0,0,[]⟩]⟩]⟩,
 ⟨147,[70,117,110],[[97],[98]],[⟨162,[70,117,110],[⟨4,[45,62],0,0,[⟨5,[97],0,0,[]⟩,⟨5,[98],0,0,[]⟩]⟩]⟩]⟩,
 ⟨176,[84,119,111],[[97]],[⟨189,[66,111,116,104],[⟨5,[97],0,0,[]⟩,⟨5,[97],0,0,[]⟩]⟩,⟨200,[79,110,101],[⟨4,[79,112,116,105,111,110],0,0,[⟨5,[97],0,0,[]⟩]⟩]⟩]⟩]
theorem OK:(aN AP).p 118 [.str OJ]=some LQ:=Fc.Qw (k:=400) (n:=20) (by kernel_rfl)
def QT (g:Nat) (x:List PV):Option (List PV):=match g,x with
 | 118,[.str s]=>if s=OJ then some LQ else none
 | _,_=>none
theorem Nk:∀g x r,QT g x=some r→(aN AP).p g x=some r:=by
 intro g x r h
 unfold QT at h
 split at h
 · split at h
   · rename_i e;subst e;cases h;exact OK
   · cases h
 · cases h
theorem c79:(aN AP).p 79 []=some [.aD (cG.map Dt.pv)]:=Fc.LP (k:=400) (n:=40) Nk (by kernel_rfl)
end Go.Ab.Lw
namespace Go.Ab.Lw
open Ev
@[simp] theorem N0 {l:List Dt}:bI 4 (l.map Dt.pv)=true:=by cases l<;>simp
@[simp] theorem N1 {l:List Ty}:bI 5 (l.map Ty.pv)=true:=by cases l<;>simp
@[simp] theorem N2 {l:List As}:bI 6 (l.map As.pv)=true:=by cases l<;>simp
theorem Io {n:Int} (h1:0≤n) (h2:n<18446744073709551616):IntKind.u64.wrap n=n:=by
 simp [IntKind.wrap,IntKind.bits,IntKind.signed]
 omega
def OL (bits:Int) (ds:List Dt):Option (bf×St):=
 some (.exit 0,⟨[(0,.pv (vI bits)),(3,.pv (.aD (cG.map Dt.pv))),(4,.own (ds.map Dt.pv) 0),(5,.pv (vI 7)),(24,.pv (.bool false))],[],[],[ds.length]⟩)
theorem Qk (bits:Int):∀(n i:Nat),7-i=n→i≤7→∀acc:List Dt,(∀d∈acc,d∈cG)→acc.length≤1+i →
   ∃ds:List Dt,cl AP g32L0 ⟨[(0,.pv (vI bits)),(3,.pv (.aD (cG.map Dt.pv))),(4,.own (acc.map Dt.pv) 0),(5,.pv (vI i))],[],[],[acc.length]⟩=OL bits ds ∧
     (∀d∈ds,d∈cG)∧ds.length≤8
 | 0,i,hn,hi,acc,ha,hl=>by
   have:i=7:=by omega
   subst this
   refine ⟨acc,?_,ha,by omega⟩
   rw [g32L0e]
   have h7:cG.length=7:=rfl
   simp [g32B0,h7,OL]
 | n+1,i,hn,hi,acc,ha,hl=>by
   have h7:cG.length=7:=rfl
   have hi:i<7:=by omega
   obtain ⟨x,hx⟩:=bn (l:=cG) (i:=i) (by omega)
   have hb:(acc.length+1)*72≤140737488355328:=by omega
   obtain ⟨d1,e1,m1,l1⟩:=Qk bits n (i+1) (by omega) (by omega) (acc++[x]) (by
     intro d hd;simp at hd;rcases hd with hd | rfl
     · exact ha d hd
     · exact bo hx) (by simp;omega)
   obtain ⟨d2,e2,m2,l2⟩:=Qk bits n (i+1) (by omega) (by omega) acc ha (by omega)
   simp at e1 e2
   have hi':(i:Int)<7:=by omega
   have key:∀S,S=cl AP g32L0 ⟨[(0,.pv (vI bits)),(3,.pv (.aD (cG.map Dt.pv))),(4,.own (acc.map Dt.pv) 0),(5,.pv (vI i))],[],[],[acc.length]⟩→S=OL bits d1∨S=OL bits d2:=by
     intro S hS
     rw [g32L0e] at hS
     simp (disch:=omega) [-getElem?_pos,g32B0,h7,hi',hx,aq,Io,hb,e1,e2] at hS
     subst hS
     (repeat' split)<;>simp
   rcases key _ rfl with h | h
   · exact ⟨d1,h,m1,l1⟩
   · exact ⟨d2,h,m2,l2⟩
theorem c32 (bits:Int):∃ds:List Dt,(aN AP).p 32 [vI bits]=some [.aD (ds.map Dt.pv)]∧(∀d∈ds,d∈cG)∧ds.length≤8:=by
 have hp:=c79
 have h7:cG.length=7:=rfl
 obtain ⟨x,hx⟩:=bn (l:=cG) (i:=1) (by decide)
 obtain ⟨d1,e1,m1,l1⟩:=Qk bits 7 0 rfl (by omega) [x] (by intro d hd;simp at hd;subst hd;exact bo hx) (by simp)
 obtain ⟨d2,e2,m2,l2⟩:=Qk bits 7 0 rfl (by omega) [] (by simp) (by simp)
 rw [g32L0e] at e1 e2
 simp at e1 e2
 have key:∀S,S=(aN AP).p 32 [vI bits]→S=some [.aD (d1.map Dt.pv)]∨S=some [.aD (d2.map Dt.pv)]:=by
   intro S hS
   rw [au (af:=g32) rfl rfl (by decide)] at hS
   simp [-getElem?_pos,g32,hp,g32L0e,hx,e1,e2,OL] at hS
   subst hS
   (repeat' split)<;>simp
 rcases key _ rfl with h | h
 · exact ⟨d1,h,m1,l1⟩
 · exact ⟨d2,h,m2,l2⟩
end Go.Ab.Lw
namespace Go.Ab.Lw
open Ev
inductive Made (lv:Ty→Prop):Ty→Prop
 | leaf {t:Ty}:lv t→Made lv t
 | int:Made lv bw
 | d7 {d:Dt} {args:List Ty}:d∈cG→args.length=d.params.length→(∀x∈args,Made lv x)→Made lv ⟨4,d.name,0,0,args⟩
 | arrow {a b:Ty}:Made lv a→Made lv b→Made lv ⟨4,[45,62],0,0,[a,b]⟩
def Ty.av (t:Ty):AV:=.agg [.pv (vI t.kind),.pv (.str t.name),.pv (vI t.id),.pv (vI t.home),.pv (.aD (t.args.map Ty.pv))]
@[simp] theorem Ty.QU (t:Ty):t.av=.agg [.pv (vI t.kind),.pv (.str t.name),.pv (vI t.id),.pv (vI t.home),.pv (.aD (t.args.map Ty.pv))]:=rfl
def sJ (L:List Int) (ds:List Dt) (lv:List Ty) (dep:Nat):Prop:=∀i:Nat,i≤L.length→∃(t:Ty) (j:Nat),
 (aN AP).i 27 [.a_ 0 0,.pv (.aD (ds.map Dt.pv)),.pv (.aD (lv.map Ty.pv)),.pv (vI dep)] (tp L i) []=some ([t.av],tp L j,[])∧Made (·∈lv) t∧j≤L.length
theorem mz {r:Int} {n:Nat} (h0:0≤r) (h1:r<n):∃m:Nat,r=m∧m<n:=⟨r.toNat,by omega,by omega⟩
end Go.Ab.Lw
namespace Go.Ab.Lw
open Ev
inductive Ty.Ok:Ty→Prop
 | mk {t:Ty}:Sm t.args→(∀x∈t.args,Ty.Ok x)→Ty.Ok t
theorem Ty.Ok.sm {t:Ty} (h:t.Ok):Sm t.args:=by cases h;assumption
theorem Ty.Ok.fw {t:Ty} (h:t.Ok):∀x∈t.args,x.Ok:=by cases h;assumption
inductive Ty.Wf:Ty→Prop
 | mk {t:Ty}:(t.kind=1→t.args=[])→(∀x∈t.args,Ty.Wf x)→Ty.Wf t
theorem Ty.Wf.var {t:Ty} (h:t.Wf):t.kind=1→t.args=[]:=by cases h;assumption
theorem Ty.Wf.fw {t:Ty} (h:t.Wf):∀x∈t.args,x.Wf:=by cases h;assumption
def ki:List As→Int→Option Ty
 | [],_=>none
 | a::r,id=>if a.id=id then some a.ty else ki r id
mutual
def Ty.sub (s:List As):Ty→Ty
 | ⟨k,n,i,h,as⟩=>if k=1 then (ki s i).getD ⟨k,n,i,h,as⟩ else ⟨k,n,i,h,Ty.Ip s as⟩
def Ty.Ip (s:List As):List Ty→List Ty
 | []=>[]
 | a::r=>a.sub s::Ty.Ip s r
end
theorem Ty.xN (s:List As):∀l:List Ty,Ty.Ip s l=l.map (Ty.sub s)
 | []=>by simp [Ty.Ip]
 | a::r=>by simp [Ty.Ip,Ty.xN s r]
theorem Ty.sub_eq (s:List As) (t:Ty):t.sub s=if t.kind=1 then (ki s t.id).getD t else ⟨t.kind,t.name,t.id,t.home,t.args.map (Ty.sub s)⟩:=by
 cases t;simp only [Ty.sub,Ty.xN]
def Iq (s:List As) (t:Ty):Option Ty→Option (bf×St)
 | some a=>some (.ret,⟨[(4,.az 4 0)],[(4,[.pv (vI a.kind),.pv (.str a.name),.pv (vI a.id),.pv (vI a.home),.pv (.aD (a.args.map Ty.pv))])],[],[0]⟩)
 | none=>some (.exit 0,⟨[(1,.pv (.aD (s.map As.pv))),(2,.az 2 0),(4,.az 4 0),(5,.pv (vI s.length)),(14,.pv (.bool false))],
     [(2,[.pv (vI t.kind),.pv (.str t.name),.pv (vI t.id),.pv (vI t.home),.pv (.aD (t.args.map Ty.pv))]),(4,[.pv (vI 0),.pv (.str []),.pv (vI 0),.pv (vI 0),.own [] 0])],[],[0]⟩)
theorem OM {s:List As} (hS:Sm s) (t:Ty):∀(n i:Nat),s.length-i=n→i≤s.length →
   cl AP g46L0 ⟨[(1,.pv (.aD (s.map As.pv))),(2,.az 2 0),(4,.az 4 0),(5,.pv (vI i))],
     [(2,[.pv (vI t.kind),.pv (.str t.name),.pv (vI t.id),.pv (vI t.home),.pv (.aD (t.args.map Ty.pv))]),(4,[.pv (vI 0),.pv (.str []),.pv (vI 0),.pv (vI 0),.own [] 0])],[],[0]⟩=Iq s t (ki (s.drop i) t.id)
 | 0,i,hn,hi=>by
   have:i=s.length:=by omega
   subst this
   rw [g46L0e]
   simp [g46B0,ki,Iq]
 | n+1,i,hn,hi=>by
   have hi:i<s.length:=by omega
   obtain ⟨x,hx⟩:=bn hi
   unfold Sm at hS
   have ih:=OM hS t n (i+1) (by omega) (by omega)
   simp at ih
   rw [g46L0e,bC hx]
   by_cases e:x.id=t.id
   · simp (disch:=omega) [-getElem?_pos,g46B0,hx,hi,e,ki,Iq]
   · simp (disch:=omega) [-getElem?_pos,g46B0,hx,hi,e,ki,aq,ih]
theorem ON {s:List As} {t:Ty} (hS:Sm t.args) (h:∀x∈t.args,(aN AP).p 46 [x.pv,.aD (s.map As.pv)]=some [(x.sub s).pv]):∀(n i:Nat),t.args.length-i=n→i≤t.args.length→∀acc:List Ty,acc=(t.args.take i).map (Ty.sub s) →
   cl AP g46L1 ⟨[(1,.pv (.aD (s.map As.pv))),(2,.az 2 0),(4,.az 4 0),(6,.az 6 0),(7,.pv (vI i))],
     [(2,[.pv (vI t.kind),.pv (.str t.name),.pv (vI t.id),.pv (vI t.home),.pv (.aD (t.args.map Ty.pv))]),(4,[.pv (vI 0),.pv (.str []),.pv (vI 0),.pv (vI 0),.own [] 0]),
       (6,[.pv (vI t.kind),.pv (.str t.name),.pv (vI t.id),.pv (vI t.home),.own (acc.map Ty.pv) 1])],[],[0,acc.length]⟩ =
     some (.exit 2,⟨[(1,.pv (.aD (s.map As.pv))),(2,.az 2 0),(4,.az 4 0),(6,.az 6 0),(7,.pv (vI t.args.length)),(37,.pv (.bool false))],
     [(2,[.pv (vI t.kind),.pv (.str t.name),.pv (vI t.id),.pv (vI t.home),.pv (.aD (t.args.map Ty.pv))]),(4,[.pv (vI 0),.pv (.str []),.pv (vI 0),.pv (vI 0),.own [] 0]),
       (6,[.pv (vI t.kind),.pv (.str t.name),.pv (vI t.id),.pv (vI t.home),.own ((t.args.map (Ty.sub s)).map Ty.pv) 1])],[],[0,t.args.length]⟩)
 | 0,i,hn,hi,acc,ha=>by
   have:i=t.args.length:=by omega
   subst this
   subst ha
   rw [g46L1e]
   simp [g46B1]
 | n+1,i,hn,hi,acc,ha=>by
   have hi:i<t.args.length:=by omega
   obtain ⟨x,hx⟩:=bn hi
   unfold Sm at hS
   have hb:(acc.length+1)*64≤140737488355328:=by subst ha;simp;omega
   have hc:=h x (bo hx)
   have ih:=ON hS h n (i+1) (by omega) (by omega) (acc++[x.sub s]) (by rw [List.take_add_one,hx,ha];simp)
   rw [g46L1e] at ih ⊢
   simp at ih hc
   simp (disch:=omega) [-getElem?_pos,g46B1,hx,hi,hc,hb,aq]
   rw [g46L1e]
   simp [ih]
theorem c46 {s:List As} (hS:Sm s) {t:Ty} (hO:t.Ok):(aN AP).p 46 [t.pv,.aD (s.map As.pv)]=some [(t.sub s).pv]:=by
 revert hO
 refine Ty.eD (p:=fun t=>t.Ok→(aN AP).p 46 [t.pv,.aD (s.map As.pv)]=some [(t.sub s).pv]) ?_ t
 intro t ih hO
 rw [au (af:=g46) rfl rfl (by decide)]
 by_cases hk:t.kind=1
 · have h:=OM hS t _ 0 rfl (by omega)
   rw [g46L0e] at h
   simp at h
   cases hf:ki s t.id with
   | none=>
     rw [hf] at h
     simp [Iq,hk] at h
     simp [g46,hk,g46L0e,h,Ty.sub_eq,hf]
   | some a=>
     rw [hf] at h
     simp [Iq,hk] at h
     simp [g46,hk,g46L0e,h,Ty.sub_eq,hf]
 · have h:=ON (s:=s) hO.sm (fun x hx=>ih x hx (hO.fw x hx)) _ 0 rfl (by omega) [] (by simp)
   rw [g46L1e] at h
   simp at h
   simp [g46,hk,g46L1e,h,Ty.sub_eq]
end Go.Ab.Lw
namespace Go.Ab.Lw
open Ev
def bq (sh:Sh):Prop:=∀cs,some cs∈sh→∀v∈cs,∃p,v=AV.pv p
theorem rq {aW ts:aM}:∀{cs:List AV},(∀v∈cs,∃p,v=AV.pv p)→bL aW ts cs=(cs,aW,ts)
 | [],_=>rfl
 | v::r,h=>by
   obtain ⟨p,rfl⟩:=h v (by simp)
   simp only [qR,wM,rq (cs:=r) (fun v hv=>h v (by simp [hv]))]
theorem bq.norm:∀{sh:Sh},bq sh→∀aW ts,b_ aW ts sh=(sh,aW,ts)
 | [],_,_,_=>rfl
 | none::sh,h,aW,ts=>by
   simp only [qS,bq.norm (sh:=sh) (fun cs hc=>h cs (by simp [hc]))]
 | some cs::sh,h,aW,ts=>by
   simp only [qT,rq (h cs (by simp)),bq.norm (sh:=sh) (fun cs hc=>h cs (by simp [hc]))]
theorem ou {n:Nat}:∀{cs:List AV},(∀v∈cs,∃p,v=AV.pv p)→cs.map (cI n)=cs
 | [],_=>rfl
 | v::r,h=>by
   obtain ⟨p,rfl⟩:=h v (by simp)
   simp only [List.map_cons,s6,ou (cs:=r) (fun v hv=>h v (by simp [hv]))]
theorem bq.shift:∀{sh:Sh},bq sh→∀n,fK n sh=sh
 | [],_,_=>rfl
 | none::sh,h,n=>by
   simp only [pk,bq.shift (sh:=sh) (fun cs hc=>h cs (by simp [hc]))]
 | some cs::sh,h,n=>by
   simp only [pn,ou (h cs (by simp)),bq.shift (sh:=sh) (fun cs hc=>h cs (by simp [hc]))]
theorem bq.app {a b:Sh} (ha:bq a) (hb:bq b):bq (a++b):=by
 intro cs hc
 simp only [List.mem_append] at hc
 rcases hc with hc | hc
 · exact ha cs hc
 · exact hb cs hc
theorem bq.one {cs:List AV} (h:∀v∈cs,∃p,v=AV.pv p):bq [some cs]:=by
 intro cs' hc
 simp at hc
 subst hc
 exact h
def Ty.cl (t:Ty):List AV:=[.pv (vI t.kind),.pv (.str t.name),.pv (vI t.id),.pv (vI t.home),.pv (.aD (t.args.map Ty.pv))]
def Ql:List AV:=[.pv (vI 0),.pv (.str []),.pv (vI 0),.pv (vI 0),.pv (.aD [])]
def jj (d:List Ty) (m:Nat):List AV:=d.flatMap Ty.cl++(List.replicate m Ql).flatten
theorem Ir {d:List Ty}:(d.flatMap Ty.cl).length=d.length*5:=by
 induction d with
 | nil=>rfl
 | cons a r ih=>simp [ih,Ty.cl,Nat.add_mul]
theorem K0 {m:Nat}:((List.replicate m Ql).flatten).length=m*5:=by
 simp [Ql]
theorem xQ {d:List Ty} {m:Nat}:(jj d m).length=(d.length+m)*5:=by
 simp only [jj,List.length_append,Ir,K0,Nat.add_mul]
theorem uR {d:List Ty} {m:Nat}:∀v∈jj d m,∃p,v=AV.pv p:=by
 intro v hv
 simp only [jj,List.mem_append,List.mem_flatMap,List.mem_flatten,List.mem_replicate] at hv
 rcases hv with ⟨t,_,hv⟩ | ⟨l,⟨_,rfl⟩,hv⟩
 · simp [Ty.cl] at hv
   rcases hv with rfl | rfl | rfl | rfl | rfl<;>exact ⟨_,rfl⟩
 · simp [Ql] at hv
   rcases hv with rfl | rfl | rfl | rfl | rfl<;>exact ⟨_,rfl⟩
theorem db {l:List AV} (h:∀v∈l,∃p,v=.pv p):cR l=false:=by
 cases l with
 | nil=>rfl
 | cons c r=>obtain ⟨p,rfl⟩:=h c (by simp);rfl
@[simp] theorem N3 {d:List Ty} {m:Nat}:cR (jj d m)=false:=db uR
theorem Is {a b:List AV} {x y:List PV} (ha:fh a=some x) (hb:fh b=some y):fh (a++b)=some (x++y):=by
 induction a generalizing x with
 | nil=>simp at ha;subst ha;exact hb
 | cons v r ih=>
   simp only [oi] at ha
   simp only [List.cons_append,oi]
   cases h1:jC v with
   | none=>rw [h1] at ha;cases ha
   | some p=>
     cases h2:fh r with
     | none=>rw [h1,h2] at ha;cases ha
     | some q=>
       rw [h1,h2] at ha
       simp at ha
       subst ha
       rw [ih h2];rfl
theorem Iu:∀{d:List Ty},((fh (jj d 0)).bind (fm 5 true d.length)).map PV.aD=some (.aD (d.map Ty.pv)):=by
 have key:∀d:List Ty,∃ps,fh (d.flatMap Ty.cl)=some ps∧(chunk 5 d.length ps).map PV.agg=d.map Ty.pv:=by
   intro d
   induction d with
   | nil=>exact ⟨[],rfl,rfl⟩
   | cons t r ih=>
     obtain ⟨ps,h1,h2⟩:=ih
     refine ⟨[vI t.kind,.str t.name,vI t.id,vI t.home,.aD (t.args.map Ty.pv)]++ps,?_,?_⟩
     · rw [List.flatMap_cons]
       exact Is (by simp [Ty.cl]) h1
     · simp only [List.length_cons,chunk]
       simp [h2]
 intro d
 obtain ⟨ps,h1,h2⟩:=key d
 have:jj d 0=d.flatMap Ty.cl:=by simp [jj]
 rw [this,h1]
 simp only [Option.bind_some,fm,if_true,Option.map_some,h2]
end Go.Ab.Lw
namespace Go.Ab.Lw
open Ev
theorem c22 {s:List As} (hS:Sm s) {t:Ty} (hO:t.Ok):(aN AP).p 22 [.aD (s.map As.pv),t.pv]=some [(t.sub s).pv]:=by
 have h:=c46 hS hO
 simp at h
 rw [au (af:=g22) rfl rfl (by decide)]
 simp [g22,h]
end Go.Ab.Lw
namespace Go.Ab.Lw
open Ev
noncomputable instance:DecidableEq As:=fun _ _=>Classical.propDecidable _
theorem QV {as bs:List Ty} (hS:Sm as) (hl:as.length=bs.length) (h:∀x∈as,∀y,(aN AP).p 20 [x.pv,y.pv]=some [.bool (decide (x=y))]):∀(n i:Nat),as.length-i=n→i≤as.length →
   cl AP g57L0 ⟨[(0,.pv (.aD (as.map Ty.pv))),(1,.pv (.aD (bs.map Ty.pv))),(5,.pv (.int .i64 i))],[],[],[]⟩ =
     if as.drop i=bs.drop i then some (.exit 0,⟨[(0,.pv (.aD (as.map Ty.pv))),(1,.pv (.aD (bs.map Ty.pv))),(5,.pv (.int .i64 as.length)),(14,.pv (.bool false))],[],[],[]⟩)
     else some (.ret,⟨[(4,.pv (.bool false))],[],[],[]⟩)
 | 0,i,hn,hi=>by
   have:i=as.length:=by omega
   subst this
   rw [g57L0e]
   simp [g57B0,hl]
 | n+1,i,hn,hi=>by
   have hi:i<as.length:=by omega
   obtain ⟨x,hx⟩:=bn hi
   obtain ⟨y,hy⟩:=bn (hl ▸ hi)
   have hc:=h x (bo hx) y
   simp at hc
   rw [g57L0e,bC hx,bC hy]
   unfold Sm at hS
   have ih:=QV hS hl h n (i+1) (by omega) (by omega)
   simp at ih
   simp (disch:=omega) [-getElem?_pos,g57B0,hx,hy,hi,hc,aq,ih]
   by_cases e:x=y<;>simp [e]
theorem c57 {as bs:List Ty} (hS:Sm as) (h:∀x∈as,∀y,(aN AP).p 20 [x.pv,y.pv]=some [.bool (decide (x=y))]) :
   (aN AP).p 57 [.aD (as.map Ty.pv),.aD (bs.map Ty.pv)]=some [.bool (decide (as=bs))]:=by
 rw [au (af:=g57) rfl rfl (by decide)]
 by_cases hl:as.length=bs.length
 · have hL:=QV hS hl h _ 0 rfl (by omega)
   simp at hL
   simp [g57,hl,hL]
   by_cases e:as=bs<;>simp [e]
 · have:¬as=bs:=fun e=>hl (by rw [e])
   simp [g57,hl,this]
   omega
theorem c20 {a b:Ty} (hO:a.Ok):(aN AP).p 20 [a.pv,b.pv]=some [.bool (decide (a=b))]:=by
 revert b hO
 refine Ty.eD (p:=fun a=>∀{b:Ty},a.Ok→(aN AP).p 20 [a.pv,b.pv]=some [.bool (decide (a=b))]) ?_ a
 intro a ih b hO
 have h:=c57 (bs:=b.args) hO.sm (fun x hx y=>ih x hx (hO.fw x hx))
 rw [au (af:=g20) rfl rfl (by decide)]
 simp [g20,h]
 cases a;cases b
 simp
 (repeat' split)<;>simp_all
end Go.Ab.Lw
namespace Go.Ab.Lw
open Ev
theorem lD:∀{s:List As} {id:Int} {t:Ty},ki s id=some t→∃a∈s,a.ty=t
 | a::r,id,t,h=>by
   simp only [ki] at h
   split at h
   · cases h;exact ⟨a,by simp,rfl⟩
   · obtain ⟨b,hb,e⟩:=lD h;exact ⟨b,by simp [hb],e⟩
theorem BA {s:List As} (hs:∀a∈s,a.ty.Ok) {t:Ty} (h:t.Ok):(t.sub s).Ok:=by
 revert h
 refine Ty.eD (p:=fun t=>t.Ok→(t.sub s).Ok) ?_ t
 intro t ih h
 rw [Ty.sub_eq]
 split
 · cases hf:ki s t.id with
   | none=>simpa using h
   | some a=>obtain ⟨b,hb,rfl⟩:=lD hf;simpa using hs b hb
 · refine ⟨by have:=h.sm;unfold Sm at *;simpa using this,?_⟩
   intro x hx
   simp at hx
   obtain ⟨y,hy,rfl⟩:=hx
   exact ih y hy (h.fw y hy)
theorem uS:∀{a b:List As} {id:Int},ki (a++b) id=(ki a id).or (ki b id)
 | [],b,id=>by simp [ki]
 | x::a,b,id=>by
   simp only [List.cons_append,ki]
   split
   · rfl
   · exact uS
end Go.Ab.Lw
namespace Go.Ab.Lw
open Ev
def cX {α:Type} (p:α→Bool):List α→Option Nat
 | []=>none
 | a::r=>if p a=true then some 0 else (cX p r).map (·+1)
theorem lE {α:Type} {p:α→Bool}:∀{l:List α},cX p l=none↔∀x∈l,p x=false
 | []=>by simp [cX]
 | a::r=>by
   simp only [cX]
   by_cases h:p a=true
   · simp [h]
   · have h:p a=false:=by simpa using h
     simp [h,lE]
end Go.Ab.Lw
namespace Go.Ab.Lw
open Ev
structure El {α:Type} (f:α→PV) (sz:Nat) (ag:Bool):Prop where
 len:∀x,(bz (f x)).length=sz
 of:∀x,cS ag sz (bz (f x))=some (.pv (f x))
theorem El.head {α:Type} {f:α→PV} {sz:Nat} {ag:Bool} (h:El f sz ag) (l:List α):bI sz (l.map f)=true:=by
 cases l with
 | nil=>rfl
 | cons x r=>simp [bI,h.len x]
theorem kO:El vI 1 false:=⟨fun _=>rfl,fun _=>rfl⟩
theorem Iv:El PV.str 1 false:=⟨fun _=>rfl,fun _=>rfl⟩
theorem Cl:El Ty.pv 5 true:=⟨fun x=>by simp,fun x=>by simp⟩
theorem Iw:El Dt.pv 4 true:=⟨fun x=>by simp,fun x=>by simp⟩
def Ix (sz:Nat) (ag:Bool):aw:=
 (.seq
  (.ae [⟨some 9,none,[.t 8,.t 7],.v (.bin .lss)⟩] [0,1,7,8,9])
  (.seq
   (.cond (.t 9)
    .skip
    (.exit 0))
   (.seq
    (.block 1
     (.seq
      (.ae [⟨some 10,none,[.t 8],.v (.mv)⟩,
        ⟨some 5,none,[.t 10],.v (.mv)⟩] [0,1,5,7,8])
      (.seq
       (.ae [⟨some 11,none,[.t 1],.v (.mv)⟩,
         ⟨some 12,none,[.t 0],.v (.mv)⟩,
         ⟨some 13,none,[.t 5],.v (.mv)⟩,
         ⟨some 14,none,[.t 12,.t 13],.v (.aC sz)⟩,
         ⟨some 15,none,[.t 14],.a6 sz ag⟩,
         ⟨some 16,none,[.t 11,.t 15],.ff⟩] [0,1,5,7,8,16])
       (.cond (.t 16)
        (.seq
         (.ae [⟨some 17,none,[.t 5],.v (.mv)⟩,
           ⟨some 4,none,[.t 17],.v (.mv)⟩] [4])
         .ret)
        .skip))))
    (.ae [⟨some 18,none,[.t 8,.c (.pv (.int .i64 1))],.v (.bin .add)⟩,
      ⟨some 8,none,[.t 18],.v (.mv)⟩] [0,1,7,8]))))
def K1 (sz:Nat) (ag:Bool):aw:=.loop [0,1,7,8] (Ix sz ag)
theorem Cm {sz:Nat} {ag:Bool} {st:St}:cl AP (K1 sz ag) st=after (cl AP (K1 sz ag)) (cl AP (Ix sz ag) (norm (restrict [0,1,7,8] st))):=aG
def K2 (sz:Nat) (ag:Bool):aJ:=⟨2,19,[.t 4],
 (.seq
  (.ae [⟨some 4,none,[.c (.pv (.int .i64 0))],.v (.mv)⟩] [0,1])
  (.seq
   (.seq
    (.ae [⟨some 6,none,[.t 0],.v (.mv)⟩,
      ⟨some 7,none,[.t 6],.v (.len)⟩,
      ⟨some 8,none,[.c (.pv (.int .i64 0))],.v (.mv)⟩] [0,1,7,8])
    (.block 0
     (K1 sz ag)))
   (.seq
    (.ae [⟨some 4,none,[.c (.pv (.int .i64 (-1)))],.v (.mv)⟩] [4])
    .ret))),none,false⟩
def Nl {α:Type} (F:AV) (sh:Sh) (f:α→PV) (p:α→Bool) (s:List α):Prop:=∀x∈s,exec (aN AP) .ff [F,.pv (f x)] none sh []=some ⟨.pv (.bool (p x)),none,sh,[]⟩
def FC {α:Type} (f:α→PV) (F:AV) (s:List α) (sh:Sh) (i:Nat):Option Nat→Option (bf×St)
 | some k=>some (.ret,⟨[(4,.pv (vI (i+k:Nat)))],[],sh,[]⟩)
 | none=>some (.exit 0,⟨[(0,.pv (.aD (s.map f))),(1,F),(7,.pv (vI s.length)),(8,.pv (vI s.length)),(9,.pv (.bool false))],[],sh,[]⟩)
theorem OO {α:Type} {f:α→PV} {sz:Nat} {ag:Bool} (he:El f sz ag) {s:List α} (hS:Sm s) {sh:Sh} (hq:bq sh) {g:Nat} {cap:List AV} {p:α→Bool} (hcap:bK.dX cap=true)
   (hf:Nl (.fn g cap) sh f p s):∀(n i:Nat),s.length-i=n→i≤s.length →
   cl AP (K1 sz ag) ⟨[(0,.pv (.aD (s.map f))),(1,.fn g cap),(7,.pv (vI s.length)),(8,.pv (vI i))],[],sh,[]⟩=FC f (.fn g cap) s sh i (cX p (s.drop i))
 | 0,i,hn,hi=>by
   have:i=s.length:=by omega
   subst this
   rw [Cm]
   simp [Ix,cX,FC,hq.norm,hcap]
 | n+1,i,hn,hi=>by
   have hi:i<s.length:=by omega
   obtain ⟨x,hx⟩:=bn hi
   unfold Sm at hS
   have ih:=OO he hS hq hcap hf n (i+1) (by omega) (by omega)
   simp at ih
   have hc:=hf x (bo hx)
   rw [Cm,bC hx]
   cases e:p x with
   | true=>
     rw [e] at hc
     simp (disch:=omega) [-getElem?_pos,-iR,Ix,hx,hi,e,cX,FC,hq.norm,hc,hcap,he.len,he.of]
   | false=>
     rw [e] at hc
     simp (disch:=omega) [-getElem?_pos,-iR,Ix,hx,hi,e,cX,aq,hq.norm,hc,ih,hcap,he.len,he.of]
     cases cX p (s.drop (i+1)) with
     | none=>rfl
     | some k=>simp [FC];omega
def nq (o:Option Nat):Int:=match o with | some k=>k | none=>-1
theorem Qy {α:Type} {f:α→PV} {sz:Nat} {ag:Bool} (he:El f sz ag) {k:Nat} (hk:AP k=some (K2 sz ag)) {s:List α} (hS:Sm s) {sh:Sh} (hq:bq sh) {g:Nat} {cap:List AV} {p:α→Bool} (hcap:bK.dX cap=true)
   (hf:Nl (.fn g cap) sh f p s):(aN AP).i k [.pv (.aD (s.map f)),.fn g cap] sh []=some ([.pv (vI (nq (cX p s)))],sh,[]):=by
 have h:=OO he hS hq hcap hf _ 0 rfl (by omega)
 simp at h
 rw [aR hk (by simp [K2])]
 cases hi:cX p s with
 | none=>rw [hi] at h;simp [FC] at h;simp [K2,h,hq.norm,hcap,nq]
 | some k=>rw [hi] at h;simp [FC] at h;simp [K2,h,hq.norm,hcap,nq]
theorem xR {α:Type} {p:α→Bool} {s:List α}:decide (0≤nq (cX p s))=s.any p:=by
 cases hi:cX p s with
 | none=>
   have:s.any p=false:=by rw [List.any_eq_false];intro x hx;rw [lE.1 hi x hx];simp
   rw [this];rfl
 | some k=>
   have:s.any p=true:=by
     cases e:s.any p with
     | true=>rfl
     | false=>rw [List.any_eq_false] at e;have:=lE.2 (fun x hx=>by simpa using e x hx);rw [hi] at this;cases this
   rw [this];simp [nq]
end Go.Ab.Lw
namespace Go.Ab.Lw
open Ev
def BB (f:St→Option (bf×St)) (live:List Nat) (pi px sz:Nat) (ag:Bool) (env:List (Nat×AV)) (r:List (PV×Nat)):Option (bf×St)→Option (bf×St)
 | some (.normal,st')=>iC f live pi px sz ag env r st'
 | some (e,st')=>some (e,{ st' with env:=env })
 | none=>none
@[simp] theorem JB {f:St→Option (bf×St)} {live:List Nat} {pi px sz:Nat} {ag:Bool} {env:List (Nat×AV)} {r:List (PV×Nat)} {st:St}:BB f live pi px sz ag env r (some (.normal,st))=iC f live pi px sz ag env r st:=rfl
@[simp] theorem Nn {f:St→Option (bf×St)} {live:List Nat} {pi px sz:Nat} {ag:Bool} {env e:List (Nat×AV)} {r:List (PV×Nat)} {mem:List (Nat×List AV)} {sh:Sh} {ah:aM}:BB f live pi px sz ag env r (some (.ret,⟨e,mem,sh,ah⟩))=some (.ret,⟨env,mem,sh,ah⟩):=rfl
@[simp] theorem LR {f:St→Option (bf×St)} {live:List Nat} {pi px sz:Nat} {ag:Bool} {env e:List (Nat×AV)} {r:List (PV×Nat)} {mem:List (Nat×List AV)} {sh:Sh} {ah:aM} {id:Nat}:BB f live pi px sz ag env r (some (.exit id,⟨e,mem,sh,ah⟩))=some (.exit id,⟨env,mem,sh,ah⟩):=rfl
@[simp] theorem N4 {f:St→Option (bf×St)} {live:List Nat} {pi px sz:Nat} {ag:Bool} {env e:List (Nat×AV)} {mem:List (Nat×List AV)} {sh:Sh} {ah:aM}:iC f live pi px sz ag env [] ⟨e,mem,sh,ah⟩=some (.normal,⟨env,mem,sh,ah⟩):=rfl
def Qz (g:St→Option (bf×St)):Option (bf×St)→Option (bf×St)
 | some (.normal,st')=>g st'
 | _=>none
@[simp] theorem LS {g:St→Option (bf×St)} {st:St}:Qz g (some (.normal,st))=g st:=rfl
end Go.Ab.Lw
namespace Go.Ab.Lw
open Ev
inductive Ty.Nm:Ty→Prop
 | mk {t:Ty}:Ra t.name→(∀x∈t.args,Ty.Nm x)→Ty.Nm t
end Go.Ab.Lw
namespace Go.Ab.Lw
open Ev
abbrev Sc:=As
structure En where
 name:List UInt8
 sc:Sc
 deriving Inhabited
def En.pv (a:En):PV:=.agg [.str a.name,.int .i64 a.sc.id,.int .i64 a.sc.ty.kind,.str a.sc.ty.name,.int .i64 a.sc.ty.id,.int .i64 a.sc.ty.home,.aD (a.sc.ty.args.map Ty.pv)]
@[simp] theorem En.kN (a:En):a.pv=.agg [.str a.name,.int .i64 a.sc.id,.int .i64 a.sc.ty.kind,.str a.sc.ty.name,.int .i64 a.sc.ty.id,.int .i64 a.sc.ty.home,.aD (a.sc.ty.args.map Ty.pv)]:=rfl
@[simp] theorem En.eta (t:En):En.mk t.name t.sc=t:=rfl
theorem OP:El En.pv 7 true:=⟨fun x=>by simp,fun x=>by simp⟩
noncomputable instance:DecidableEq En:=fun _ _=>Classical.propDecidable _
@[simp] theorem N5 {l:List En}:bI 7 (l.map En.pv)=true:=OP.head l
def mA:Sc:=⟨0,⟨0,[],0,0,[]⟩⟩
def Cn:List En→List UInt8→Option Sc
 | [],_=>none
 | a::r,s=>match Cn r s with
   | some c=>some c
   | none=>if a.name=s then some a.sc else none
theorem Iy (l:List En) (a:En) (s:List UInt8):Cn (l++[a]) s=if a.name=s then some a.sc else Cn l s:=by
 induction l with
 | nil=>simp [Cn]
 | cons b r ih=>
   simp only [List.cons_append,Cn,ih]
   by_cases h:a.name=s
   · simp [h]
   · simp [h]
def K3 (o:Option Sc):List PV:=[(o.getD mA).pv,.bool o.isSome]
theorem OQ {l:List En} (hS:Sm l) {s:List UInt8}:∀(k:Nat),k≤l.length →
   cl AP g181L0 ⟨[(0,.pv (.aD (l.map En.pv))),(1,.pv (.str s)),(4,.az 4 0),(6,.pv (vI ((k:Int)-1)))],[(4,[.pv (vI 0),.pv (vI 0),.pv (.str []),.pv (vI 0),.pv (vI 0),.own [] 0])],[],[0]⟩ =
     match Cn (l.take k) s with
     | some c=>some (.ret,⟨[(4,.az 4 0),(5,.pv (.bool true))],[(4,[.pv (vI c.id),.pv (vI c.ty.kind),.pv (.str c.ty.name),.pv (vI c.ty.id),.pv (vI c.ty.home),.pv (.aD (c.ty.args.map Ty.pv))])],[],[0]⟩)
     | none=>some (.exit 0,⟨[(0,.pv (.aD (l.map En.pv))),(1,.pv (.str s)),(4,.az 4 0),(6,.pv (vI (-1))),(11,.pv (.bool false))],[(4,[.pv (vI 0),.pv (vI 0),.pv (.str []),.pv (vI 0),.pv (vI 0),.own [] 0])],[],[0]⟩)
 | 0,_=>by
   rw [g181L0e]
   simp [g181B0,Cn]
 | k+1,hk=>by
   obtain ⟨x,hx⟩:=bn (l:=l) (i:=k) (by omega)
   have ih:=OQ hS (s:=s) k (by omega)
   unfold Sm at hS
   have e1:((k+1:Nat):Int)-1=k:=by omega
   rw [g181L0e,e1,List.take_add_one,hx]
   simp only [Option.toList_some,Iy]
   by_cases e:x.name=s
   · simp (disch:=omega) [-getElem?_pos,g181B0,hx,e]
   · simp (disch:=omega) [-getElem?_pos,g181B0,hx,e,aq]
     simpa using ih
theorem c181 {l:List En} (hS:Sm l) {s:List UInt8}:(aN AP).p 181 [.aD (l.map En.pv),.str s]=some (K3 (Cn l s)):=by
 have h:=OQ hS (s:=s) l.length (Nat.le_refl _)
 unfold Sm at hS
 rw [au (af:=g181) rfl rfl (by decide)]
 rw [List.take_length] at h
 rw [g181L0e] at h
 cases e:Cn l s with
 | none=>
   rw [e] at h
   simp at h
   simp (disch:=omega) [g181,aq,g181L0e,h,K3,mA]
 | some c=>
   rw [e] at h
   simp at h
   simp (disch:=omega) [g181,aq,g181L0e,h,K3]
end Go.Ab.Lw
namespace Go.Ab.Lw
open Ev
structure N6 {α:Type} (f:α→PV) (cs:α→List PV) (sz:Nat):Prop where
 eq:∀x,f x=.agg (cs x)
 len:∀x,(cs x).length=sz
 leaf:∀x,((cs x).map AV.pv).all bm=true
def OR (z1 z2:List PV) (s1 s2:Nat):aw:=
 (.seq
  (.ae [⟨some 18,none,[.t 17,.t 16],.v (.bin .lss)⟩] [1,2,15,16,17,18])
  (.seq
   (.cond (.t 18)
    .skip
    (.exit 0))
   (.seq
    (.block 1
     (.seq
      (.ae [⟨some 19,none,[.t 17],.v (.mv)⟩,
        ⟨some 20,none,[.t 15,.t 17],.v (.aC s1)⟩,
        ⟨some 21,none,[.t 20],.a6 s1 true⟩,
        ⟨some 8,none,[],.alloc 8 z1⟩,
        ⟨some 7,none,[.t 19],.v (.mv)⟩,
        ⟨none,none,[.t 8,.t 21],.dc 8 0 s1⟩] [1,2,7,8,15,16,17])
      (.seq
       (.ae [⟨some 22,none,[.t 1],.v (.mv)⟩,
         ⟨some 23,none,[.t 7],.v (.mv)⟩,
         ⟨some 24,none,[.t 22,.t 23],.v (.aC s2)⟩,
         ⟨some 25,none,[.t 24],.a6 s2 true⟩,
         ⟨some 9,none,[],.alloc 9 z2⟩,
         ⟨none,none,[.t 9,.t 25],.dc 9 0 s2⟩] [1,2,8,9,15,16,17])
       (.seq
        (.ae [⟨some 26,none,[.t 2],.v (.mv)⟩,
          ⟨some 27,none,[.t 8],.bl 8 0 s1 true⟩,
          ⟨some 28,none,[.t 9],.bl 9 0 s2 true⟩,
          ⟨some 29,none,[.t 26,.t 27,.t 28],.ff⟩,
          ⟨some 30,none,[.t 29],.v (.un .not)⟩] [1,2,15,16,17,30])
        (.cond (.t 30)
         (.seq
          (.ae [⟨some 6,none,[.c (.pv (.bool false))],.v (.mv)⟩] [6])
          .ret)
         .skip)))))
    (.ae [⟨some 31,none,[.t 17,.c (.pv (.int .i64 1))],.v (.bin .add)⟩,
      ⟨some 17,none,[.t 31],.v (.mv)⟩] [1,2,15,16,17]))))
def Qm (z1 z2:List PV) (s1 s2:Nat):aw:=.loop [1,2,15,16,17] (OR z1 z2 s1 s2)
theorem Iz {z1 z2:List PV} {s1 s2:Nat} {st:St}:cl AP (Qm z1 z2 s1 s2) st=after (cl AP (Qm z1 z2 s1 s2)) (cl AP (OR z1 z2 s1 s2) (norm (restrict [1,2,15,16,17] st))):=aG
def OS (z1 z2:List PV) (s1 s2:Nat):aJ:=⟨3,32,[.t 6],
 (.seq
  (.ae [⟨some 6,none,[.c (.pv (.bool false))],.v (.mv)⟩] [0,1,2])
  (.seq
   (.seq
    (.ae [⟨some 10,none,[.t 0],.v (.mv)⟩,
      ⟨some 11,none,[.t 10],.v (.len)⟩,
      ⟨some 12,none,[.t 1],.v (.mv)⟩,
      ⟨some 13,none,[.t 12],.v (.len)⟩,
      ⟨some 14,none,[.t 11,.t 13],.v (.bin .neq)⟩] [0,1,2,14])
    (.cond (.t 14)
     (.seq
      (.ae [⟨some 6,none,[.c (.pv (.bool false))],.v (.mv)⟩] [6])
      .ret)
     .skip))
   (.seq
    (.seq
     (.ae [⟨some 15,none,[.t 0],.v (.mv)⟩,
       ⟨some 16,none,[.t 15],.v (.len)⟩,
       ⟨some 17,none,[.c (.pv (.int .i64 0))],.v (.mv)⟩] [1,2,15,16,17])
     (.block 0
      (Qm z1 z2 s1 s2)))
    (.seq
     (.ae [⟨some 6,none,[.c (.pv (.bool true))],.v (.mv)⟩] [6])
     .ret)))),none,false⟩
def IA {α β:Type} (F:AV) (sh:Sh) (c:α→List PV) (d:β→List PV) (p:α→β→Bool) (s:List α):Prop:=
 ∀x∈s,∀y,exec (aN AP) .ff [F,.agg ((c x).map .pv),.agg ((d y).map .pv)] none sh []=some ⟨.pv (.bool (p x y)),none,sh,[]⟩
def kj {α β:Type} (p:α→β→Bool):List α→List β→Bool
 | [],[]=>true
 | x::r,y::t=>p x y && kj p r t
 | _,_=>false
theorem xS {α β:Type} {p:α→β→Bool}:∀{a:List α} {b:List β},kj p a b=true→a.length=b.length
 | [],[],_=>rfl
 | x::r,y::t,h=>by simp only [kj,Bool.and_eq_true] at h;simp [xS h.2]
 | [],_::_,h=>by simp [kj] at h
 | _::_,[],h=>by simp [kj] at h
def OT {α β:Type} (f:α→PV) (g:β→PV) (F:AV) (a:List α) (b:List β) (sh:Sh) (t:Bool):Option (bf×St):=
 if t=true then some (.exit 0,⟨[(1,.pv (.aD (b.map g))),(2,F),(15,.pv (.aD (a.map f))),(16,.pv (vI a.length)),(17,.pv (vI a.length)),(18,.pv (.bool false))],[],sh,[]⟩)
 else some (.ret,⟨[(6,.pv (.bool false))],[],sh,[]⟩)
theorem QW {α β:Type} {f:α→PV} {g:β→PV} {c:α→List PV} {d:β→List PV} {s1 s2:Nat} (hf:N6 f c s1) (hg:N6 g d s2) {z1 z2:List PV} (h1:z1.length=s1) (h2:z2.length=s2) {a:List α} {b:List β} (hS:Sm a) (hl:a.length=b.length)
   {sh:Sh} (hq:bq sh) {k:Nat} {cap:List AV} {p:α→β→Bool} (hcap:bK.dX cap=true) (hp:IA (.fn k cap) sh c d p a):∀(n i:Nat),a.length-i=n→i≤a.length →
   cl AP (Qm z1 z2 s1 s2) ⟨[(1,.pv (.aD (b.map g))),(2,.fn k cap),(15,.pv (.aD (a.map f))),(16,.pv (vI a.length)),(17,.pv (vI i))],[],sh,[]⟩=OT f g (.fn k cap) a b sh (kj p (a.drop i) (b.drop i))
 | 0,i,hn,hi=>by
   have:i=a.length:=by omega
   subst this
   rw [Iz,rp (l:=b) (by omega),rp (l:=a) (by omega)]
   simp [OR,OT,kj,hq.norm,hcap]
 | n+1,i,hn,hi=>by
   have hi:i<a.length:=by omega
   obtain ⟨x,hx⟩:=bn hi
   obtain ⟨y,hy⟩:=bn (hl ▸ hi)
   unfold Sm at hS
   have ih:=QW hf hg h1 h2 hS hl hq hcap hp n (i+1) (by omega) (by omega)
   simp at ih
   have hc:=hp x (bo hx) y
   rw [Iz,bC hx,bC hy]
   have u1:=hf.len x
   have u2:=hg.len y
   have e1:(z1.map bP.zeroCell).drop s1=[]:=by rw [List.drop_eq_nil_of_le];simp [h1]
   have e2:(z2.map bP.zeroCell).drop s2=[]:=by rw [List.drop_eq_nil_of_le];simp [h2]
   have t1:((c x).map AV.pv).take s1=(c x).map AV.pv:=by rw [List.take_of_length_le];simp [u1]
   have t2:((d y).map AV.pv).take s2=(d y).map AV.pv:=by rw [List.take_of_length_le];simp [u2]
   have q1:(c x).take s1=c x:=by rw [List.take_of_length_le];omega
   have q2:(d y).take s2=d y:=by rw [List.take_of_length_le];omega
   have w1:=hf.leaf x
   have w2:=hg.leaf y
   cases e:p x y with
   | true=>
     rw [e] at hc
     simp (disch:=omega) [-getElem?_pos,-iR,-List.all_map,-List.map_take,-List.map_drop,-List.map_eq_nil_iff,OR,hx,hy,hi,e,kj,aq,hq.norm,hc,ih,hcap,hf.eq,hg.eq,u1,u2,h1,h2,e1,e2,t1,t2,q1,q2,w1,w2]
   | false=>
     rw [e] at hc
     simp (disch:=omega) [-getElem?_pos,-iR,-List.all_map,-List.map_take,-List.map_drop,-List.map_eq_nil_iff,OR,hx,hy,hi,e,kj,OT,hq.norm,hc,hcap,hf.eq,hg.eq,u1,u2,h1,h2,e1,e2,t1,t2,q1,q2,w1,w2]
theorem Rb {α β:Type} {f:α→PV} {g:β→PV} {c:α→List PV} {d:β→List PV} {s1 s2:Nat} (hf:N6 f c s1) (hg:N6 g d s2) {z1 z2:List PV} (h1:z1.length=s1) (h2:z2.length=s2) {m:Nat} (hm:AP m=some (OS z1 z2 s1 s2)) {a:List α} {b:List β} (hS:Sm a)
   {sh:Sh} (hq:bq sh) {k:Nat} {cap:List AV} {p:α→β→Bool} (hcap:bK.dX cap=true) (hp:IA (.fn k cap) sh c d p a) :
   (aN AP).i m [.pv (.aD (a.map f)),.pv (.aD (b.map g)),.fn k cap] sh []=some ([.pv (.bool (kj p a b))],sh,[]):=by
 rw [aR hm (by simp [OS])]
 by_cases hl:a.length=b.length
 · have h:=QW hf hg h1 h2 hS hl hq hcap hp _ 0 rfl (by omega)
   simp at h
   cases e:kj p a b with
   | true=>rw [e] at h;simp [OT] at h;simp [OS,h,hq.norm,hcap,hl.symm]
   | false=>rw [e] at h;simp [OT] at h;simp [OS,h,hq.norm,hcap,hl.symm]
 · have e:kj p a b=false:=by
     cases e:kj p a b with
     | true=>exact absurd (xS e) hl
     | false=>rfl
   simp [OS,hq.norm,hcap,hl,e]
   omega
end Go.Ab.Lw
namespace Go.Ab.Lw
section
variable {P:Program} {n:Nat} {t e:TypeId} {p:PV}
theorem pX (hu:P.underlying t=some (.int .i64)) (h:ta P n t p):∃i,p=vI i:=by
 cases n with
 | zero=>simp [ta] at h
 | succ n=>simp only [ta,hu] at h;obtain ⟨i,rfl,_⟩:=h;exact ⟨i,rfl⟩
theorem IB {α:Type} {f:α→PV} (hu:P.underlying t=some (.slice e)) (he:∀(m:Nat) (q:PV),ta P m e q→∃x,q=f x) (h:ta P n t p):∃l:List α,p=.aD (l.map f):=by
 cases n with
 | zero=>simp [ta] at h
 | succ n=>
   simp only [ta,hu] at h
   obtain ⟨els,rfl,_,h⟩:=h
   have key:∀els:List PV,(∀q∈els,ta P n e q)→∃l:List α,els=l.map f:=by
     intro els
     induction els with
     | nil=>intro _;exact ⟨[],rfl⟩
     | cons q r ih=>
       intro h
       obtain ⟨x,rfl⟩:=he n q (h q (by simp))
       obtain ⟨l,rfl⟩:=ih (fun q hq=>h q (by simp [hq]))
       exact ⟨x::l,rfl⟩
   obtain ⟨l,rfl⟩:=key els h
   exact ⟨l,rfl⟩
theorem IC (hu:P.underlying t=some (.slice e)) (he:P.underlying e=some (.int .i64)) (h:ta P n t p):∃L:List Int,p=.aD (L.map vI):=
 IB hu (fun _ _ h=>pX he h) h
end
end Go.Ab.Lw
namespace Go.Ab.Lw
open Ev
def nr (s:List UInt8):Ty:=⟨5,s,0,0,[]⟩
theorem c106 {s:List UInt8}:(aN AP).p 106 [.str s]=some [(nr s).pv]:=by
 rw [au (af:=g106) rfl rfl (by decide)]
 simp [g106,nr]
def kP:List Ty:=[nr [97],nr [98],nr [99]]
theorem c67:(aN AP).p 67 []=some [.aD (kP.map Ty.pv)]:=by
 have h1:=c106 (s:=[97]);have h2:=c106 (s:=[98]);have h3:=c106 (s:=[99])
 simp at h1 h2 h3
 rw [au (af:=g67) rfl rfl (by decide)]
 simp [g67,h1,h2,h3,kP]
end Go.Ab.Lw
namespace Go.Ab.Lw
open Ev
def OU:aw:=
 (.seq
  (.ae [⟨some 9,none,[.t 8,.t 7],.v (.bin .lss)⟩] [0,1,7,8,9])
  (.seq
   (.cond (.t 9)
    .skip
    (.exit 0))
   (.seq
    (.block 1
     (.seq
      (.ae [⟨some 10,none,[.t 8],.v (.mv)⟩,
        ⟨some 5,none,[.t 10],.v (.mv)⟩] [0,1,5,7,8])
      (.seq
       (.ae [⟨some 11,none,[.t 1],.v (.mv)⟩,
         ⟨some 12,none,[.t 0],.v (.mv)⟩,
         ⟨some 13,none,[.t 5],.v (.mv)⟩,
         ⟨some 14,none,[.t 12,.t 13],.v (.aC 1)⟩,
         ⟨some 15,none,[.t 14],.v (.aK 1 false)⟩,
         ⟨some 16,none,[.t 11,.t 15],.v (.bin .eql)⟩] [0,1,5,7,8,16])
       (.cond (.t 16)
        (.seq
         (.ae [⟨some 17,none,[.t 5],.v (.mv)⟩,
           ⟨some 4,none,[.t 17],.v (.mv)⟩] [4])
         .ret)
        .skip))))
    (.ae [⟨some 18,none,[.t 8,.c (.pv (.int .i64 1))],.v (.bin .add)⟩,
      ⟨some 8,none,[.t 18],.v (.mv)⟩] [0,1,7,8]))))
def Qn:aw:=.loop [0,1,7,8] OU
theorem ID {st:St}:cl AP Qn st=after (cl AP Qn) (cl AP OU (norm (restrict [0,1,7,8] st))):=aG
def OV:aJ:=⟨2,19,[.t 4],
 (.seq
  (.ae [⟨some 4,none,[.c (.pv (.int .i64 0))],.v (.mv)⟩] [0,1])
  (.seq
   (.seq
    (.ae [⟨some 6,none,[.t 0],.v (.mv)⟩,
      ⟨some 7,none,[.t 6],.v (.len)⟩,
      ⟨some 8,none,[.c (.pv (.int .i64 0))],.v (.mv)⟩] [0,1,7,8])
    (.block 0
     Qn))
   (.seq
    (.ae [⟨some 4,none,[.c (.pv (.int .i64 (-1)))],.v (.mv)⟩] [4])
    .ret))),none,false⟩
def QA (g:Nat):aJ:=⟨2,9,[.t 4],
 (.seq
  (.ae [⟨some 4,none,[.c (.pv (.bool false))],.v (.mv)⟩] [0,1])
  (.seq
   (.ae [⟨some 5,none,[.t 0],.v (.mv)⟩,
     ⟨some 6,none,[.t 1],.v (.mv)⟩,
     ⟨some 7,none,[.t 5,.t 6],.aA g⟩,
     ⟨some 8,none,[.t 7,.c (.pv (.int .i64 0))],.v (.bin .geq)⟩,
     ⟨some 4,none,[.t 8],.v (.mv)⟩] [4])
   .ret)),none,false⟩
structure OW {α:Type} [DecidableEq α] (f:α→PV):Prop where
 el:El f 1 false
 eq:∀x y,bP (.bin .eql) [.pv (f x),.pv (f y)]=some (.pv (.bool (decide (x=y))))
theorem eqs_int:OW vI:=⟨kO,fun x y=>by simp;rw [Bool.eq_iff_iff];simp⟩
theorem K4:OW PV.str:=⟨Iv,fun x y=>by simp;rw [Bool.eq_iff_iff];simp⟩
def N7 {α:Type} (f:α→PV) (s:List α) (y:α) (i:Nat):Option Nat→Option (bf×St)
 | some k=>some (.ret,⟨[(4,.pv (vI (i+k:Nat)))],[],[],[]⟩)
 | none=>some (.exit 0,⟨[(0,.pv (.aD (s.map f))),(1,.pv (f y)),(7,.pv (vI s.length)),(8,.pv (vI s.length)),(9,.pv (.bool false))],[],[],[]⟩)
theorem QX {α:Type} [DecidableEq α] {f:α→PV} (he:OW f) {s:List α} (hS:Sm s) (y:α):∀(n i:Nat),s.length-i=n→i≤s.length →
   cl AP Qn ⟨[(0,.pv (.aD (s.map f))),(1,.pv (f y)),(7,.pv (vI s.length)),(8,.pv (vI i))],[],[],[]⟩=N7 f s y i (cX (fun x=>decide (y=x)) (s.drop i))
 | 0,i,hn,hi=>by
   have:i=s.length:=by omega
   subst this
   rw [ID]
   simp [OU,cX,N7]
 | n+1,i,hn,hi=>by
   have hi:i<s.length:=by omega
   obtain ⟨x,hx⟩:=bn hi
   unfold Sm at hS
   have ih:=QX he hS y n (i+1) (by omega) (by omega)
   simp at ih
   have h1:=he.el.len x
   have h2:=he.el.of x
   have h3:=he.eq y x
   rw [ID,bC hx]
   by_cases e:y=x
   · rw [decide_eq_true e] at h3
     simp (disch:=omega) [-getElem?_pos,OU,hx,hi,e,cX,N7,h1,h2]
     rw [←e] at h3 ⊢
     simp [h3]
   · rw [decide_eq_false e] at h3
     simp (disch:=omega) [-getElem?_pos,OU,hx,hi,e,cX,aq,ih,h1,h2,h3]
     cases cX (fun x=>decide (y=x)) (s.drop (i+1)) with
     | none=>rfl
     | some k=>simp [N7];omega
theorem Rc {α:Type} [DecidableEq α] {f:α→PV} (he:OW f) {k:Nat} (hk:AP k=some OV) {s:List α} (hS:Sm s) {y:α}:(aN AP).p k [.aD (s.map f),f y]=some [vI (nq (cX (fun x=>decide (y=x)) s))]:=by
 have h:=QX he hS y _ 0 rfl (by omega)
 simp at h
 rw [au hk rfl (by simp [OV])]
 cases hi:cX (fun x=>decide (y=x)) s with
 | none=>rw [hi] at h;simp [N7] at h;simp [OV,h,nq]
 | some k=>rw [hi] at h;simp [N7] at h;simp [OV,h,nq]
theorem K5 {α:Type} [DecidableEq α] {s:List α} {y:α}:(s.any fun x=>decide (y=x))=decide (y∈s):=by
 rw [Bool.eq_iff_iff];simp
theorem QY {α:Type} [DecidableEq α] {f:α→PV} (he:OW f) {m k:Nat} (hm:AP m=some (QA k)) (hk:AP k=some OV) {s:List α} (hS:Sm s) {y:α}:(aN AP).p m [.aD (s.map f),f y]=some [.bool (decide (y∈s))]:=by
 have h:=Rc he hk hS (y:=y)
 rw [au hm rfl (by simp [QA]),←K5,←xR]
 simp [QA,h]
theorem c98 {s:List Int} (hS:Sm s) {y:Int}:(aN AP).p 98 [.aD (s.map vI),vI y]=some [.bool (decide (y∈s))]:=QY eqs_int (k:=116) rfl rfl hS
theorem QZ {s:List Int} (hS:Sm s) (y:Int):∀(n i:Nat),s.length-i=n→i≤s.length →
   cl AP g95L0 ⟨[(0,.pv (.aD (s.map vI))),(1,.pv (vI y)),(5,.pv (vI i))],[],[],[]⟩ =
     if y∈s.drop i then some (.ret,⟨[(4,.pv (.bool true))],[],[],[]⟩) else some (.exit 0,⟨[(0,.pv (.aD (s.map vI))),(1,.pv (vI y)),(5,.pv (vI s.length)),(9,.pv (.bool false))],[],[],[]⟩)
 | 0,i,hn,hi=>by
   have:i=s.length:=by omega
   subst this
   rw [g95L0e]
   simp [g95B0]
 | n+1,i,hn,hi=>by
   have hi:i<s.length:=by omega
   obtain ⟨x,hx⟩:=bn hi
   unfold Sm at hS
   have ih:=QZ hS y n (i+1) (by omega) (by omega)
   simp at ih
   rw [g95L0e,bC hx]
   by_cases e:x=y
   · simp (disch:=omega) [-getElem?_pos,g95B0,hx,hi,e]
   · have e':¬y=x:=fun h=>e h.symm
     simp (disch:=omega) [-getElem?_pos,g95B0,hx,hi,e,e',aq,ih]
theorem c95 {s:List Int} (hS:Sm s) {y:Int}:(aN AP).p 95 [.aD (s.map vI),vI y]=some [.bool (decide (y∈s))]:=by
 have h:=QZ hS y _ 0 rfl (by omega)
 simp at h
 rw [au (af:=g95) rfl rfl (by decide)]
 by_cases e:y∈s<;>simp [g95,h,e]
mutual
def Ty.nodes:Ty→List Ty
 | ⟨k,n,i,h,as⟩=>⟨k,n,i,h,as⟩::Ty.ru as
def Ty.ru:List Ty→List Ty
 | []=>[]
 | a::r=>a.nodes++Ty.ru r
end
theorem Ty.th:∀l:List Ty,Ty.ru l=l.flatMap Ty.nodes
 | []=>by simp [Ty.ru]
 | a::r=>by simp [Ty.ru,Ty.th r]
theorem Ty.bp (t:Ty):t.nodes=t::t.args.flatMap Ty.nodes:=by cases t;simp only [Ty.nodes,Ty.th]
theorem fY {α:Type} [DecidableEq α]:∀{l S:List α},l.Nodup→(∀x∈l,x∈S)→l.length≤S.length
 | [],_,_,_=>by simp
 | x::r,S,hn,h=>by
   have hx:=h x (by simp)
   have hr:=fY (l:=r) (S:=S.erase x) (List.nodup_cons.1 hn).2 (fun y hy=>by
     rw [List.mem_erase_of_ne]
     · exact h y (by simp [hy])
     · rintro rfl;exact (List.nodup_cons.1 hn).1 hy)
   have:=List.length_erase_of_mem hx
   have:0<S.length:=List.length_pos_of_mem hx
   simp;omega
def dg (out:List Int) (x:Ty):List Int:=if x.kind=1∧x.id∉out then out++[x.id] else out
structure iy (S out:List Int):Prop where
 nodup:out.Nodup
 sub:∀x∈out,x∈S
 FD:S.length<1099511627776
theorem iy.len {S out:List Int} (h:iy S out):Sm out:=by
 have:=fY h.nodup h.sub
 have:=h.FD
 unfold Sm;omega
theorem iy.add {S out:List Int} (h:iy S out) {x:Ty} (hx:x.kind=1→x.id∈S):iy S (dg out x):=by
 unfold dg
 split
 · rename_i e
   refine ⟨?_,?_,h.FD⟩
   · rw [List.nodup_append]
     refine ⟨h.nodup,by simp,?_⟩
     intro a ha b hb
     simp at hb;subst hb
     rintro rfl;exact e.2 ha
   · intro y hy
     simp at hy
     rcases hy with hy | rfl
     · exact h.sub y hy
     · exact hx e.1
 · exact h
theorem iy.fold {S:List Int}:∀{l:List Ty} {out:List Int},iy S out→(∀x∈l,x.kind=1→x.id∈S)→iy S (l.foldl dg out)
 | [],_,h,_=>h
 | x::r,out,h,hx=>by
   simp only [List.foldl_cons]
   exact iy.fold (h.add (hx x (by simp))) (fun y hy=>hx y (by simp [hy]))
def shO (out:List Int):Sh:=[some [.own (out.map vI) 0]]
theorem c97 {S out:List Int} (h:iy S out) (x:Ty):(aN AP).i 97 [.pv x.pv,.a_ 0 0] (shO out) [out.length]=some ([],shO (dg out x),[(dg out x).length]):=by
 have hl:=h.len
 have k:=c98 hl (y:=x.id)
 unfold Sm at hl
 have hb:(out.length+1)*8≤140737488355328:=by omega
 have hh:bI 1 (out.map vI)=true:=kO.head out
 rw [aR (af:=g97) rfl (by simp [g97])]
 by_cases e1:x.kind=1
 · by_cases e2:x.id∈out
   · rw [decide_eq_true e2] at k
     simp [g97,shO,dg,e1,e2,k,hh]
   · rw [decide_eq_false e2] at k
     simp [g97,shO,dg,e1,e2,k,hb,hh]
 · simp [g97,shO,dg,e1]
theorem L96 {S:List Int} {t:Ty} (hS:Sm t.args) (h:∀x∈t.args,∀out,iy S out→(aN AP).i 96 [.pv x.pv,.fn 97 [.a_ 0 0]] (shO out) [out.length]=some ([],shO (x.nodes.foldl dg out),[(x.nodes.foldl dg out).length]))
   (hk:∀x∈t.args.flatMap Ty.nodes,x.kind=1→x.id∈S):∀(n i:Nat),t.args.length-i=n→i≤t.args.length→∀out,iy S out →
   cl AP g96L0 ⟨[(1,.fn 97 [.a_ 0 0]),(10,.pv (.aD (t.args.map Ty.pv))),(11,.pv (vI t.args.length)),(12,.pv (vI i))],[],shO out,[out.length]⟩ =
     some (.exit 0,⟨[(1,.fn 97 [.a_ 0 0]),(10,.pv (.aD (t.args.map Ty.pv))),(11,.pv (vI t.args.length)),(12,.pv (vI t.args.length)),(13,.pv (.bool false))],[],shO (((t.args.drop i).flatMap Ty.nodes).foldl dg out),[(((t.args.drop i).flatMap Ty.nodes).foldl dg out).length]⟩)
 | 0,i,hn,hi,out,hc=>by
   have:i=t.args.length:=by omega
   subst this
   rw [g96L0e]
   simp [g96B0,shO]
 | n+1,i,hn,hi,out,hc=>by
   have hi:i<t.args.length:=by omega
   obtain ⟨x,hx⟩:=bn hi
   unfold Sm at hS
   have hkx:∀y∈x.nodes,y.kind=1→y.id∈S:=fun y hy=>hk y (by simp only [List.mem_flatMap];exact ⟨x,bo hx,hy⟩)
   have k:=h x (bo hx) out hc
   have ih:=L96 hS h hk n (i+1) (by omega) (by omega) _ (hc.fold hkx)
   rw [g96L0e] at ih ⊢
   rw [bC hx]
   simp [shO] at k ih
   simp (disch:=omega) [-getElem?_pos,g96B0,shO,hx,hi,k,aq]
   rw [g96L0e]
   simp [ih]
theorem c96 {S:List Int} {t:Ty} (hO:t.Ok) (hk:∀x∈t.nodes,x.kind=1→x.id∈S):∀out,iy S out →
   (aN AP).i 96 [.pv t.pv,.fn 97 [.a_ 0 0]] (shO out) [out.length]=some ([],shO (t.nodes.foldl dg out),[(t.nodes.foldl dg out).length]):=by
 revert hO hk
 refine Ty.eD (p:=fun t=>t.Ok→(∀x∈t.nodes,x.kind=1→x.id∈S)→∀out,iy S out →
   (aN AP).i 96 [.pv t.pv,.fn 97 [.a_ 0 0]] (shO out) [out.length]=some ([],shO (t.nodes.foldl dg out),[(t.nodes.foldl dg out).length])) ?_ t
 intro t ih hO hk out hc
 rw [Ty.bp] at hk ⊢
 have k:=c97 hc t
 have h:=L96 (S:=S) hO.sm (fun x hx out hc=>ih x hx (hO.fw x hx) (fun y hy=>hk y (by simp only [List.mem_cons,List.mem_flatMap];exact .inr ⟨x,hx,hy⟩)) out hc) (fun x hx=>hk x (by simp only [List.mem_cons];exact .inr hx)) _ 0 rfl (by omega) _ (hc.add (hk t (by simp)))
 rw [aR (af:=g96) rfl (by simp [g96])]
 rw [g96L0e] at h
 simp [shO] at k h
 simp [g96,g96L0e,shO,k,h]
def vars (l:List Ty):List Int:=(l.flatMap Ty.nodes).foldl dg []
theorem L55 {S:List Int} {l:List Ty} (hS:Sm l) (hO:∀t∈l,t.Ok) (hk:∀x∈l.flatMap Ty.nodes,x.kind=1→x.id∈S):∀(n i:Nat),l.length-i=n→i≤l.length→∀out,iy S out →
   cl AP g55L0 ⟨[(3,.a_ 0 0),(6,.pv (.aD (l.map Ty.pv))),(7,.pv (vI l.length)),(8,.pv (vI i))],[],shO out,[out.length]⟩ =
     some (.exit 0,⟨[(3,.a_ 0 0),(6,.pv (.aD (l.map Ty.pv))),(7,.pv (vI l.length)),(8,.pv (vI l.length)),(9,.pv (.bool false))],[],shO (((l.drop i).flatMap Ty.nodes).foldl dg out),[(((l.drop i).flatMap Ty.nodes).foldl dg out).length]⟩)
 | 0,i,hn,hi,out,hc=>by
   have:i=l.length:=by omega
   subst this
   rw [g55L0e]
   simp [g55B0,shO]
 | n+1,i,hn,hi,out,hc=>by
   have hi:i<l.length:=by omega
   obtain ⟨x,hx⟩:=bn hi
   unfold Sm at hS
   have hkx:∀y∈x.nodes,y.kind=1→y.id∈S:=fun y hy=>hk y (by simp only [List.mem_flatMap];exact ⟨x,bo hx,hy⟩)
   have k:=c96 (hO x (bo hx)) hkx out hc
   have ih:=L55 hS hO hk n (i+1) (by omega) (by omega) _ (hc.fold hkx)
   rw [g55L0e] at ih ⊢
   rw [bC hx]
   simp [shO] at k ih
   simp (disch:=omega) [-getElem?_pos,g55B0,shO,hx,hi,k,aq]
   rw [g55L0e]
   simp [ih]
theorem nu {S:List Int} (h:S.length<1099511627776):iy S []:=⟨by simp,by simp,h⟩
theorem c55 {S:List Int} (hf:S.length<1099511627776) {l:List Ty} (hS:Sm l) (hO:∀t∈l,t.Ok) (hk:∀x∈l.flatMap Ty.nodes,x.kind=1→x.id∈S):(aN AP).p 55 [.aD (l.map Ty.pv)]=some [.aD ((vars l).map vI)]:=by
 have h:=L55 hS hO hk _ 0 rfl (by omega) [] (nu hf)
 rw [au (af:=g55) rfl rfl (by decide)]
 rw [g55L0e] at h
 simp [shO] at h
 simp [g55,g55L0e,h,vars]
end Go.Ab.Lw
namespace Go.Ab.Lw
open Ev
mutual
def Ty.eN (k:Int):Ty→List Ty
 | ⟨kd,n,i,h,as⟩=>if kd=k∧as.length=0 then [⟨kd,n,i,h,as⟩] else Ty.IE k as
def Ty.IE (k:Int):List Ty→List Ty
 | []=>[]
 | a::r=>a.eN k++Ty.IE k r
end
theorem Ty.Co (k:Int):∀l:List Ty,Ty.IE k l=l.flatMap (Ty.eN k)
 | []=>by simp [Ty.IE]
 | a::r=>by simp [Ty.IE,Ty.Co k r]
theorem Ty.kQ (k:Int) (t:Ty):t.eN k=if t.kind=k∧t.args.length=0 then [t] else t.args.flatMap (Ty.eN k):=by cases t;simp only [Ty.eN,Ty.Co]
noncomputable def gC (out:List Ty) (x:Ty):List Ty:=if x∈out then out else out++[x]
structure fE (S out:List Ty):Prop where
 nodup:out.Nodup
 sub:∀x∈out,x∈S
 FD:S.length<1099511627776
 ok:∀x∈S,x.Ok
theorem fE.len {S out:List Ty} (h:fE S out):Sm out:=by
 have:=fY h.nodup h.sub
 have:=h.FD
 unfold Sm;omega
theorem fE.add {S out:List Ty} (h:fE S out) {x:Ty} (hx:x∈S):fE S (gC out x):=by
 unfold gC
 split
 · exact h
 · rename_i e
   refine ⟨?_,?_,h.FD,h.ok⟩
   · rw [List.nodup_append]
     refine ⟨h.nodup,by simp,?_⟩
     intro a ha b hb
     simp at hb;subst hb
     rintro rfl;exact e ha
   · intro y hy
     simp at hy
     rcases hy with hy | rfl
     · exact h.sub y hy
     · exact hx
theorem fE.fold {S:List Ty}:∀{l:List Ty} {out:List Ty},fE S out→(∀x∈l,x∈S)→fE S (l.foldl gC out)
 | [],_,h,_=>h
 | x::r,out,h,hx=>by
   simp only [List.foldl_cons]
   exact fE.fold (h.add (hx x (by simp))) (fun y hy=>hx y (by simp [hy]))
theorem OX {S out:List Ty} (h:fE S out) (t:Ty):∀(n i:Nat),out.length-i=n→i≤out.length →
   cl AP g99L0 ⟨[(0,.own (out.map Ty.pv) 0),(4,.az 4 0),(7,.pv (vI i))],[(4,[.pv (vI t.kind),.pv (.str t.name),.pv (vI t.id),.pv (vI t.home),.pv (.aD (t.args.map Ty.pv))])],[],[out.length]⟩ =
     if t∈out.drop i then some (.ret,⟨[(6,.own (out.map Ty.pv) 0)],[],[],[out.length]⟩)
     else some (.exit 0,⟨[(0,.own (out.map Ty.pv) 0),(4,.az 4 0),(7,.pv (vI out.length)),(22,.pv (.bool false))],[(4,[.pv (vI t.kind),.pv (.str t.name),.pv (vI t.id),.pv (vI t.home),.pv (.aD (t.args.map Ty.pv))])],[],[out.length]⟩)
 | 0,i,hn,hi=>by
   have:i=out.length:=by omega
   subst this
   rw [g99L0e]
   simp [g99B0]
 | n+1,i,hn,hi=>by
   have hi:i<out.length:=by omega
   obtain ⟨x,hx⟩:=bn hi
   have hS:=h.len
   unfold Sm at hS
   have k:=c20 (b:=t) (h.ok x (h.sub x (bo hx)))
   have ih:=OX h t n (i+1) (by omega) (by omega)
   rw [g99L0e] at ih ⊢
   rw [bC hx]
   simp at ih k
   by_cases e:x=t
   · subst e
     rw [decide_eq_true rfl] at k
     simp (disch:=omega) [-getElem?_pos,g99B0,hx,hi,k]
   · have e':¬t=x:=fun h=>e h.symm
     rw [decide_eq_false e] at k
     simp (disch:=omega) [-getElem?_pos,g99B0,hx,hi,k,e',aq]
     rw [g99L0e]
     simp [ih]
theorem OY {S:List Ty} {kd:Int} {t:Ty} (hS:Sm t.args) (h:∀x∈t.args,∀out,fE S out→(aN AP).i 99 [.own (out.map Ty.pv) 0,.pv x.pv,.pv (vI kd)] [] [out.length]=some ([.own (((x.eN kd).foldl gC out).map Ty.pv) 0],[],[((x.eN kd).foldl gC out).length]))
   (hk:∀x∈t.args.flatMap (Ty.eN kd),x∈S):∀(n i:Nat),t.args.length-i=n→i≤t.args.length→∀out,fE S out →
   cl AP g99L1 ⟨[(0,.own (out.map Ty.pv) 0),(2,.pv (vI kd)),(4,.az 4 0),(8,.pv (vI i))],[(4,[.pv (vI t.kind),.pv (.str t.name),.pv (vI t.id),.pv (vI t.home),.pv (.aD (t.args.map Ty.pv))])],[],[out.length]⟩ =
     some (.exit 2,⟨[(0,.own ((((t.args.drop i).flatMap (Ty.eN kd)).foldl gC out).map Ty.pv) 0),(2,.pv (vI kd)),(4,.az 4 0),(8,.pv (vI t.args.length)),(40,.pv (.bool false))],[(4,[.pv (vI t.kind),.pv (.str t.name),.pv (vI t.id),.pv (vI t.home),.pv (.aD (t.args.map Ty.pv))])],[],[(((t.args.drop i).flatMap (Ty.eN kd)).foldl gC out).length]⟩)
 | 0,i,hn,hi,out,hc=>by
   have:i=t.args.length:=by omega
   subst this
   rw [g99L1e]
   simp [g99B1]
 | n+1,i,hn,hi,out,hc=>by
   have hi:i<t.args.length:=by omega
   obtain ⟨x,hx⟩:=bn hi
   unfold Sm at hS
   have hkx:∀y∈x.eN kd,y∈S:=fun y hy=>hk y (by simp only [List.mem_flatMap];exact ⟨x,bo hx,hy⟩)
   have k:=h x (bo hx) out hc
   have ih:=OY hS h hk n (i+1) (by omega) (by omega) _ (hc.fold hkx)
   rw [g99L1e] at ih ⊢
   rw [bC hx]
   simp at k ih
   simp (disch:=omega) [-getElem?_pos,g99B1,hx,hi,k,aq]
   rw [g99L1e]
   simp [ih]
theorem c99 {S:List Ty} {kd:Int} {t:Ty} (hO:t.Ok) (hk:∀x∈t.eN kd,x∈S):∀out,fE S out →
   (aN AP).i 99 [.own (out.map Ty.pv) 0,.pv t.pv,.pv (vI kd)] [] [out.length]=some ([.own (((t.eN kd).foldl gC out).map Ty.pv) 0],[],[((t.eN kd).foldl gC out).length]):=by
 revert hO hk
 refine Ty.eD (p:=fun t=>t.Ok→(∀x∈t.eN kd,x∈S)→∀out,fE S out →
   (aN AP).i 99 [.own (out.map Ty.pv) 0,.pv t.pv,.pv (vI kd)] [] [out.length]=some ([.own (((t.eN kd).foldl gC out).map Ty.pv) 0],[],[((t.eN kd).foldl gC out).length])) ?_ t
 intro t ih hO hk out hc
 rw [Ty.kQ] at hk ⊢
 have hl:=hc.len
 unfold Sm at hl
 have hb:(out.length+1)*64≤140737488355328:=by omega
 rw [aR (af:=g99) rfl (by simp [g99])]
 by_cases e:t.kind=kd∧t.args.length=0
 · rw [if_pos e] at hk ⊢
   obtain ⟨e1,e2⟩:=e
   subst e1
   have e3:t.args=[]:=by simpa using e2
   have h:=OX hc t _ 0 rfl (by omega)
   rw [g99L0e] at h
   simp [e3] at h
   by_cases em:t∈out
   · simp [em] at h
     have ea:gC out t=out:=by simp [gC,em]
     simp [g99,e3,g99L0e,h,ea]
   · simp [em] at h
     have ea:gC out t=out++[t]:=by simp [gC,em]
     simp [g99,e3,g99L0e,h,ea,hb]
 · rw [if_neg e] at hk ⊢
   have h:=OY (S:=S) (kd:=kd) hO.sm (fun x hx out hc=>ih x hx (hO.fw x hx) (fun y hy=>hk y (by simp only [List.mem_flatMap];exact ⟨x,hx,hy⟩)) out hc) hk _ 0 rfl (by omega) out hc
   rw [g99L1e] at h
   simp at h
   by_cases e1:t.kind=kd
   · have e2:¬t.args.length=0:=fun h=>e ⟨e1,h⟩
     have e3:¬t.args=[]:=by simpa using e2
     subst e1
     simp [g99,e2,e3,g99L1e,h]
   · simp [g99,e1,g99L1e,h]
def oz (out:List Int) (x:Ty):List Int:=if x.id∈out then out else out++[x.id]
noncomputable def lF (l:List Ty):List Int:=((l.flatMap (Ty.eN 1)).foldl gC []).foldl oz []
theorem OZ {S:List Ty} {l:List Ty} (hS:Sm l) (hO:∀t∈l,t.Ok) (hk:∀x∈l.flatMap (Ty.eN 1),x∈S):∀(n i:Nat),l.length-i=n→i≤l.length→∀out,fE S out →
   cl AP g56L0 ⟨[(0,.pv (.aD (l.map Ty.pv))),(3,.own (out.map Ty.pv) 0),(4,.pv (vI i))],[],[],[out.length]⟩ =
     some (.exit 0,⟨[(0,.pv (.aD (l.map Ty.pv))),(3,.own ((((l.drop i).flatMap (Ty.eN 1)).foldl gC out).map Ty.pv) 0),(4,.pv (vI l.length)),(10,.pv (.bool false))],[],[],[(((l.drop i).flatMap (Ty.eN 1)).foldl gC out).length]⟩)
 | 0,i,hn,hi,out,hc=>by
   have:i=l.length:=by omega
   subst this
   rw [g56L0e]
   simp [g56B0]
 | n+1,i,hn,hi,out,hc=>by
   have hi:i<l.length:=by omega
   obtain ⟨x,hx⟩:=bn hi
   unfold Sm at hS
   have hkx:∀y∈x.eN 1,y∈S:=fun y hy=>hk y (by simp only [List.mem_flatMap];exact ⟨x,bo hx,hy⟩)
   have k:=c99 (kd:=1) (hO x (bo hx)) hkx out hc
   have ih:=OZ hS hO hk n (i+1) (by omega) (by omega) _ (hc.fold hkx)
   rw [g56L0e] at ih ⊢
   rw [bC hx]
   simp at k ih
   simp (disch:=omega) [-getElem?_pos,g56B0,hx,hi,k,aq]
   rw [g56L0e]
   simp [ih]
theorem IF {l:List Ty} {out:List Int}:(l.foldl oz out).length≤out.length+l.length:=by
 induction l generalizing out with
 | nil=>simp
 | cons x r ih=>
   simp only [List.foldl_cons,List.length_cons]
   have:=ih (out:=oz out x)
   have h2:(oz out x).length≤out.length+1:=by unfold oz;split<;>simp
   omega
theorem No {S l:List Ty} (hc:fE S l):∀(n i:Nat),l.length-i=n→i≤l.length→∀out:List Int,out.length≤i →
   cl AP g56L1 ⟨[(3,.own (l.map Ty.pv) 0),(5,.own (out.map vI) 1),(6,.pv (vI i))],[],[],[l.length,out.length]⟩ =
     some (.exit 2,⟨[(3,.own (l.map Ty.pv) 0),(5,.own (((l.drop i).foldl oz out).map vI) 1),(6,.pv (vI l.length)),(22,.pv (.bool false))],[],[],[l.length,((l.drop i).foldl oz out).length]⟩)
 | 0,i,hn,hi,out,ho=>by
   have:i=l.length:=by omega
   subst this
   rw [g56L1e]
   simp [g56B1]
 | n+1,i,hn,hi,out,ho=>by
   have hi:i<l.length:=by omega
   obtain ⟨x,hx⟩:=bn hi
   have hS:=hc.len
   unfold Sm at hS
   have k:=c95 (s:=out) (by unfold Sm;omega) (y:=x.id)
   have hb:(out.length+1)*8≤140737488355328:=by omega
   have hh:bI 1 (out.map vI)=true:=kO.head out
   rw [bC hx]
   by_cases e:x.id∈out
   · have ih:=No hc n (i+1) (by omega) (by omega) out (by omega)
     have ea:oz out x=out:=by simp [oz,e]
     rw [g56L1e] at ih ⊢
     rw [decide_eq_true e] at k
     simp at ih
     simp (disch:=omega) [-getElem?_pos,g56B1,hx,hi,k,aq]
     rw [g56L1e]
     simp [ih,ea]
   · have ih:=No hc n (i+1) (by omega) (by omega) (out++[x.id]) (by simp;omega)
     have ea:oz out x=out++[x.id]:=by simp [oz,e]
     rw [g56L1e] at ih ⊢
     rw [decide_eq_false e] at k
     simp at ih
     simp (disch:=omega) [-getElem?_pos,g56B1,hx,hi,k,aq,hb,hh]
     rw [g56L1e]
     simp [ih,ea]
theorem c56 {S:List Ty} (hf:S.length<1099511627776) (hSo:∀x∈S,x.Ok) {l:List Ty} (hS:Sm l) (hO:∀t∈l,t.Ok) (hk:∀x∈l.flatMap (Ty.eN 1),x∈S):(aN AP).p 56 [.aD (l.map Ty.pv)]=some [.aD ((lF l).map vI)]:=by
 have c0:fE S []:=⟨by simp,by simp,hf,hSo⟩
 have h1:=OZ hS hO hk _ 0 rfl (by omega) [] c0
 have h2:=No (c0.fold (l:=l.flatMap (Ty.eN 1)) hk) _ 0 rfl (by omega) [] (by simp)
 rw [au (af:=g56) rfl rfl (by decide)]
 rw [g56L0e] at h1
 rw [g56L1e] at h2
 simp at h1 h2
 simp [g56,g56L0e,h1,g56L1e,h2,lF]
theorem FE {t:Ty} (hW:t.Wf):∀out,t.nodes.foldl dg out=(t.eN 1).foldl dg out:=by
 revert hW
 refine Ty.eD (p:=fun t=>t.Wf→∀out,t.nodes.foldl dg out=(t.eN 1).foldl dg out) ?_ t
 intro t ih hW out
 have flat:∀(as:List Ty),(∀x∈as,x∈t.args)→∀out,(as.flatMap Ty.nodes).foldl dg out=(as.flatMap (Ty.eN 1)).foldl dg out:=by
   intro as
   induction as with
   | nil=>intro _ _;rfl
   | cons a r ihr=>
     intro h out
     simp only [List.flatMap_cons,List.foldl_append]
     rw [ih a (h a (by simp)) (hW.fw a (h a (by simp))),ihr (fun x hx=>h x (by simp [hx]))]
 rw [Ty.bp,Ty.kQ]
 by_cases e:t.kind=1
 · have ea:=hW.var e
   simp [e,ea]
 · have:dg out t=out:=by simp [dg,e]
   simp only [List.foldl_cons,this]
   rw [if_neg (fun h=>e h.1)]
   exact flat t.args (fun _ h=>h) out
theorem IG {k:Int} {t x:Ty} (h:x∈t.eN k):x.kind=k∧x.args=[]:=by
 revert h
 refine Ty.eD (p:=fun t=>x∈t.eN k→x.kind=k∧x.args=[]) ?_ t
 intro t ih h
 rw [Ty.kQ] at h
 split at h
 · rename_i e;simp at h;subst h;exact ⟨e.1,by simpa using e.2⟩
 · simp only [List.mem_flatMap] at h
   obtain ⟨y,hy,hx⟩:=h
   exact ih y hy hx
theorem II {l:List Ty} {out:List Int} {x:Ty} (hk:x.kind=1) (h:x∈l):x.id∈l.foldl dg out:=by
 have mono:∀(l:List Ty) (out:List Int) (i:Int),i∈out→i∈l.foldl dg out:=by
   intro l
   induction l with
   | nil=>intro out i h;exact h
   | cons y r ih=>
     intro out i h
     simp only [List.foldl_cons]
     refine ih _ _ ?_
     unfold dg;split<;>simp [h]
 induction l generalizing out with
 | nil=>simp at h
 | cons y r ih=>
   simp only [List.foldl_cons]
   simp at h
   rcases h with rfl | h
   · refine mono _ _ _ ?_
     unfold dg
     split
     · simp
     · rename_i e;simp [hk] at e;exact e
   · exact ih h
theorem FG (l:List Ty) (hk:∀x∈l,x.kind=1):∀acc:List Ty,(l.foldl gC acc).foldl dg []=l.foldl dg (acc.foldl dg []):=by
 induction l with
 | nil=>intro acc;rfl
 | cons x r ih=>
   intro acc
   simp only [List.foldl_cons]
   rw [ih (fun y hy=>hk y (by simp [hy]))]
   congr 1
   unfold gC
   split
   · rename_i e
     have:=II (out:=[]) (hk x (by simp)) e
     simp [dg,this]
   · simp
theorem FH (l:List Ty) (hk:∀x∈l,x.kind=1):∀out,l.foldl oz out=l.foldl dg out:=by
 induction l with
 | nil=>intro out;rfl
 | cons x r ih=>
   intro out
   simp only [List.foldl_cons]
   rw [ih (fun y hy=>hk y (by simp [hy]))]
   congr 1
   unfold oz dg
   have:=hk x (by simp)
   by_cases e:x.id∈out<;>simp [e,this]
theorem IJ {l acc:List Ty} {x:Ty} (h:x∈l.foldl gC acc):x∈acc∨x∈l:=by
 induction l generalizing acc with
 | nil=>exact .inl h
 | cons y r ih=>
   simp only [List.foldl_cons] at h
   rcases ih h with h | h
   · unfold gC at h
     split at h
     · exact .inl h
     · simp at h
       rcases h with h | rfl
       · exact .inl h
       · right;simp
   · right;simp [h]
theorem rz {l:List Ty} (hW:∀t∈l,t.Wf):lF l=vars l:=by
 have hk:∀x∈l.flatMap (Ty.eN 1),x.kind=1:=fun x hx=>by
   simp only [List.mem_flatMap] at hx;obtain ⟨t,_,h⟩:=hx;exact (IG h).1
 unfold lF vars
 rw [FH _ (fun x hx=>by rcases IJ hx with h | h;simp at h;exact hk x h),FG _ hk]
 have:∀(l:List Ty),(∀t∈l,t.Wf)→∀out,(l.flatMap (Ty.eN 1)).foldl dg out=(l.flatMap Ty.nodes).foldl dg out:=by
   intro l
   induction l with
   | nil=>intro _ _;rfl
   | cons a r ih=>
     intro h out
     simp only [List.flatMap_cons,List.foldl_append]
     rw [FE (h a (by simp)),ih (fun t ht=>h t (by simp [ht]))]
 exact this l hW []
end Go.Ab.Lw
namespace Go.Ab.Lw
open Ev
theorem c176 {t:Ty}:(aN AP).p 176 [t.pv]=some [(As.mk 0 t).pv]:=by
 rw [au (af:=g176) rfl rfl (by decide)]
 simp [g176]
theorem c179 {l:List En} (hS:Sm l) {n:List UInt8} {c:Sc}:(aN AP).p 179 [.aD (l.map En.pv),.str n,c.pv]=some [.aD ((l++[En.mk n c]).map En.pv)]:=by
 unfold Sm at hS
 have hb:(l.length+1)*88≤140737488355328:=by omega
 have hb':l.length*88≤140737488355328:=by omega
 rw [au (af:=g179) rfl rfl (by decide)]
 cases l with
 | nil=>simp [g179]
 | cons a r=>
   simp at hb hb'
   simp [g179,hb,hb']
def dD:List En→List En
 | []=>[]
 | a::r=>if (r.any fun x=>decide (x.name=a.name))=true then dD r else a::dD r
theorem QB {sz:Nat} {l:List PV} {k:IntKind} {h:Int} (h0:0≤h) (h1:h≤l.length) (hs:bI sz l=true):cP false sz true false false [.pv (.aD l),.pv (.int k h)]=some (.pv (.aD (l.drop h.toNat))):=by
 simp [cP,dY,ee,h0,h1,hs]
theorem any_none {r:List En} {a:En}:(r.any fun x=>decide (x.name=a.name))=true↔∃c,Cn r a.name=some c:=by
 induction r with
 | nil=>simp [Cn]
 | cons b r ih=>
   simp only [List.any_cons,Bool.or_eq_true,ih,Cn,decide_eq_true_eq]
   cases h:Cn r a.name with
   | some c=>simp
   | none=>by_cases e:b.name=a.name<;>simp [e]
theorem rB (l:List En):∀x∈dD l,x∈l:=by
 induction l with
 | nil=>simp [dD]
 | cons a r ih=>
   intro x hx
   simp only [dD] at hx
   split at hx
   · simp [ih x hx]
   · simp at hx;rcases hx with rfl | hx
     · simp
     · simp [ih x hx]
theorem rC (l:List En):(dD l).length≤l.length:=by
 induction l with
 | nil=>simp [dD]
 | cons a r ih=>
   simp only [dD]
   split<;>simp<;>omega
def varNames:List (List UInt8):=[[120],[121],[122],[102],[103],[118,49],[118,50],[105,100]]
def cY (ids:List Int):List Int→List As→List As
 | [],acc=>acc
 | v::r,acc=>cY ids r (if v∈ids then acc++[⟨v,dm acc.length⟩] else acc)
def nv (ids:List Int) (t:Ty) (vs:List Int):Sc:=⟨(cY ids vs []).length,t.sub (cY ids vs [])⟩
theorem Np {t:Ty} {ids vs:List Int} (hS:Sm vs) (hi:Sm ids):∀(n i:Nat),vs.length-i=n→i≤vs.length→∀acc:List As,acc.length≤i →
   cl AP g208L0 ⟨[(1,.pv (.aD (ids.map vI))),(2,.az 2 0),(4,.az 4 0),(5,.pv (.aD (vs.map vI))),(6,.own (acc.map As.pv) 0),(7,.pv (vI i))],[(2,[.pv (vI t.kind),.pv (.str t.name),.pv (vI t.id),.pv (vI t.home),.pv (.aD (t.args.map Ty.pv))]),(4,[.pv (vI 0),.pv (vI 0),.pv (.str []),.pv (vI 0),.pv (vI 0),.own [] 1])],[],[acc.length,0]⟩ =
     some (.exit 0,⟨[(1,.pv (.aD (ids.map vI))),(2,.az 2 0),(4,.az 4 0),(5,.pv (.aD (vs.map vI))),(6,.own ((cY ids (vs.drop i) acc).map As.pv) 0),(7,.pv (vI vs.length)),(14,.pv (.bool false))],[(2,[.pv (vI t.kind),.pv (.str t.name),.pv (vI t.id),.pv (vI t.home),.pv (.aD (t.args.map Ty.pv))]),(4,[.pv (vI 0),.pv (vI 0),.pv (.str []),.pv (vI 0),.pv (vI 0),.own [] 1])],[],[(cY ids (vs.drop i) acc).length,0]⟩)
 | 0,i,hn,hi',acc,ha=>by
   have:i=vs.length:=by omega
   subst this
   rw [g208L0e]
   simp [g208B0,cY]
 | n+1,i,hn,hi',acc,ha=>by
   have hi':i<vs.length:=by omega
   obtain ⟨x,hx⟩:=bn hi'
   unfold Sm at hS
   have k:=c95 hi (y:=x)
   have k2:=c72 (n:=acc.length)
   have hb:(acc.length+1)*72≤140737488355328:=by omega
   rw [bC hx]
   by_cases e:x∈ids
   · have ih:=Np (t:=t) hS hi n (i+1) (by omega) (by omega) (acc++[⟨x,dm acc.length⟩]) (by simp;omega)
     have ea:cY ids (x::vs.drop (i+1)) acc=cY ids (vs.drop (i+1)) (acc++[⟨x,dm acc.length⟩]):=by simp [cY,e]
     rw [ea]
     rw [g208L0e] at ih ⊢
     rw [decide_eq_true e] at k
     simp [dm] at ih k2
     simp (disch:=omega) [-getElem?_pos,g208B0,hx,hi',k,k2,aq,hb,dm]
     rw [g208L0e]
     simp [ih,dm]
   · have ih:=Np (t:=t) hS hi n (i+1) (by omega) (by omega) acc (by omega)
     have ea:cY ids (x::vs.drop (i+1)) acc=cY ids (vs.drop (i+1)) acc:=by simp [cY,e]
     rw [ea]
     rw [g208L0e] at ih ⊢
     rw [decide_eq_false e] at k
     simp at ih
     simp (disch:=omega) [-getElem?_pos,g208B0,hx,hi',k,aq]
     rw [g208L0e]
     simp [ih]
theorem rD {ids:List Int}:∀(vs:List Int) (acc:List As),(cY ids vs acc).length≤acc.length+vs.length
 | [],acc=>by simp [cY]
 | v::r,acc=>by
   simp only [cY]
   have:=rD (ids:=ids) r (if v∈ids then acc++[⟨v,dm acc.length⟩] else acc)
   split at this<;>simp at this ⊢<;>(split<;>simp_all<;>omega)
structure O0 (t:Ty):Prop where
 ok:t.Ok
 wf:t.Wf
 FD:∃S:List Ty,S.length<1099511627776∧(∀x∈S,x.Ok)∧∀x∈t.eN 1,x∈S
theorem rE {t:Ty} (h:O0 t):Sm (lF [t]):=by
 obtain ⟨S,hf,hSo,hk⟩:=h.FD
 have c0:fE S []:=⟨by simp,by simp,hf,hSo⟩
 have:=(c0.fold (l:=[t].flatMap (Ty.eN 1)) (by simpa using hk)).len
 unfold Sm at *
 have h2:=IF (l:=([t].flatMap (Ty.eN 1)).foldl gC []) (out:=[])
 unfold lF
 simp at this h2 ⊢
 omega
theorem c208 {t:Ty} (h:O0 t) {ids:List Int} (hi:Sm ids):(aN AP).p 208 [t.pv,.aD (ids.map vI)]=some [(nv ids t (vars [t])).pv]:=by
 obtain ⟨S,hf,hSo,hk⟩:=h.FD
 have k1:=c56 hf hSo (l:=[t]) (by simp [Sm]) (by simpa using h.ok) (by simpa using hk)
 have hv:=rE h
 rw [rz (by simpa using h.wf)] at k1 hv
 have k2:=Np (t:=t) hv hi _ 0 rfl (by omega) [] (by simp)
 have hl:=rD (ids:=ids) (vars [t]) []
 have k3:=c46 (s:=cY ids (vars [t]) []) (by unfold Sm at hv ⊢;simp at hl;omega) h.ok
 rw [au (af:=g208) rfl rfl (by decide)]
 rw [g208L0e] at k2
 simp at k1 k2 k3
 simp [g208,k1,g208L0e,k2,k3,nv]
end Go.Ab.Lw
namespace Go.Ab.Lw
open Ev
theorem cW {t:Ty} (h:t.args=[]):t.Ok:=⟨by rw [h];simp [Sm],by rw [h];simp⟩
theorem ti {ids:List Int}:∀(vs:List Int) (acc:List As),(∀a∈acc,a.ty.Ok)→∀a∈cY ids vs acc,a.ty.Ok
 | [],acc,h=>by simpa [cY] using h
 | v::r,acc,h=>by
   simp only [cY]
   refine ti r _ ?_
   split
   · intro a ha
     simp at ha
     rcases ha with ha | rfl
     · exact h a ha
     · exact cW rfl
   · exact h
theorem BC {ids vs:List Int} {t:Ty} (h:t.Ok):(nv ids t vs).ty.Ok:=BA (ti vs [] (by simp)) h
end Go.Ab.Lw
namespace Go.Ab.Lw
open Ev
inductive gv (D:Dt→Prop) (lv:List Ty):Nat→Ty→Prop
 | leaf {n:Nat} {t:Ty}:t∈lv→gv D lv n t
 | int {n:Nat}:gv D lv n bw
 | d7 {n:Nat} {d:Dt} {args:List Ty}:D d→args.length=d.params.length→(∀x∈args,gv D lv n x)→gv D lv (n+1) ⟨4,d.name,0,0,args⟩
 | arrow {n:Nat} {a b:Ty}:gv D lv n a→gv D lv n b→gv D lv (n+1) ⟨4,[45,62],0,0,[a,b]⟩
theorem gv.ok {D:Dt→Prop} (hD:∀d,D d→d.params.length≤8) {lv:List Ty} (h:∀t∈lv,t.args=[]) {n:Nat} {t:Ty} (m:gv D lv n t):t.Ok:=by
 induction m with
 | leaf hl=>exact cW (h _ hl)
 | int=>exact cW rfl
 | d7 hd hl _ ih=>exact ⟨by have:=hD _ hd;unfold Sm;simp;omega,ih⟩
 | arrow _ _ ha hb=>exact ⟨by simp [Sm],by intro x hx;simp at hx;rcases hx with rfl | rfl<;>assumption⟩
theorem IK {f:Ty→List Ty} {b:Nat}:∀{l:List Ty},(∀x∈l,(f x).length≤b)→(l.flatMap f).length≤l.length*b
 | [],_=>by simp
 | a::r,h=>by
   have h1:=h a (by simp)
   have h2:=IK (f:=f) (b:=b) (l:=r) (fun x hx=>h x (by simp [hx]))
   simp only [List.flatMap_cons,List.length_append,List.length_cons,Nat.add_mul]
   omega
theorem gv.small {D:Dt→Prop} (hD:∀d,D d→d.params.length≤8) {lv:List Ty} (h:∀t∈lv,t.args=[]) {n:Nat} {t:Ty} (m:gv D lv n t):t.nodes.length≤9 ^ n:=by
 have one:∀n:Nat,1≤9 ^ n:=fun n=>Nat.one_le_pow n 9 (by decide)
 induction m with
 | leaf hl=>rw [Ty.bp,h _ hl];simpa using one _
 | int=>rw [Ty.bp];simpa [bw] using one _
 | @d7 n d args hd hl _ ih=>
   rw [Ty.bp]
   have h1:=IK (f:=Ty.nodes) (l:=args) ih
   have h2:=hD _ hd
   have h3:=one n
   have h4:args.length*9 ^ n≤8*9 ^ n:=Nat.mul_le_mul_right _ (by omega)
   simp only [List.length_cons,Nat.pow_succ]
   omega
 | @arrow n a b _ _ ha hb=>
   rw [Ty.bp]
   have h3:=one n
   simp only [List.length_cons,List.flatMap_cons,List.flatMap_nil,List.append_nil,List.length_append,Nat.pow_succ]
   omega
end Go.Ab.Lw
namespace Go.Ab.Lw
open Ev
abbrev bV:=List UInt8
theorem c214 {s:List bV} (hS:Sm s) {y:bV}:(aN AP).p 214 [.aD (s.map .str),.str y]=some [.bool (decide (y∈s))]:=by
 rw [QY K4 (m:=214) (k:=223) rfl rfl hS]
 simp only [Option.some.injEq,List.cons.injEq,PV.bool.injEq,and_true]
 rw [Bool.eq_iff_iff];simp
theorem O1 {s:List bV} (hS:Sm s) (y:bV):∀(n i:Nat),s.length-i=n→i≤s.length →
   cl AP g216L0 ⟨[(0,.pv (.aD (s.map .str))),(1,.pv (.str y)),(5,.pv (vI i))],[],[],[]⟩ =
     match cX (fun x=>decide (x=y)) (s.drop i) with
     | some k=>some (.ret,⟨[(4,.pv (vI (i+k:Nat)))],[],[],[]⟩)
     | none=>some (.exit 0,⟨[(0,.pv (.aD (s.map .str))),(1,.pv (.str y)),(5,.pv (vI s.length)),(9,.pv (.bool false))],[],[],[]⟩)
 | 0,i,hn,hi=>by
   have:i=s.length:=by omega
   subst this
   rw [g216L0e]
   simp [g216B0,cX]
 | n+1,i,hn,hi=>by
   have hi:i<s.length:=by omega
   obtain ⟨x,hx⟩:=bn hi
   unfold Sm at hS
   have ih:=O1 hS y n (i+1) (by omega) (by omega)
   simp at ih
   rw [g216L0e,bC hx]
   by_cases e:x=y
   · simp (disch:=omega) [-getElem?_pos,g216B0,hx,hi,e,cX]
   · simp (disch:=omega) [-getElem?_pos,g216B0,hx,hi,e,cX,aq,ih]
     cases cX (fun x=>decide (x=y)) (s.drop (i+1)) with
     | none=>rfl
     | some k=>simp;omega
def kR (s:List bV) (y:bV):Int:=nq (cX (fun x=>decide (x=y)) s)
theorem c216 {s:List bV} (hS:Sm s) {y:bV}:(aN AP).p 216 [.aD (s.map .str),.str y]=some [vI (kR s y)]:=by
 unfold kR
 have h:=O1 hS y _ 0 rfl (by omega)
 simp at h
 rw [au (af:=g216) rfl rfl (by decide)]
 cases hi:cX (fun x=>decide (x=y)) s with
 | none=>rw [hi] at h;simp at h;simp [g216,h,nq]
 | some k=>rw [hi] at h;simp at h;simp [g216,h,nq]
theorem rG {s:List bV} {y:bV}:kR s y<0↔y∉s:=by
 unfold kR
 have h:=xR (p:=fun x=>decide (x=y)) (s:=s)
 have e:s.any (fun x=>decide (x=y))=decide (y∈s):=by rw [Bool.eq_iff_iff];simp
 rw [e] at h
 by_cases hy:y∈s
 · rw [decide_eq_true hy] at h
   have h:=of_decide_eq_true h
   exact ⟨fun h'=>absurd h (Int.not_le.2 h'),fun h'=>absurd hy h'⟩
 · rw [decide_eq_false hy] at h
   have h:=of_decide_eq_false h
   exact ⟨fun _=>hy,fun _=>Int.not_le.1 h⟩
def F1:List Dt→bV→Option Dt
 | [],_=>none
 | d::r,s=>if d.name=s then some d else F1 r s
def BD (ds:List Dt) (s:bV):Option Nat:=if s=[73,110,116] then some 0 else if s=[45,62] then some 2 else (F1 ds s).map (·.params.length)
def rA:Option Nat→List PV
 | some n=>[vI n,.bool true]
 | none=>[vI 0,.bool false]
theorem O2 {ds:List Dt} (hS:Sm ds) (s:bV):∀(n i:Nat),ds.length-i=n→i≤ds.length →
   cl AP g215L0 ⟨[(1,.pv (.str s)),(13,.pv (.aD (ds.map Dt.pv))),(14,.pv (vI ds.length)),(15,.pv (vI i))],[],[],[]⟩ =
     match F1 (ds.drop i) s with
     | some d=>some (.ret,⟨[(4,.pv (vI d.params.length)),(5,.pv (.bool true))],[],[],[]⟩)
     | none=>some (.exit 1,⟨[(1,.pv (.str s)),(13,.pv (.aD (ds.map Dt.pv))),(14,.pv (vI ds.length)),(15,.pv (vI ds.length)),(16,.pv (.bool false))],[],[],[]⟩)
 | 0,i,hn,hi=>by
   have:i=ds.length:=by omega
   subst this
   rw [g215L0e]
   simp [g215B0,F1]
 | n+1,i,hn,hi=>by
   have hi:i<ds.length:=by omega
   obtain ⟨x,hx⟩:=bn hi
   unfold Sm at hS
   have ih:=O2 hS s n (i+1) (by omega) (by omega)
   rw [g215L0e] at ih ⊢
   rw [bC hx]
   simp at ih
   by_cases e:x.name=s
   · simp (disch:=omega) [-getElem?_pos,g215B0,hx,hi,e,F1]
   · simp (disch:=omega) [-getElem?_pos,g215B0,hx,hi,e,F1,aq]
     rw [g215L0e]
     simp [ih]
theorem c215 {ds:List Dt} (hS:Sm ds) {s:bV}:(aN AP).p 215 [.aD (ds.map Dt.pv),.str s]=some (rA (BD ds s)):=by
 have h:=O2 hS s _ 0 rfl (by omega)
 rw [au (af:=g215) rfl rfl (by decide)]
 rw [g215L0e] at h
 simp at h
 unfold BD
 by_cases e1:s=[73,110,116]
 · simp [g215,e1,rA]
 · by_cases e2:s=[45,62]
   · simp [g215,e2,rA]
   · cases hl:F1 ds s with
     | none=>rw [hl] at h;simp at h;simp [g215,e1,e2,g215L0e,h,rA]
     | some d=>rw [hl] at h;simp at h;simp [g215,e1,e2,g215L0e,h,rA]
theorem O3 {ds:List Dt} (hS:Sm ds) (s:bV):∀(n i:Nat),ds.length-i=n→i≤ds.length →
   cl AP g217L0 ⟨[(0,.pv (.aD (ds.map Dt.pv))),(1,.pv (.str s)),(6,.pv (vI i))],[],[],[]⟩ =
     match F1 (ds.drop i) s with
     | some d=>some (.ret,⟨[(4,.pv (vI d.params.length)),(5,.pv (.bool true))],[],[],[]⟩)
     | none=>some (.exit 1,⟨[(0,.pv (.aD (ds.map Dt.pv))),(1,.pv (.str s)),(6,.pv (vI ds.length)),(15,.pv (.bool false))],[],[],[]⟩)
 | 0,i,hn,hi=>by
   have:i=ds.length:=by omega
   subst this
   rw [g217L0e]
   simp [g217B0,F1]
 | n+1,i,hn,hi=>by
   have hi:i<ds.length:=by omega
   obtain ⟨x,hx⟩:=bn hi
   unfold Sm at hS
   have ih:=O3 hS s n (i+1) (by omega) (by omega)
   rw [g217L0e] at ih ⊢
   rw [bC hx]
   simp at ih
   by_cases e:x.name=s
   · simp (disch:=omega) [-getElem?_pos,g217B0,hx,hi,e,F1]
   · simp (disch:=omega) [-getElem?_pos,g217B0,hx,hi,e,F1,aq]
     rw [g217L0e]
     simp [ih]
theorem c217 {ds:List Dt} (hS:Sm ds) {s:bV}:(aN AP).p 217 [.aD (ds.map Dt.pv),.str s]=some (rA (BD ds s)):=by
 have h:=O3 hS s _ 0 rfl (by omega)
 rw [au (af:=g217) rfl rfl (by decide)]
 rw [g217L0e] at h
 simp at h
 unfold BD
 by_cases e1:s=[73,110,116]
 · simp [g217,e1,rA]
 · by_cases e2:s=[45,62]
   · simp [g217,e2,rA]
   · cases hl:F1 ds s with
     | none=>rw [hl] at h;simp at h;simp [g217,e1,e2,g217L0e,h,rA]
     | some d=>rw [hl] at h;simp at h;simp [g217,e1,e2,g217L0e,h,rA]
def fZ (ds:List Dt) (l:List bV) (t:Ty):Int:=
 if t.kind=5 then (if t.name∈l then 0 else 7)
 else if t.kind=4 then (match BD ds t.name with | none=>7 | some n=>if n=t.args.length then 0 else 8) else 0
mutual
def Ty.formed (ds:List Dt) (l:List bV):Ty→Int
 | ⟨k,n,i,h,as⟩=>if fZ ds l ⟨k,n,i,h,as⟩≠0 then fZ ds l ⟨k,n,i,h,as⟩ else Ty.bZ ds l as
def Ty.bZ (ds:List Dt) (l:List bV):List Ty→Int
 | []=>0
 | a::r=>if a.formed ds l≠0 then a.formed ds l else Ty.bZ ds l r
end
theorem Ty.tj (ds:List Dt) (l:List bV) (t:Ty):t.formed ds l=if fZ ds l t≠0 then fZ ds l t else Ty.bZ ds l t.args:=by
 cases t;simp only [Ty.formed]
theorem O4 {ds:List Dt} {l:List bV} {t:Ty} (hS:Sm t.args) (h:∀x∈t.args,(aN AP).p 185 [.aD (ds.map Dt.pv),x.pv,.aD (l.map .str)]=some [vI (x.formed ds l)]):∀(n i:Nat),t.args.length-i=n→i≤t.args.length →
   cl AP g185L0 ⟨[(0,.pv (.aD (ds.map Dt.pv))),(2,.pv (.aD (l.map .str))),(38,.pv (.aD (t.args.map Ty.pv))),(39,.pv (vI t.args.length)),(40,.pv (vI i))],[],[],[]⟩ =
     if Ty.bZ ds l (t.args.drop i)≠0 then some (.ret,⟨[(6,.pv (vI (Ty.bZ ds l (t.args.drop i))))],[],[],[]⟩)
     else some (.exit 1,⟨[(0,.pv (.aD (ds.map Dt.pv))),(2,.pv (.aD (l.map .str))),(38,.pv (.aD (t.args.map Ty.pv))),(39,.pv (vI t.args.length)),(40,.pv (vI t.args.length)),(41,.pv (.bool false))],[],[],[]⟩)
 | 0,i,hn,hi=>by
   have:i=t.args.length:=by omega
   subst this
   rw [g185L0e]
   simp [g185B0,Ty.bZ]
 | n+1,i,hn,hi=>by
   have hi:i<t.args.length:=by omega
   obtain ⟨x,hx⟩:=bn hi
   unfold Sm at hS
   have k:=h x (bo hx)
   have ih:=O4 hS h n (i+1) (by omega) (by omega)
   rw [g185L0e] at ih ⊢
   rw [bC hx]
   simp at ih k
   by_cases e:x.formed ds l=0
   · rw [e] at k
     simp (disch:=omega) [-getElem?_pos,g185B0,hx,hi,k,Ty.bZ,e,aq]
     rw [g185L0e]
     simp [ih]
   · simp (disch:=omega) [-getElem?_pos,g185B0,hx,hi,k,Ty.bZ,e,aq]
theorem c185 {ds:List Dt} (hd:Sm ds) {l:List bV} (hl:Sm l) {t:Ty} (hO:t.Ok):(aN AP).p 185 [.aD (ds.map Dt.pv),t.pv,.aD (l.map .str)]=some [vI (t.formed ds l)]:=by
 revert hO
 refine Ty.eD (p:=fun t=>t.Ok→(aN AP).p 185 [.aD (ds.map Dt.pv),t.pv,.aD (l.map .str)]=some [vI (t.formed ds l)]) ?_ t
 intro t ih hO
 have h:=O4 (ds:=ds) (l:=l) hO.sm (fun x hx=>ih x hx (hO.fw x hx)) _ 0 rfl (by omega)
 have k1:=c214 hl (y:=t.name)
 have k2:=c215 hd (s:=t.name)
 rw [au (af:=g185) rfl rfl (by decide),Ty.tj]
 rw [g185L0e] at h
 simp at h
 by_cases e1:t.kind=5
 · by_cases e2:t.name∈l
   · rw [decide_eq_true e2] at k1
     by_cases e3:Ty.bZ ds l t.args=0
     · simp [e3] at h
       simp [g185,e1,e2,e3,k1,fZ,g185L0e,h]
     · simp [e3] at h
       simp [g185,e1,e2,e3,k1,fZ,g185L0e,h]
   · rw [decide_eq_false e2] at k1
     simp [g185,e1,e2,k1,fZ]
 · by_cases e4:t.kind=4
   · cases hc:BD ds t.name with
     | none=>
       rw [hc] at k2
       simp [rA] at k2
       simp [g185,e1,e4,k2,fZ,hc]
     | some m=>
       rw [hc] at k2
       simp [rA] at k2
       by_cases e5:m=t.args.length
       · by_cases e3:Ty.bZ ds l t.args=0
         · simp [e3] at h
           simp [g185,e4,e5,e3,k2,fZ,hc,g185L0e,h]
         · simp [e3] at h
           simp [g185,e4,e5,e3,k2,fZ,hc,g185L0e,h]
       · have e5':¬(m:Int)=t.args.length:=by omega
         simp [g185,e4,e5,e5',k2,fZ,hc]
   · by_cases e3:Ty.bZ ds l t.args=0
     · simp [e3] at h
       simp [g185,e1,e4,e3,fZ,g185L0e,h]
     · simp [e3] at h
       simp [g185,e1,e4,e3,fZ,g185L0e,h]
def K6 (t:Ty):List AV:=[.pv (vI t.kind),.pv (.str t.name),.pv (vI t.id),.pv (vI t.home),.pv (.aD (t.args.map Ty.pv))]
@[simp] theorem QC (t:Ty):K6 t=[.pv (vI t.kind),.pv (.str t.name),.pv (vI t.id),.pv (vI t.home),.pv (.aD (t.args.map Ty.pv))]:=rfl
theorem O5 {ds:List Dt} {l:List bV} {t:Ty} (hS:Sm t.args) (h:∀x∈t.args,(aN AP).p 186 [.aD (ds.map Dt.pv),x.pv,.aD (l.map .str)]=some [vI (x.formed ds l)]):∀(n i:Nat),t.args.length-i=n→i≤t.args.length →
   cl AP g186L0 ⟨[(0,.pv (.aD (ds.map Dt.pv))),(2,.pv (.aD (l.map .str))),(4,.az 4 0),(9,.pv (vI i))],[(4,K6 t)],[],[]⟩ =
     if Ty.bZ ds l (t.args.drop i)≠0 then some (.ret,⟨[(6,.pv (vI (Ty.bZ ds l (t.args.drop i))))],[],[],[]⟩)
     else some (.exit 1,⟨[(0,.pv (.aD (ds.map Dt.pv))),(2,.pv (.aD (l.map .str))),(4,.az 4 0),(9,.pv (vI t.args.length)),(40,.pv (.bool false))],[(4,K6 t)],[],[]⟩)
 | 0,i,hn,hi=>by
   have:i=t.args.length:=by omega
   subst this
   rw [g186L0e]
   simp [g186B0,Ty.bZ]
 | n+1,i,hn,hi=>by
   have hi:i<t.args.length:=by omega
   obtain ⟨x,hx⟩:=bn hi
   unfold Sm at hS
   have k:=h x (bo hx)
   have ih:=O5 hS h n (i+1) (by omega) (by omega)
   rw [g186L0e] at ih ⊢
   rw [bC hx]
   simp at ih k
   by_cases e:x.formed ds l=0
   · rw [e] at k
     simp (disch:=omega) [-getElem?_pos,g186B0,hx,hi,k,Ty.bZ,e,aq]
     rw [g186L0e]
     simp [ih]
   · simp (disch:=omega) [-getElem?_pos,g186B0,hx,hi,k,Ty.bZ,e,aq]
inductive Ty.Cw:Ty→Prop
 | mk {t:Ty}:(t.kind≠4→t.args=[])→(∀x∈t.args,Ty.Cw x)→Ty.Cw t
theorem Ty.Cw.bare {t:Ty} (h:t.Cw):t.kind≠4→t.args=[]:=by cases h;assumption
theorem Ty.Cw.fw {t:Ty} (h:t.Cw):∀x∈t.args,x.Cw:=by cases h;assumption
theorem c186 {ds:List Dt} (hd:Sm ds) {l:List bV} (hl:Sm l) {t:Ty} (hO:t.Ok) (hC:t.Cw):(aN AP).p 186 [.aD (ds.map Dt.pv),t.pv,.aD (l.map .str)]=some [vI (t.formed ds l)]:=by
 revert hO hC
 refine Ty.eD (p:=fun t=>t.Ok→t.Cw→(aN AP).p 186 [.aD (ds.map Dt.pv),t.pv,.aD (l.map .str)]=some [vI (t.formed ds l)]) ?_ t
 intro t ih hO hC
 have h:=O5 (ds:=ds) (l:=l) hO.sm (fun x hx=>ih x hx (hO.fw x hx) (hC.fw x hx)) _ 0 rfl (by omega)
 have k1:=c216 hl (y:=t.name)
 have k2:=c217 hd (s:=t.name)
 have k3:=rG (s:=l) (y:=t.name)
 rw [au (af:=g186) rfl rfl (by decide),Ty.tj]
 rw [g186L0e] at h
 simp at h
 by_cases e1:t.kind=5
 · by_cases e2:t.name∈l
   · simp [e2] at k3
     have k3':¬kR l t.name<0:=by omega
     have ea:=hC.bare (by rw [e1];decide)
     simp [g186,e1,e2,k1,k3',fZ,ea,Ty.bZ]
   · simp [e2] at k3
     simp [g186,e1,e2,k1,k3,fZ]
 · by_cases e4:t.kind=4
   · cases hc:BD ds t.name with
     | none=>
       rw [hc] at k2
       simp [rA] at k2
       simp [g186,e1,e4,k2,fZ,hc]
     | some m=>
       rw [hc] at k2
       simp [rA] at k2
       by_cases e5:m=t.args.length
       · by_cases e3:Ty.bZ ds l t.args=0
         · simp [e3,e4] at h
           simp [g186,e4,e5,e3,k2,fZ,hc,g186L0e,h]
         · simp [e3,e4] at h
           simp [g186,e4,e5,e3,k2,fZ,hc,g186L0e,h]
       · have e5':¬(m:Int)=t.args.length:=by omega
         simp [g186,e4,e5,e5',k2,fZ,hc]
   · have ea:=hC.bare e4
     simp [g186,e1,e4,fZ,ea,Ty.bZ]
end Go.Ab.Lw
namespace Go.Ab.Lw
structure d8 (E:Type) where
 pos:Int
 d7:List UInt8
 vars:List (List UInt8)
 body:E
structure Ex where
 kind:Int
 pos:Int
 name:List UInt8
 num:Int
 kids:List Ex
 aX:List (d8 Ex)
 ty:Ty
abbrev Ar:=d8 Ex
def bR:Ty:=⟨0,[],0,0,[]⟩
instance:Inhabited Ex:=⟨⟨0,0,[],0,[],[],bR⟩⟩
instance:Inhabited Ar:=⟨⟨0,[],[],default⟩⟩
def Ty.cells (t:Ty):List PV:=[.int .i64 t.kind,.str t.name,.int .i64 t.id,.int .i64 t.home,.aD (t.args.map Ty.pv)]
mutual
def Ex.cells:Ex→List PV
 | ⟨k,p,n,m,ks,as,t⟩=>.int .i64 k::.int .i64 p::.str n::.int .i64 m::.aD (Ex.dE ks)::.aD (Ex.O6 as)::t.cells
def Ex.dE:List Ex→List PV
 | []=>[]
 | e::r=>.agg (Ex.cells e)::Ex.dE r
def Ex.O6:List (d8 Ex)→List PV
 | []=>[]
 | ⟨p,c,v,b⟩::r=>.agg (.int .i64 p::.str c::.aD (v.map .str)::Ex.cells b)::Ex.O6 r
end
def Ex.pv (e:Ex):PV:=.agg e.cells
def Ar.pv (a:Ar):PV:=.agg (.int .i64 a.pos::.str a.d7::.aD (a.vars.map .str)::a.body.cells)
theorem Ex.nk:∀l:List Ex,Ex.dE l=l.map Ex.pv
 | []=>by simp [Ex.dE]
 | e::r=>by simp [Ex.dE,Ex.nk r,Ex.pv]
theorem Ex.Cp:∀l:List Ar,Ex.O6 l=l.map Ar.pv
 | []=>by simp [Ex.O6]
 | ⟨p,c,v,b⟩::r=>by simp [Ex.O6,Ex.Cp r,Ar.pv]
theorem Ex.bG (e:Ex):e.cells=[.int .i64 e.kind,.int .i64 e.pos,.str e.name,.int .i64 e.num,.aD (e.kids.map Ex.pv),.aD (e.aX.map Ar.pv),.int .i64 e.ty.kind,.str e.ty.name,.int .i64 e.ty.id,.int .i64 e.ty.home,.aD (e.ty.args.map Ty.pv)]:=by
 cases e;simp only [Ex.cells,Ex.nk,Ex.Cp,Ty.cells]
@[simp] theorem Ex.kN (e:Ex):e.pv=.agg [.int .i64 e.kind,.int .i64 e.pos,.str e.name,.int .i64 e.num,.aD (e.kids.map Ex.pv),.aD (e.aX.map Ar.pv),.int .i64 e.ty.kind,.str e.ty.name,.int .i64 e.ty.id,.int .i64 e.ty.home,.aD (e.ty.args.map Ty.pv)]:=by
 rw [Ex.pv,Ex.bG]
@[simp] theorem Ar.kN (a:Ar):a.pv=.agg [.int .i64 a.pos,.str a.d7,.aD (a.vars.map .str),.int .i64 a.body.kind,.int .i64 a.body.pos,.str a.body.name,.int .i64 a.body.num,.aD (a.body.kids.map Ex.pv),.aD (a.body.aX.map Ar.pv),.int .i64 a.body.ty.kind,.str a.body.ty.name,.int .i64 a.body.ty.id,.int .i64 a.body.ty.home,.aD (a.body.ty.args.map Ty.pv)]:=by
 rw [Ar.pv,Ex.bG]
theorem IL:El Ex.pv 11 true:=⟨fun x=>by simp,fun x=>by simp⟩
theorem Nq:El Ar.pv 14 true:=⟨fun x=>by simp,fun x=>by simp⟩
@[simp] theorem N8 {l:List Ex}:bI 11 (l.map Ex.pv)=true:=IL.head l
@[simp] theorem N9 {l:List Ar}:bI 14 (l.map Ar.pv)=true:=Nq.head l
@[simp] theorem Nr {l:List (List UInt8)}:bI 1 (l.map PV.str)=true:=Iv.head l
def Ex.ch (e:Ex):List Ex:=e.kids++e.aX.map d8.body
theorem d8.tq (a:Ar):SizeOf.sizeOf a.body<SizeOf.sizeOf a:=by cases a;simp;omega
theorem Ex.eD {p:Ex→Prop} (h:∀e:Ex,(∀x∈e.kids,p x)→(∀a∈e.aX,p a.body)→p e):∀e,p e
 | ⟨k,ps,n,m,ks,as,t⟩=>h _ (fun x _hx=>Ex.eD h x) (fun a _ha=>Ex.eD h a.body)
termination_by e=>SizeOf.sizeOf e
decreasing_by
 · have:=_root_.List.sizeOf_lt_of_mem _hx;simp at *;omega
 · have:=_root_.List.sizeOf_lt_of_mem _ha;have:=d8.tq a;simp at *;omega
theorem Ex.recC {p:Ex→Prop} (h:∀e:Ex,(∀x∈e.ch,p x)→p e):∀e,p e:=Ex.eD fun e h1 h2=>h e fun x hx=>by
 rw [Ex.ch,List.mem_append,List.mem_map] at hx
 rcases hx with hx | ⟨a,ha,rfl⟩
 · exact h1 x hx
 · exact h2 a ha
end Go.Ab.Lw
namespace Go.Ab.Lw
open Ev
structure Sl where
 bd:Bool
 ty:Ty
 home:Int
 base:Bool
def Sl.pv (x:Sl):PV:=.agg [.bool x.bd,vI x.ty.kind,.str x.ty.name,vI x.ty.id,vI x.ty.home,.aD (x.ty.args.map Ty.pv),vI x.home,.bool x.base]
@[simp] theorem Sl.kN (x:Sl):x.pv=.agg [.bool x.bd,.int .i64 x.ty.kind,.str x.ty.name,.int .i64 x.ty.id,.int .i64 x.ty.home,.aD (x.ty.args.map Ty.pv),.int .i64 x.home,.bool x.base]:=rfl
structure Ch where
 id:Int
 aW:Sl
 nw:Bool
def Ch.pv (x:Ch):PV:=.agg [vI x.id,.bool x.aW.bd,vI x.aW.ty.kind,.str x.aW.ty.name,vI x.aW.ty.id,vI x.aW.ty.home,.aD (x.aW.ty.args.map Ty.pv),vI x.aW.home,.bool x.aW.base,.bool x.nw]
@[simp] theorem Ch.kN (x:Ch):x.pv=.agg [.int .i64 x.id,.bool x.aW.bd,.int .i64 x.aW.ty.kind,.str x.aW.ty.name,.int .i64 x.aW.ty.id,.int .i64 x.aW.ty.home,.aD (x.aW.ty.args.map Ty.pv),.int .i64 x.aW.home,.bool x.aW.base,.bool x.nw]:=rfl
structure dS where
 sl:List Sl
 tr:List Ch
def dS.pv (s:dS):PV:=.agg [.aD (s.sl.map Sl.pv),.aD (s.tr.map Ch.pv)]
@[simp] theorem dS.kN (s:dS):s.pv=.agg [.aD (s.sl.map Sl.pv),.aD (s.tr.map Ch.pv)]:=rfl
structure dS.Ok (s:dS) (n m:Nat):Prop where
 sl:s.sl.length≤n
 tr:s.tr.length≤m
 ty:∀x∈s.sl,x.ty.Ok
theorem LU:El Sl.pv 8 true:=⟨fun _=>rfl,fun _=>rfl⟩
theorem IM:El Ch.pv 10 true:=⟨fun _=>rfl,fun _=>rfl⟩
def hU (s:List Sl) (t:Ty):Option Sl:=if t.kind=1∧0≤t.id then (match s[t.id.toNat]? with | some x=>if x.bd then some x else none | none=>none) else none
theorem fM {s:List Sl} {t:Ty} {x:Sl} (h:hU s t=some x):t.kind=1∧∃i:Nat,t.id=i∧s[i]?=some x∧x.bd=true:=by
 unfold hU at h
 split at h
 · rename_i q
   refine ⟨q.1,t.id.toNat,by omega,?_⟩
   split at h
   · rename_i y hy
     split at h
     · rename_i hb;cases h;exact ⟨hy,hb⟩
     · cases h
   · cases h
 · cases h
theorem c392 {s:dS} {t:Ty}:(aN AP).p 392 [s.pv,t.pv]=some [.bool (hU s.sl t).isSome]:=by
 rw [au (af:=g392) rfl rfl (by decide)]
 unfold hU
 by_cases k:t.kind=1
 · by_cases h0:0≤t.id
   · obtain ⟨i,hi⟩:∃i:Nat,t.id=i:=⟨t.id.toNat,by omega⟩
     by_cases hl:i<s.sl.length
     · obtain ⟨x,hx⟩:=bn hl
       simp (disch:=omega) [-getElem?_pos,g392,k,hi,hl,hx]
       cases x.bd<;>rfl
     · have hx:s.sl[i]?=none:=by simp;omega
       simp (disch:=omega) [-getElem?_pos,g392,k,hi,hl,hx]
   · simp (disch:=omega) [g392,k,h0]
 · simp (disch:=omega) [g392,k]
def wk (s:List Sl):Nat→Ty→Ty
 | 0,t=>t
 | n+1,t=>match hU s t with | some x=>wk s n x.ty | none=>t
theorem kS {s:List Sl} (hs:∀x∈s,x.ty.Ok):∀{n:Nat} {t:Ty},t.Ok→(wk s n t).Ok
 | 0,t,h=>h
 | n+1,t,h=>by
   unfold wk
   split
   · rename_i x hx
     obtain ⟨_,i,_,hi,_⟩:=fM hx
     exact kS hs (hs x (bo hi))
   · exact h
def tC (t:Ty):List AV:=[.pv (vI t.kind),.pv (.str t.name),.pv (vI t.id),.pv (vI t.home),.pv (.aD (t.args.map Ty.pv))]
def sC (s:dS):List AV:=[.pv (.aD (s.sl.map Sl.pv)),.pv (.aD (s.tr.map Ch.pv))]
def zC (k:Nat):List AV:=[.pv (vI 0),.pv (.str []),.pv (vI 0),.pv (vI 0),.own [] k]
theorem O7 {s:dS} (hs:Sm s.sl):∀(n i:Nat),s.sl.length+1-i=n→i≤s.sl.length+1→∀t:Ty,∃(i':Nat),
   cl AP g386L0 ⟨[(2,.az 2 0),(3,.az 3 0),(4,.az 4 0),(5,.pv (vI i))],[(2,sC s),(3,tC t),(4,zC 0)],[],[0]⟩ =
     some (.exit 0,⟨[(2,.az 2 0),(3,.az 3 0),(4,.az 4 0),(5,.pv (vI i')),(15,.pv (.bool false))],[(2,sC s),(3,tC (wk s.sl n t)),(4,zC 0)],[],[0]⟩)
 | 0,i,hn,hi,t=>by
   refine ⟨i,?_⟩
   have h1:¬(i:Int)≤s.sl.length:=by omega
   rw [g386L0e]
   simp [g386B0,sC,tC,zC,wk,h1]
 | n+1,i,hn,hi,t=>by
   have h1:(i:Int)≤s.sl.length:=by omega
   have k:=c392 (s:=s) (t:=t)
   unfold Sm at hs
   rw [g386L0e]
   cases hb:hU s.sl t with
   | none=>
     refine ⟨i,?_⟩
     rw [hb] at k
     simp at k
     simp [g386B0,sC,tC,zC,wk,h1,hb,k]
   | some x=>
     obtain ⟨_,j,hj,hx,_⟩:=fM hb
     obtain ⟨i',e⟩:=O7 hs n (i+1) (by omega) (by omega) x.ty
     refine ⟨i',?_⟩
     rw [hb] at k
     have hl:j<s.sl.length:=by obtain ⟨h,_⟩:=List.getElem?_eq_some_iff.1 hx;exact h
     rw [g386L0e] at e
     simp [hj] at k
     simp [sC,tC,zC] at e
     simp (disch:=omega) [-getElem?_pos,g386B0,sC,tC,zC,wk,h1,hb,k,hj,hx,hl,aq]
     rw [g386L0e]
     simp [e]
theorem c386 {s:dS} (hs:Sm s.sl) {t:Ty}:(aN AP).p 386 [s.pv,t.pv]=some [(wk s.sl (s.sl.length+1) t).pv]:=by
 obtain ⟨i',h⟩:=O7 hs _ 0 rfl (by omega) t
 rw [au (af:=g386) rfl rfl (by decide)]
 rw [g386L0e] at h
 simp [sC,tC,zC] at h
 simp [g386,g386L0e,h]
end Go.Ab.Lw
namespace Go.Ab.Lw
open Ev
def jY (s:List Sl) (t:Ty):Ty:=wk s (s.length+1) t
inductive Tr (s:List Sl):Ty→Nat→Prop
 | mk {t:Ty} (ns:List Nat):ns.length=(jY s t).args.length→(∀(i:Nat) a n,(jY s t).args[i]?=some a→ns[i]?=some n→Tr s a n)→Tr s t (ns.sum+1)
def JC (s:List Sl) (l:List Ty) (ns:List Nat):Prop:=ns.length=l.length∧∀(i:Nat) a n,l[i]?=some a→ns[i]?=some n→Tr s a n
theorem JC.nil {s:List Sl}:JC s [] []:=⟨rfl,by intro i a n h;simp at h⟩
theorem JC.snoc {s:List Sl} {l:List Ty} {ns:List Nat} (h:JC s l ns) {a:Ty} {n:Nat} (ha:Tr s a n):JC s (l++[a]) (ns++[n]):=by
 refine ⟨by simp [h.1],?_⟩
 intro i b m hb hm
 have hl:=h.1
 by_cases hi:i<l.length
 · rw [List.getElem?_append_left hi] at hb
   rw [List.getElem?_append_left (by omega)] at hm
   exact h.2 i b m hb hm
 · rw [List.getElem?_append_right (by omega)] at hb
   rw [List.getElem?_append_right (by omega),hl] at hm
   by_cases e:i-l.length=0
   · rw [e] at hb hm
     simp at hb hm
     rw [←hb,←hm];exact ha
   · have h1:1≤i-l.length:=by omega
     have:([a]:List Ty)[i-l.length]?=none:=by simp;omega
     rw [this] at hb;cases hb
theorem Tr.inv {s:List Sl} {t:Ty} {r:Nat} (h:Tr s t r):∃ns,JC s (jY s t).args ns∧r=ns.sum+1:=by
 cases h with
 | mk ns h1 h2=>exact ⟨ns,⟨h1,h2⟩,rfl⟩
theorem uT:∀{ns:List Nat} {i n:Nat},ns[i]?=some n→n≤ns.sum
 | a::r,0,n,h=>by simp at h;subst h;simp
 | a::r,i+1,n,h=>by simp at h;have:=uT h;simp;omega
theorem O8 {s:dS} (hs:Sm s.sl) (hO:∀x∈s.sl,x.ty.Ok) {m:Nat} (hm:m<1000000) (IH:∀m':Nat,m'<m→∀t,t.Ok→∃r:Nat,(aN AP).p 371 [s.pv,t.pv,vI m']=some [vI r]∧1≤r∧r≤m'+1∧(r≤m'→Tr s.sl t r))
   {x:Ty} (hx:x.Ok):∀(k i n:Nat),x.args.length-i=k→i≤x.args.length→1≤n→n≤m+1→(n≤m→∃ns,JC s.sl (x.args.take i) ns∧n=ns.sum+1)→∃i' n':Nat,
   cl AP g371L0 ⟨[(2,.pv (vI m)),(3,.az 3 0),(4,.az 4 0),(7,.pv (vI n)),(8,.pv (vI i))],[(3,sC s),(4,tC x)],[],[]⟩ =
     some (.exit 0,⟨[(2,.pv (vI m)),(3,.az 3 0),(4,.az 4 0),(7,.pv (vI n')),(8,.pv (vI i')),(21,.pv (.bool false))],[(3,sC s),(4,tC x)],[],[]⟩)∧1≤n'∧n'≤m+1∧(n'≤m→∃ns,JC s.sl x.args ns∧n'=ns.sum+1)
 | 0,i,n,hk,hi,h1,h2,h3=>by
   have:i=x.args.length:=by omega
   subst this
   refine ⟨x.args.length,n,?_,h1,h2,by simpa using h3⟩
   rw [g371L0e]
   simp [g371B0,sC,tC]
 | k+1,i,n,hk,hi,h1,h2,h3=>by
   have hi:i<x.args.length:=by omega
   obtain ⟨a,ha⟩:=bn hi
   have hsm:=hx.sm
   unfold Sm at hsm
   by_cases hn:n≤m
   · have g0:m-n<m:=by clear h3;omega
     obtain ⟨r,e,r1,r2,r3⟩:=IH (m-n) g0 a (hx.fw a (bo ha))
     have hsub:((m:Int)-n)=((m-n:Nat):Int):=by clear h3 r3;omega
     have g5:n+r≤m→∃ns,JC s.sl (x.args.take (i+1)) ns∧n+r=ns.sum+1:=by
       intro h
       obtain ⟨ns,q,e2⟩:=h3 hn
       refine ⟨ns++[r],?_,by rw [List.sum_append,e2];simp;omega⟩
       rw [List.take_add_one,ha]
       have hr:r≤m-n:=by clear h3;omega
       exact q.snoc (r3 hr)
     clear h3
     have g1:x.args.length-(i+1)=k:=by clear g5 r3;omega
     have g2:1≤n+r:=by clear g5 r3;omega
     have g3:n+r≤m+1:=by clear g5 r3;omega
     obtain ⟨i',n',e',q1,q2,q3⟩:=O8 hs hO hm IH hx k (i+1) (n+r) g1 hi g2 g3 g5
     refine ⟨i',n',?_,q1,q2,q3⟩
     have hnm:(n:Int)≤m:=by omega
     rw [g371L0e] at e' ⊢
     simp at e
     simp [sC,tC] at e'
     simp (disch:=omega) [-getElem?_pos,g371B0,sC,tC,hi,ha,hnm,aq,hsub,e]
     rw [g371L0e]
     simp [e']
   · refine ⟨i,n,?_,h1,h2,fun h=>absurd h hn⟩
     clear h3
     have hnm:¬(n:Int)≤m:=by omega
     rw [g371L0e]
     simp (disch:=omega) [-getElem?_pos,g371B0,sC,tC,hi,hnm]
theorem c371 {s:dS} (hs:Sm s.sl) (hO:∀x∈s.sl,x.ty.Ok) (m:Nat) (hm:m<1000000):∀t:Ty,t.Ok→∃r:Nat,(aN AP).p 371 [s.pv,t.pv,vI m]=some [vI r]∧1≤r∧r≤m+1∧(r≤m→Tr s.sl t r):=by
 induction m using Nat.strongRecOn with
 | ind m ih=>
   intro t ht
   have k:=c386 hs (t:=t)
   have hw:(wk s.sl (s.sl.length+1) t).Ok:=kS hO ht
   obtain ⟨i',n',e,q1,q2,q3⟩:=O8 hs hO hm (fun m' h t ht=>ih m' h (by omega) t ht) hw _ 0 1 rfl (by omega) (by omega) (by omega) (fun _=>⟨[],by simpa using JC.nil,rfl⟩)
   refine ⟨min n' (m+1),?_,by clear q3;omega,by clear q3;omega,?_⟩
   · rw [au (af:=g371) rfl rfl (by decide)]
     rw [g371L0e] at e
     have hmin:min (n':Int) ((m:Int)+1)=((min n' (m+1):Nat):Int):=by omega
     generalize wk s.sl (s.sl.length+1) t=x at *
     simp at k
     simp [sC,tC] at e
     simp (disch:=omega) [g371,k,g371L0e,e,aq,hmin]
     omega
   · intro h
     have hq:n'≤m:=by clear q3;omega
     obtain ⟨ns,a,b⟩:=q3 hq
     have:min n' (m+1)=ns.sum+1:=by omega
     rw [this]
     exact .mk ns a.1 a.2
end Go.Ab.Lw
namespace Go.Ab.Lw
open Ev
def uC (x:Ty) (acc:List Ty) (k:Nat):List AV:=[.pv (vI x.kind),.pv (.str x.name),.pv (vI x.id),.pv (vI x.home),.own (acc.map Ty.pv) k]
theorem O9 {s:dS} {x:Ty} (hx:x.Ok) {ns:List Nat} (hns:ns.length=x.args.length) (IH:∀(i:Nat) a n,x.args[i]?=some a→ns[i]?=some n→∃u:Ty,(aN AP).p 373 [s.pv,a.pv]=some [u.pv]∧u.Ok∧u.nodes.length=n):∀(k i:Nat),x.args.length-i=k→i≤x.args.length→∀acc:List Ty,acc.length=i→(∀u∈acc,u.Ok)→(acc.flatMap Ty.nodes).length=(ns.take i).sum→∃us:List Ty,
   cl AP g373L0 ⟨[(2,.az 2 0),(3,.az 3 0),(4,.az 4 0),(5,.az 5 0),(6,.pv (vI i))],[(2,sC s),(3,tC x),(4,zC 0),(5,uC x acc 1)],[],[0,acc.length]⟩ =
     some (.exit 0,⟨[(2,.az 2 0),(3,.az 3 0),(4,.az 4 0),(5,.az 5 0),(6,.pv (vI x.args.length)),(16,.pv (.bool false))],[(2,sC s),(3,tC x),(4,zC 0),(5,uC x us 1)],[],[0,us.length]⟩)∧us.length=x.args.length∧(∀u∈us,u.Ok)∧(us.flatMap Ty.nodes).length=ns.sum
 | 0,i,hk,hi,acc,ha,hu,hc=>by
   have:i=x.args.length:=by omega
   subst this
   refine ⟨acc,?_,ha,hu,by rw [hc,←hns,List.take_length]⟩
   rw [g373L0e]
   simp [g373B0,sC,tC,zC,uC]
 | k+1,i,hk,hi,acc,ha,hu,hc=>by
   have hi:i<x.args.length:=by omega
   obtain ⟨a,hax⟩:=bn hi
   obtain ⟨n,hn⟩:=bn (l:=ns) (i:=i) (by omega)
   have hsm:=hx.sm
   unfold Sm at hsm
   obtain ⟨u,e,hO,hnn⟩:=IH i a n hax hn
   obtain ⟨us,e',h1,h2,h3⟩:=O9 hx hns IH k (i+1) (by omega) (by omega) (acc++[u]) (by simp;omega) (by
     intro y hy;simp at hy;rcases hy with hy | rfl
     · exact hu y hy
     · exact hO) (by rw [List.take_add_one,hn,List.flatMap_append,List.length_append,hc];simp [hnn])
   refine ⟨us,?_,h1,h2,h3⟩
   have hb:(acc.length+1)*64≤140737488355328:=by omega
   rw [g373L0e] at e' ⊢
   simp at e
   simp [sC,tC,zC,uC] at e'
   simp (disch:=omega) [-getElem?_pos,g373B0,sC,tC,zC,uC,hi,hax,aq,e,hb]
   rw [g373L0e]
   simp [e']
theorem c373 {s:dS} (hs:Sm s.sl) (hO:∀x∈s.sl,x.ty.Ok) (r:Nat):∀t:Ty,Tr s.sl t r→t.Ok→∃u:Ty,(aN AP).p 373 [s.pv,t.pv]=some [u.pv]∧u.Ok∧u.nodes.length=r:=by
 induction r using Nat.strongRecOn with
 | ind r ih=>
   intro t ht hto
   have k:=c386 hs (t:=t)
   have hw:(wk s.sl (s.sl.length+1) t).Ok:=kS hO hto
   obtain ⟨ns,hn,hr⟩:=ht.inv
   unfold jY at hn
   obtain ⟨us,e,h1,h2,h3⟩:=O9 (s:=s) hw hn.1 (fun i a n hi hni=>by
     have:=uT hni
     exact ih n (by omega) a (hn.2 i a n hi hni) (hw.fw a (bo hi))) _ 0 rfl (by omega) [] rfl (by simp) rfl
   refine ⟨⟨(wk s.sl (s.sl.length+1) t).kind,(wk s.sl (s.sl.length+1) t).name,(wk s.sl (s.sl.length+1) t).id,(wk s.sl (s.sl.length+1) t).home,us⟩,?_,⟨by have:=hw.sm;unfold Sm at *;simp only;omega,h2⟩,by rw [Ty.bp];simp only [List.length_cons];omega⟩
   rw [au (af:=g373) rfl rfl (by decide)]
   rw [g373L0e] at e
   generalize wk s.sl (s.sl.length+1) t=x at *
   simp at k
   simp [sC,tC,zC,uC] at e
   simp [g373,k,g373L0e,e]
theorem c355 {s:dS} (hs:Sm s.sl) (hO:∀x∈s.sl,x.ty.Ok) {m:Nat} (hm:m<1000000) {t:Ty} (ht:t.Ok):∃r:Nat,(aN AP).p 355 [s.pv,t.pv,vI m]=some [vI r]∧1≤r∧r≤m+1∧(r≤m→Tr s.sl t r):=by
 obtain ⟨r,e,h⟩:=c371 hs hO m hm t ht
 refine ⟨r,?_,h⟩
 rw [au (af:=g355) rfl rfl (by decide)]
 simp at e
 have hmx:max (m:Int) 0=m:=by omega
 simp [g355,hmx,e]
theorem c358 {s:dS} (hs:Sm s.sl) (hO:∀x∈s.sl,x.ty.Ok) {t:Ty} (ht:t.Ok):∃(u:Ty) (b:Bool),(aN AP).p 358 [s.pv,t.pv]=some [u.pv,.bool b]∧u.Ok∧u.nodes.length≤4000:=by
 obtain ⟨r,e,h1,h2,h3⟩:=c355 hs hO (m:=4000) (by omega) ht
 simp at e
 by_cases hr:r≤4000
 · obtain ⟨u,e2,hu,hnu⟩:=c373 hs hO r t (h3 hr) ht
   refine ⟨u,true,?_,hu,by omega⟩
   simp at e2
   have hr':¬(4000:Int)<r:=by omega
   rw [au (af:=g358) rfl rfl (by decide)]
   simp [g358,e,hr',e2]
 · refine ⟨bR,false,?_,cW rfl,by rw [Ty.bp];simp [bR]⟩
   have hr':(4000:Int)<r:=by omega
   rw [au (af:=g358) rfl rfl (by decide)]
   simp [g358,e,hr',bR]
theorem c388:(aN AP).p 388 []=some [(dS.mk [] []).pv]:=by
 rw [au (af:=g388) rfl rfl (by decide)]
 simp [g388]
def dq (s:dS) (home:Int) (b:Bool):dS:=⟨s.sl++[⟨false,bR,home,b⟩],s.tr++[⟨s.sl.length,⟨false,bR,0,false⟩,true⟩]⟩
theorem c381 {s:dS} {n m:Nat} (hs:s.Ok n m) (hn:n≤1000000) (hm:m≤1000000000) (home:Int) (b:Bool):(aN AP).p 381 [s.pv,vI home,.bool b]=some [(dq s home b).pv,(cm s.sl.length).pv]:=by
 have k:=c63 (n:=s.sl.length)
 have h1:=hs.sl
 have h2:=hs.tr
 have b1:s.sl.length*88≤140737488355328:=by omega
 have b2:(s.sl.length+1)*88≤140737488355328:=by omega
 have b3:s.tr.length*104≤140737488355328:=by omega
 have b4:(s.tr.length+1)*104≤140737488355328:=by omega
 have e1:=LU.head s.sl
 have e2:=IM.head s.tr
 simp at k e1 e2
 rw [au (af:=g381) rfl rfl (by decide)]
 simp (disch:=omega) [g381,dq,bR,cm,k,b1,b2,b3,b4,e1,e2]
 (repeat' split)<;>simp_all
end Go.Ab.Lw
namespace Go.Ab.Lw
open Ev
def tx (l:List (List UInt8)):List AV:=l.map fun s=>AV.pv (.str s)
def SA (X:Sh) (l:List (List UInt8)) (t:List UInt8):Sh:=X++[some (tx l),some [.pv (.str t)]]
end Go.Ab.Lw
namespace Go.Ab.Lw
open Ev
structure Row {α:Type} (f:α→List PV) (sz:Nat):Prop where
 pos:0<sz
 len:∀x,(f x).length=sz
section
variable {α:Type} {f:α→List PV} {sz:Nat}
def bj (f:α→List PV) (l:List α):List AV:=l.flatMap fun x=>(f x).map .pv
theorem K7:bj f []=[]:=rfl
theorem jx {x:α} {l:List α}:bj f (x::l)=(f x).map .pv++bj f l:=rfl
theorem uU {l m:List α}:bj f (l++m)=bj f l++bj f m:=by simp [bj]
theorem cK (h:Row f sz):∀{l:List α},(bj f l).length=l.length*sz
 | []=>by simp [bj]
 | x::r=>by rw [jx,List.length_append,List.length_map,h.len,cK h,List.length_cons,Nat.add_mul];omega
theorem bJ {l:List α}:∀v∈bj f l,∃p,v=AV.pv p:=by
 intro v hv
 simp only [bj,List.mem_flatMap,List.mem_map] at hv
 obtain ⟨x,_,p,_,rfl⟩:=hv
 exact ⟨p,rfl⟩
theorem nA (h:Row f sz):∀{l:List α} {i:Nat} {x:α},l[i]?=some x→(bj f l).drop (i*sz)=(f x).map .pv++bj f (l.drop (i+1))
 | x::r,0,y,e=>by simp at e;subst e;simp [bj]
 | x::r,i+1,y,e=>by
   have ih:=nA h (l:=r) (i:=i) (x:=y) (by simpa using e)
   rw [jx,List.drop_append,List.drop_eq_nil_of_le (by rw [List.length_map,h.len,Nat.add_mul];omega),List.length_map,h.len,show (i+1)*sz-sz=i*sz from by rw [Nat.add_mul];omega,ih]
   simp
 | [],_,_,e=>by simp at e
theorem xT (h:Row f sz):∀{l:List α} {i:Nat},i≤l.length→(bj f l).take (i*sz)=bj f (l.take i)
 | l,0,_=>by simp [bj]
 | x::r,i+1,e=>by
   have ih:=xT h (l:=r) (i:=i) (by simpa using e)
   rw [jx,List.take_append,List.take_of_length_le (by rw [List.length_map,h.len,Nat.add_mul];omega),List.length_map,h.len,show (i+1)*sz-sz=i*sz from by rw [Nat.add_mul];omega,ih]
   simp [jx]
 | [],i+1,e=>by simp at e
theorem je (h:Row f sz) {l:List α} {i:Nat} {x:α} (e:l[i]?=some x) {o k:Nat} (hk:o+k≤sz):((bj f l).drop (i*sz+o)).take k=(((f x).drop o).take k).map .pv:=by
 rw [←List.drop_drop,nA h e,List.drop_append,List.take_append,List.length_drop,List.length_map,h.len]
 have e1:k-(sz-o)=0:=by omega
 rw [e1,List.take_zero,List.append_nil,←List.map_drop,←List.map_take]
theorem Ns (h:Row f sz) {l:List α} {i:Nat} (hi:i<l.length) {o k:Nat} (hk:o+k≤sz):i*sz+o+k≤(bj f l).length:=by
 rw [cK h]
 have:(i+1)*sz≤l.length*sz:=Nat.mul_le_mul_right _ hi
 rw [Nat.add_mul] at this
 omega
theorem K8 (h:Row f sz) {l:List α} {i:Nat} {x:α} (e:l[i]?=some x) {o:Nat} (hk:o<sz) {p:PV} (hp:(f x)[o]?=some p):(bj f l)[i*sz+o]?=some (.pv p):=by
 have e1:=nA h e
 rw [←List.getElem?_drop,e1,List.getElem?_append_left (by rw [List.length_map,h.len];exact hk),List.getElem?_map,hp]
 rfl
theorem iz (h:Row f sz) {l:List α} {i:Nat} {x y:α} (e:l[i]?=some x) {o:Nat} {vs:List PV} (hk:o+vs.length≤sz) (hy:f y=(f x).take o++vs++(f x).drop (o+vs.length)):bA (bj f l) (i*sz+o) (vs.map .pv)=bj f (l.set i y):=by
 have hi:=(List.getElem?_eq_some_iff.1 e).1
 have e3:l.set i y=l.take i++y::l.drop (i+1):=by rw [List.set_eq_take_append_cons_drop,if_pos hi]
 have e1:=nA h e
 have e2:=xT h (l:=l) (i:=i) (by omega)
 rw [e3,aP,uU,jx,←e2,hy]
 have e4:(bj f l).drop (i*sz+o+(vs.map AV.pv).length)=((f x).drop (o+vs.length)).map .pv++bj f (l.drop (i+1)):=by
   rw [List.length_map,Nat.add_assoc,←List.drop_drop,e1,List.drop_append,List.length_map,h.len,show o+vs.length-sz=0 from by omega]
   simp
 have e5:(bj f l).take (i*sz+o)=(bj f l).take (i*sz)++((f x).take o).map .pv:=by
   rw [List.take_add,e1,List.take_append,List.length_map,h.len,show o-sz=0 from by omega]
   simp
 rw [e4,e5]
 simp
theorem rH (h:Row f sz) {l:List α} {i:Nat} {x y:α} (e:l[i]?=some x) {o:Nat} {p:PV} (hk:o+1≤sz) (hy:f y=(f x).take o++[p]++(f x).drop (o+1)):bA (bj f l) (i*sz+o) [.pv p]=bj f (l.set i y):=
 iz h e (vs:=[p]) (by simpa using hk) hy
theorem Cq (h:Row f sz):∀{l:List α},∃ps,fh (bj f l)=some ps∧(chunk sz l.length ps).map PV.agg=l.map fun x=>.agg (f x)
 | []=>⟨[],rfl,rfl⟩
 | x::r=>by
   obtain ⟨ps,h1,h2⟩:=Cq h (l:=r)
   have key:∀(a:List PV) (b:List AV),fh b=some ps→fh (a.map AV.pv++b)=some (a++ps):=by
     intro a b hb
     induction a with
     | nil=>simpa using hb
     | cons c a ih=>simp only [List.map_cons,List.cons_append,fh,jC,ih]
   refine ⟨f x++ps,key _ _ h1,?_⟩
   simp only [List.length_cons,chunk,List.map_cons]
   rw [List.take_left' (h.len x),List.drop_left' (h.len x),h2]
theorem pY (h:Row f sz) {l:List α}:((fh (bj f l)).bind (fm sz true l.length)).map PV.aD=some (.aD (l.map fun x=>.agg (f x))):=by
 obtain ⟨ps,h1,h2⟩:=Cq h (l:=l)
 rw [h1]
 simp only [Option.bind_some,fm,if_true,Option.map_some,h2]
theorem pZ (h:Row f sz) {l:List α}:((l.map fun x=>PV.agg (f x)).flatMap bz).map AV.pv=bj f l:=by
 induction l with
 | nil=>rfl
 | cons x r ih=>simp only [List.map_cons,List.flatMap_cons,List.map_append,ih,jx,bz]
end
abbrev nn (k:Nat):Sh:=List.replicate k none
theorem dr (k:Nat):bq (nn k):=by
 intro cs hc
 simp [nn,List.mem_replicate] at hc
end Go.Ab.Lw
namespace Go.Ab.Lw
open Ev
theorem Nt {sz:Nat} {l:List PV} {k:IntKind} {h:Int} (h0:0≤h) (h1:h≤l.length):cP false sz false true false [.pv (.aD l),.pv (.int k h)]=some (.pv (.aD (l.take h.toNat))):=by
 simp [cP,dY,ee,h0,h1]
theorem O_ {sz τ:Nat} {l:List PV} {k:IntKind} {h:Int} (h0:0≤h) (h1:h≤l.length):cP false sz false true false [.own l τ,.pv (.int k h)]=some (.pv (.aD (l.take h.toNat))):=by
 simp [cP,dY,ee,h0,h1]
end Go.Ab.Lw
namespace Go.Ab.Lw
open Ev
def Sl.cells (x:Sl):List PV:=[.bool x.bd,vI x.ty.kind,.str x.ty.name,vI x.ty.id,vI x.ty.home,.aD (x.ty.args.map Ty.pv),vI x.home,.bool x.base]
theorem mB:Row Sl.cells 8:=⟨by omega,fun _=>rfl⟩
theorem Nu {l:List Sl}:((fh (bj Sl.cells l)).bind (fm 8 true l.length)).map PV.aD=some (.aD (l.map Sl.pv)):=pY mB
theorem Nv {l:List Sl}:((l.map Sl.pv).flatMap bz).map AV.pv=bj Sl.cells l:=pZ mB
def gD (s:dS) (i:Nat) (o x:Sl):dS:=⟨s.sl.set i x,s.tr++[⟨i,o,false⟩]⟩
theorem c393 {s:dS} {n m:Nat} (hs:s.Ok n m) (hn:n≤1000000) (hm:m≤1000000000) {i:Nat} {o:Sl} (hi:s.sl[i]?=some o) (x:Sl):(aN AP).p 393 [s.pv,vI i,x.pv]=some [(gD s i o x).pv,.bool true]:=by
 have h1:=hs.sl
 have h2:=hs.tr
 have hl:i<s.sl.length:=by obtain ⟨h,_⟩:=List.getElem?_eq_some_iff.1 hi;exact h
 have b1:s.sl.length*88≤140737488355328:=by omega
 have b3:s.tr.length*104≤140737488355328:=by omega
 have b4:(s.tr.length+1)*104≤140737488355328:=by omega
 have hge:¬s.sl.length≤i:=by omega
 have hle8:i*8+8≤s.sl.length*8:=by omega
 have hf:∀S:Sh,c_ S (.az 8 0)=none:=fun _=>rfl
 have e1:=LU.head s.sl
 have e2:=IM.head s.tr
 have hne:¬s.sl=[]:=by intro h;rw [h] at hl;simp at hl
 have hmp:=Nv (l:=s.sl)
 have hB:cR (bj Sl.cells s.sl)=false:=db bJ
 have hB2:cR (bj Sl.cells (s.sl.set i x))=false:=db bJ
 have hlen:(bj Sl.cells s.sl).length=s.sl.length*8:=cK mB
 have hlen2:(bj Sl.cells (s.sl.set i x)).length=s.sl.length*8:=by rw [cK mB];simp
 have hle:=Ns mB hl (o:=0) (k:=8) (by omega)
 have hset:=iz mB hi (y:=x) (o:=0) (vs:=x.cells) (by rw [mB.len];omega) (by
   simp [Sl.cells])
 have hq:∀aW ts,b_ aW ts [some (bj Sl.cells s.sl)]=([some (bj Sl.cells s.sl)],aW,ts):=(bq.one bJ).norm
 have hq2:∀aW ts,b_ aW ts [some (bj Sl.cells (s.sl.set i x))]=([some (bj Sl.cells (s.sl.set i x))],aW,ts):=(bq.one bJ).norm
 have hlst:=Nu (l:=s.sl.set i x)
 rw [List.length_set] at hlst
 simp only [Nat.add_zero] at hset hle
 generalize bj Sl.cells (s.sl.set i x)=T1 at *
 generalize bj Sl.cells s.sl=T at *
 simp [Sl.cells] at hset
 simp at hlst hmp e1 e2
 rw [au (af:=g393) rfl rfl (by decide)]
 simp (disch:=omega) [-getElem?_pos,g393,hi,hl,b1,b3,b4,e1,e2,hne,hmp,hB,hB2,hlen,hlen2,hset,hq,hq2,hlst,gD,hge,hle8,hf]
end Go.Ab.Lw
namespace Go.Ab.Lw
open Ev
theorem c194g {t:Ty} (ht:t.Ok):∃(a b:Ty) (c:Bool),(aN AP).p 194 [t.pv]=some [a.pv,b.pv,.bool c]∧a.Ok∧b.Ok∧(c=true→t=⟨4,[45,62],t.id,t.home,[a,b]⟩):=by
 by_cases h:t.kind=4∧t.name=[45,62]∧t.args.length=2
 · obtain ⟨h1,h2,h3⟩:=h
   match e:t.args,h3 with
   | [a,b],_=>
     refine ⟨a,b,true,?_,ht.fw a (by simp [e]),ht.fw b (by simp [e]),?_⟩
     · rw [au (af:=g194) rfl rfl (by decide)]
       simp [g194,h1,h2,e]
     · intro _
       cases t
       simp at h1 h2 e ⊢
       simp [h1,h2,e]
 · refine ⟨bR,bR,false,?_,cW rfl,cW rfl,by simp⟩
   rw [au (af:=g194) rfl rfl (by decide)]
   by_cases h1:t.kind=4
   · by_cases h2:t.name=[45,62]
     · have h3:¬(t.args.length:Int)=2:=by
         intro q;exact h ⟨h1,h2,by omega⟩
       simp [g194,h1,h2,h3,bR]
     · simp [g194,h1,h2,bR]
   · simp [g194,h1,bR]
theorem QD {S:List Ty} {l:List Ty} (hS:Sm l) (hO:∀t∈l,t.Ok) (hk:∀x∈l.flatMap (Ty.eN 3),x∈S):∀(n i:Nat),l.length-i=n→i≤l.length→∀out,fE S out →
   cl AP g59L0 ⟨[(0,.pv (.aD (l.map Ty.pv))),(3,.own (out.map Ty.pv) 0),(4,.pv (vI i))],[],[],[out.length]⟩ =
     some (.exit 0,⟨[(0,.pv (.aD (l.map Ty.pv))),(3,.own ((((l.drop i).flatMap (Ty.eN 3)).foldl gC out).map Ty.pv) 0),(4,.pv (vI l.length)),(8,.pv (.bool false))],[],[],[(((l.drop i).flatMap (Ty.eN 3)).foldl gC out).length]⟩)
 | 0,i,hn,hi,out,hc=>by
   have:i=l.length:=by omega
   subst this
   rw [g59L0e]
   simp [g59B0]
 | n+1,i,hn,hi,out,hc=>by
   have hi:i<l.length:=by omega
   obtain ⟨x,hx⟩:=bn hi
   unfold Sm at hS
   have hkx:∀y∈x.eN 3,y∈S:=fun y hy=>hk y (by simp only [List.mem_flatMap];exact ⟨x,bo hx,hy⟩)
   have k:=c99 (kd:=3) (hO x (bo hx)) hkx out hc
   have ih:=QD hS hO hk n (i+1) (by omega) (by omega) _ (hc.fold hkx)
   rw [g59L0e] at ih ⊢
   rw [bC hx]
   simp at k ih
   simp (disch:=omega) [-getElem?_pos,g59B0,hx,hi,k,aq]
   rw [g59L0e]
   simp [ih]
theorem c59 {S:List Ty} (hf:S.length<1099511627776) (hSo:∀x∈S,x.Ok) {l:List Ty} (hS:Sm l) (hO:∀t∈l,t.Ok) (hk:∀x∈l.flatMap (Ty.eN 3),x∈S):∃r:List Ty,(aN AP).p 59 [.aD (l.map Ty.pv)]=some [.aD (r.map Ty.pv)]∧Sm r∧∀x∈r,x∈S:=by
 have c0:fE S []:=⟨by simp,by simp,hf,hSo⟩
 have h:=QD hS hO hk _ 0 rfl (by omega) [] c0
 have hc:=c0.fold hk
 refine ⟨_,?_,hc.len,hc.sub⟩
 rw [au (af:=g59) rfl rfl (by decide)]
 rw [g59L0e] at h
 simp at h
 simp [g59,g59L0e,h]
def lS (s:List Sl) (t:Ty):Bool:=decide (t.kind=1∧0≤t.id∧t.id<s.length)
theorem c396 {s:dS} {t:Ty}:(aN AP).p 396 [s.pv,t.pv]=some [.bool (lS s.sl t)]:=by
 rw [au (af:=g396) rfl rfl (by decide)]
 by_cases h1:t.kind=1
 · by_cases h2:0≤t.id
   · by_cases h3:t.id<s.sl.length
     · simp [g396,lS,h1,h2,h3]
     · simp [g396,lS,h1,h2,h3]
   · simp [g396,lS,h1,h2]
 · simp [g396,lS,h1]
end Go.Ab.Lw
namespace Go.Ab.Lw
open Ev
inductive gU:Ty→Int→Prop
 | var {t:Ty}:t.kind=1→gU t t.id
 | arg {t a:Ty} {v:Int}:t.kind≠1→a∈t.args→gU a v→gU t v
def Edge (s:List Sl) (i v:Int):Prop:=∃(k:Nat) (x:Sl),i=k∧s[k]?=some x∧x.bd=true∧gU x.ty v
inductive Cr (s:List Sl):Int→Int→Prop
 | refl (i:Int):Cr s i i
 | step {i j k:Int}:Edge s i j→Cr s j k→Cr s i k
def F3 (s:List Sl):Prop:=∃rk:Int→Nat,∀i v,Edge s i v→rk v<rk i
theorem F3.of {s s':List Sl} (h:F3 s) (he:∀i v,Edge s' i v→Edge s i v):F3 s':=by
 obtain ⟨rk,hr⟩:=h
 exact ⟨rk,fun i v e=>hr i v (he i v e)⟩
theorem gU.bound (rk:Int→Nat) (t:Ty):∃M,∀v,gU t v→rk v<M:=by
 refine Ty.eD (p:=fun t=>∃M,∀v,gU t v→rk v<M) ?_ t
 intro t ih
 by_cases k:t.kind=1
 · refine ⟨rk t.id+1,?_⟩
   intro v h
   cases h with
   | var _=>omega
   | arg q _ _=>exact absurd k q
 · have key:∀l:List Ty,(∀a∈l,∃M,∀v,gU a v→rk v<M)→∃M,∀a∈l,∀v,gU a v→rk v<M:=by
     intro l
     induction l with
     | nil=>intro _;exact ⟨0,by simp⟩
     | cons a r ihr=>
       intro h
       obtain ⟨M,hM⟩:=h a (by simp)
       obtain ⟨N,hN⟩:=ihr fun b hb=>h b (by simp [hb])
       refine ⟨M+N,?_⟩
       intro b hb v hv
       simp at hb
       rcases hb with rfl | hb
       · have:=hM v hv;omega
       · have:=hN b hb v hv;omega
   obtain ⟨M,hM⟩:=key t.args ih
   refine ⟨M,?_⟩
   intro v h
   cases h with
   | var q=>exact absurd q k
   | arg _ ha h=>exact hM _ ha v h
theorem xU {s:List Sl} {k:Nat} {x:Sl} {i v:Int} (h:Edge (s.set k x) i v):(i=k∧x.bd=true∧gU x.ty v)∨(i≠k∧Edge s i v):=by
 obtain ⟨j,y,rfl,hy,hb,ho⟩:=h
 rw [List.getElem?_set] at hy
 by_cases e:k=j
 · subst e
   by_cases hl:k<s.length
   · simp [hl] at hy
     subst hy
     exact .inl ⟨rfl,hb,ho⟩
   · simp [hl] at hy
 · simp [e] at hy
   exact .inr ⟨by omega,j,y,rfl,hy,hb,ho⟩
theorem xW {s:List Sl} {k:Nat} {o x:Sl} (h:F3 s) (hk:s[k]?=some o) (hb:x.bd=o.bd) (ht:x.ty=o.ty):F3 (s.set k x):=by
 refine h.of ?_
 intro i v e
 rcases xU e with ⟨rfl,b,oc⟩ | ⟨_,e⟩
 · exact ⟨k,o,rfl,hk,by rw [←hb];exact b,by rw [←ht];exact oc⟩
 · exact e
theorem xX {s:List Sl} {k:Nat} {x:Sl} (h:F3 s) (hn:∀v,gU x.ty v→¬Cr s v k):F3 (s.set k x):=by
 classical
 obtain ⟨rk,hr⟩:=h
 obtain ⟨M,hM⟩:=gU.bound rk x.ty
 refine ⟨fun j=>if Cr s j k then rk j+M else rk j,?_⟩
 intro i v e
 show (if Cr s v k then rk v+M else rk v)<(if Cr s i k then rk i+M else rk i)
 rcases xU e with ⟨rfl,b,oc⟩ | ⟨_,e⟩
 · have h1:=hM v oc
   rw [if_neg (hn v oc),if_pos (.refl _)]
   omega
 · have h1:=hr i v e
   by_cases q:Cr s v k
   · rw [if_pos q,if_pos (.step e q)];omega
   · rw [if_neg q]
     split<;>omega
theorem IN {s:List Sl} {x:Sl} (h:F3 s) (hb:x.bd=false):F3 (s++[x]):=by
 refine h.of ?_
 rintro i v ⟨k,y,rfl,hy,b,o⟩
 by_cases hl:k<s.length
 · rw [List.getElem?_append_left hl] at hy
   exact ⟨k,y,rfl,hy,b,o⟩
 · rw [List.getElem?_append_right (by omega)] at hy
   by_cases e:k-s.length=0
   · rw [e] at hy
     simp at hy
     subst hy
     rw [hb] at b;cases b
   · have:([x]:List Sl)[k-s.length]?=none:=by simp;omega
     rw [this] at hy;cases hy
def ub (s:List Sl):Nat:=s.countP fun x=>!x.bd
theorem p6:∀{s:List Sl} {k:Nat} {o x:Sl},s[k]?=some o→x.bd=o.bd→ub (s.set k x)=ub s
 | [],k,o,x,h,_=>by simp at h
 | a::r,0,o,x,h,hb=>by simp at h;subst h;simp [ub,List.countP_cons,hb]
 | a::r,k+1,o,x,h,hb=>by
   simp at h
   have:=p6 h hb
   simp only [ub] at this
   simp [ub,List.countP_cons,this]
theorem uV:∀{s:List Sl} {k:Nat} {o x:Sl},s[k]?=some o→o.bd=false→x.bd=true→ub (s.set k x)+1=ub s
 | [],k,o,x,h,_,_=>by simp at h
 | a::r,0,o,x,h,hb,hx=>by simp at h;subst h;simp [ub,List.countP_cons,hb,hx]
 | a::r,k+1,o,x,h,hb,hx=>by
   simp at h
   have:=uV h hb hx
   simp only [ub] at this
   simp [ub,List.countP_cons]
   omega
end Go.Ab.Lw
namespace Go.Ab.Lw
open Ev
def bT (dn:List Bool):List AV:=dn.map fun b=>.pv (.bool b)
def fX (s:dS) (T:List AV) (n:Nat) (out:List Int):Sh:=[some T,some [.pv (.aD (s.sl.map Sl.pv)),.pv (.aD (s.tr.map Ch.pv)),.own (out.map vI) 0,.bu 0 1 n false]]
structure LV (T:List AV):Prop where
 norm:∀aW ts,bL aW ts T=(T,aW,ts)
 mp:cR T=false
 sh:∀k,T.map (cI k)=T
theorem O' {s:dS} {S out:List Int} {t:Ty} (hk:t.kind=1) (hb:hU s.sl t=none) (hc:iy S out) {T:List AV} (hT:LV T) {n:Nat} :
   (aN AP).i 387 [.a_ 1 0,.pv t.pv] (fX s T n out) [out.length]=some ([],fX s T n (if t.id∈out then out else out++[t.id]),[(if t.id∈out then out else out++[t.id]).length]):=by
 have k1:=c392 (s:=s) (t:=t)
 have hl:=hc.len
 have k2:=c95 hl (y:=t.id)
 unfold Sm at hl
 have hbb:(out.length+1)*8≤140737488355328:=by omega
 have hh:bI 1 (out.map vI)=true:=kO.head out
 have hn:=hT.norm
 rw [hb] at k1
 simp [hk] at k1
 rw [aR (af:=g387) rfl (by simp [g387])]
 by_cases e2:t.id∈out
 · rw [decide_eq_true e2] at k2
   simp [g387,fX,hk,k1,k2,e2,hn]
 · rw [decide_eq_false e2] at k2
   simp [g387,fX,hk,k1,k2,e2,hn,hbb,hh]
theorem Pa {s:dS} {out:List Int} {t:Ty} {x:Sl} {i:Nat} (hi:t.id=i) (hk:t.kind=1) (hx:s.sl[i]?=some x) (hb:hU s.sl t=some x) {T:List AV} (hT:LV T) {n:Nat} (hn:T.length=n) (hin:i<n) (hd:T[i]?=some (.pv (.bool true))) :
   (aN AP).i 387 [.a_ 1 0,.pv t.pv] (fX s T n out) [out.length]=some ([],fX s T n out,[out.length]):=by
 have k1:=c392 (s:=s) (t:=t)
 have hnm:=hT.norm
 have hmp:=hT.mp
 have hsh:=hT.sh
 have hle:i+1≤T.length:=by omega
 rw [hb] at k1
 simp [hk,hi] at k1
 rw [aR (af:=g387) rfl (by simp [g387])]
 simp (disch:=omega) [-getElem?_pos,g387,fX,hk,hi,k1,hnm,hin,hd,hmp,hle,cf]
theorem Pb {s:dS} {out out':List Int} {t:Ty} {x:Sl} {i:Nat} (hi:t.id=i) (hk:t.kind=1) (hx:s.sl[i]?=some x) (hb:hU s.sl t=some x) {T T1 T2:List AV} (hT:LV T) (hT1:LV T1) (hT2:LV T2) {n:Nat} (hn:T.length=n) (hin:i<n) (hd:T[i]?=some (.pv (.bool false)))
   (hs:bA T i [.pv (.bool true)]=T1) (e:(aN AP).i 387 [.a_ 1 0,.pv x.ty.pv] (fX s T1 n out) [out.length]=some ([],fX s T2 n out',[out'.length])) :
   (aN AP).i 387 [.a_ 1 0,.pv t.pv] (fX s T n out) [out.length]=some ([],fX s T2 n out',[out'.length]):=by
 have k1:=c392 (s:=s) (t:=t)
 have hnm:=hT.norm
 have hnm1:=hT1.norm
 have hnm2:=hT2.norm
 have hsh1:=hT1.sh
 have hsh2:=hT2.sh
 have hmp:=hT.mp
 have hsh:=hT.sh
 have hl:i<s.sl.length:=by obtain ⟨h,_⟩:=List.getElem?_eq_some_iff.1 hx;exact h
 have hle:i+1≤T.length:=by omega
 rw [hb] at k1
 simp [hk,hi] at k1
 simp [fX] at e
 simp at hs
 rw [aR (af:=g387) rfl (by simp [g387])]
 simp (disch:=omega) [-getElem?_pos,g387,fX,hk,hi,k1,hnm,hnm1,hnm2,hin,hd,hx,hl,hmp,hs,hle,e,cf,hsh,hsh1,hsh2]
def Nw (s:dS) (n:Nat) (t:Ty) (T:List AV) (out:List Int) (T':List AV) (out':List Int):Prop:=(aN AP).i 387 [.a_ 1 0,.pv t.pv] (fX s T n out) [out.length]=some ([],fX s T' n out',[out'.length])
theorem Pc {s:dS} {n:Nat} {t:Ty} (ht:t.Ok) (J:Nat→List AV→List Int→Prop) (hP:∀i T out,J i T out→LV T)
   (hJ:∀i a,t.args[i]?=some a→∀T out,J i T out→∃T' out',Nw s n a T out T' out'∧J (i+1) T' out'):∀(k i:Nat),t.args.length-i=k→i≤t.args.length→∀T out,J i T out→∃T' out',
   cl AP g387L0 ⟨[(0,.a_ 1 0),(3,.az 3 0),(4,.pv (vI i))],[(3,tC t)],fX s T n out,[out.length]⟩ =
     some (.exit 1,⟨[(0,.a_ 1 0),(3,.az 3 0),(4,.pv (vI t.args.length)),(68,.pv (.bool false))],[(3,tC t)],fX s T' n out',[out'.length]⟩)∧J t.args.length T' out'
 | 0,i,hk,hi,T,out,h=>by
   have:i=t.args.length:=by omega
   subst this
   refine ⟨T,out,?_,h⟩
   have hn:=(hP _ _ _ h).norm
   rw [g387L0e]
   simp [g387B0,tC,fX,hn]
 | k+1,i,hk,hi,T,out,h=>by
   have hi:i<t.args.length:=by omega
   obtain ⟨a,ha⟩:=bn hi
   have hsm:=ht.sm
   unfold Sm at hsm
   obtain ⟨T1,out1,e,h1⟩:=hJ i a ha T out h
   obtain ⟨T',out',e',h2⟩:=Pc ht J hP hJ k (i+1) (by omega) (by omega) T1 out1 h1
   refine ⟨T',out',?_,h2⟩
   have hn:=(hP _ _ _ h).norm
   have hn1:=(hP _ _ _ h1).norm
   have hs:=(hP _ _ _ h).sh
   have hs1:=(hP _ _ _ h1).sh
   unfold Nw at e
   rw [g387L0e] at e' ⊢
   simp [fX] at e
   simp [tC,fX,hn1] at e'
   simp (disch:=omega) [-getElem?_pos,g387B0,tC,fX,hi,ha,hn,hn1,hs,hs1,aq,e]
   rw [g387L0e]
   simp [e',hn1]
theorem Pd {s:dS} {n:Nat} {t:Ty} (ht:t.Ok) (hk:t.kind≠1) (J:Nat→List AV→List Int→Prop) (hP:∀i T out,J i T out→LV T)
   (hJ:∀i a,t.args[i]?=some a→∀T out,J i T out→∃T' out',Nw s n a T out T' out'∧J (i+1) T' out') {T:List AV} {out:List Int} (h:J 0 T out):∃T' out',Nw s n t T out T' out'∧J t.args.length T' out':=by
 obtain ⟨T',out',e,h1⟩:=Pc (s:=s) (n:=n) ht J hP hJ _ 0 rfl (by omega) T out h
 refine ⟨T',out',?_,h1⟩
 have hn:=(hP _ _ _ h).norm
 have hn1:=(hP _ _ _ h1).norm
 have hs1:=(hP _ _ _ h1).sh
 unfold Nw
 rw [aR (af:=g387) rfl (by simp [g387])]
 rw [g387L0e] at e
 simp [tC,fX,hn] at e
 simp [g387,fX,hk,hn,hn1,hs1,g387L0e,e]
end Go.Ab.Lw
namespace Go.Ab.Lw
open Ev
def oA (s:List Sl) (v:Int):Prop:=∃(k:Nat) (x:Sl),v=k∧s[k]?=some x∧x.bd=true
theorem iT {s:List Sl} {t:Ty} (hk:t.kind=1) (h:hU s t=none):¬oA s t.id:=by
 rintro ⟨k,x,e,hx,hb⟩
 unfold hU at h
 have:0≤t.id:=by omega
 rw [if_pos ⟨hk,this⟩] at h
 have hn:t.id.toNat=k:=by omega
 rw [hn,hx] at h
 simp [hb] at h
theorem IP {s:List Sl} {i v:Int} (h:Edge s i v):oA s i:=by
 obtain ⟨k,x,e,hx,hb,_⟩:=h
 exact ⟨k,x,e,hx,hb⟩
theorem rJ {s:List Sl} {i v:Int} (h:Cr s i v) (hb:¬oA s i):v=i:=by
 cases h with
 | refl=>rfl
 | step e _=>exact absurd (IP e) hb
theorem jf {t:Ty} {w:Int} (hk:t.kind=1) (h:gU t w):w=t.id:=by
 cases h with
 | var _=>rfl
 | arg q _ _=>exact absurd hk q
theorem Nx {s:List Sl} {rk:Int→Nat} (hr:∀i v,Edge s i v→rk v<rk i) {i v:Int} (h:Cr s i v):rk v≤rk i:=by
 induction h with
 | refl=>omega
 | step e _ ih=>have:=hr _ _ e;omega
def LW (s:List Sl) (j:Int) (out:List Int):Prop:=∀v,Cr s j v→¬oA s v→v∈out
def RT (s:List Sl) (t:Ty) (v:Int):Prop:=∃w,gU t w∧Cr s w v
theorem LW.mono {s:List Sl} {j:Int} {out out':List Int} (h:LW s j out) (ho:∀v∈out,v∈out'):LW s j out':=fun v hv hb=>ho v (h v hv hb)
theorem IQ {dn:List Bool}:∀v∈bT dn,∃p,v=AV.pv p:=by
 intro v hv
 simp only [bT,List.mem_map] at hv
 obtain ⟨b,_,rfl⟩:=hv
 exact ⟨_,rfl⟩
theorem kT {dn:List Bool}:LV (bT dn):=⟨fun _ _=>rq IQ,db IQ,fun _=>ou IQ⟩
theorem Ny {dn:List Bool} {i:Nat} (hi:i<dn.length) (b:Bool):bA (bT dn) i [.pv (.bool b)]=bT (dn.set i b):=by
 have:(bT dn).length=dn.length:=by simp [bT]
 simp only [bA,bT,List.length_cons,List.length_nil,Nat.zero_add]
 rw [←List.map_take,←List.map_drop,List.set_eq_take_append_cons_drop,if_pos hi]
 simp
theorem IS {dn:List Bool} {i j:Nat} (h:dn[j]?=some true):(dn.set i true)[j]?=some true:=by
 rw [List.getElem?_set]
 have hj:j<dn.length:=by obtain ⟨h,_⟩:=List.getElem?_eq_some_iff.1 h;exact h
 by_cases e:i=j
 · subst e;simp [hj]
 · simp [e,h]
theorem xY {dn:List Bool} {i j:Nat} (h:(dn.set i true)[j]?=some true):i=j∨dn[j]?=some true:=by
 rw [List.getElem?_set] at h
 by_cases e:i=j
 · exact .inl e
 · simp [e] at h;exact .inr h
structure Pe (s:dS) (S:List Int) (t:Ty) (dn:List Bool) (out:List Int) (dn':List Bool) (out':List Int):Prop where
 QE:Nw s s.sl.length t (bT dn) out (bT dn') out'
 len:dn'.length=s.sl.length
 FI:iy S out'
 sub:∀v∈out,v∈out'
 mono:∀j:Nat,dn[j]?=some true→dn'[j]?=some true
 all:∀v,RT s.sl t v→¬oA s.sl v→v∈out'
 new:∀j:Nat,dn'[j]?=some true→dn[j]?=some true∨LW s.sl j out'
structure Rd (s:dS) (S:List Int) (t:Ty) (dn:List Bool) (out:List Int) (i:Nat) (dn':List Bool) (out':List Int):Prop where
 len:dn'.length=s.sl.length
 FI:iy S out'
 sub:∀v∈out,v∈out'
 mono:∀j:Nat,dn[j]?=some true→dn'[j]?=some true
 all:∀a∈t.args.take i,∀v,RT s.sl a v→¬oA s.sl v→v∈out'
 new:∀j:Nat,dn'[j]?=some true→dn[j]?=some true∨LW s.sl j out'
theorem Im {s:dS} {S:List Int} {rk:Int→Nat} (hr:∀i v,Edge s.sl i v→rk v<rk i) (hO:∀x∈s.sl,x.ty.Ok) (hS:∀x∈s.sl,∀w,gU x.ty w→w∈S) (N:Nat) :
   ∀t:Ty,t.Ok→(∀w,gU t w→rk w<N)→(∀w,gU t w→w∈S)→∀(dn:List Bool) (out:List Int),dn.length=s.sl.length→iy S out→(∀j:Nat,dn[j]?=some true→RT s.sl t j→LW s.sl j out) →
     ∃dn' out',Pe s S t dn out dn' out':=by
 induction N using Nat.strongRecOn with
 | ind N IH=>
   intro t
   refine Ty.eD (p:=fun t=>t.Ok→(∀w,gU t w→rk w<N)→(∀w,gU t w→w∈S)→∀(dn:List Bool) (out:List Int),dn.length=s.sl.length→iy S out→(∀j:Nat,dn[j]?=some true→RT s.sl t j→LW s.sl j out) →
     ∃dn' out',Pe s S t dn out dn' out') ?_ t
   intro t ih ht hN hw dn out hd hc hpre
   by_cases hk:t.kind=1
   · have oc:gU t t.id:=.var hk
     cases hb:hU s.sl t with
     | none=>
       have hf:=iT hk hb
       have e:=O' (n:=s.sl.length) hk hb hc (kT (dn:=dn))
       have ea:(if t.id∈out then out else out++[t.id])=dg out t:=by
         unfold dg
         by_cases q:t.id∈out<;>simp [q,hk]
       rw [ea] at e
       have hs:∀v∈out,v∈dg out t:=by
         intro v hv;unfold dg;split
         · simp [hv]
         · exact hv
       refine ⟨dn,dg out t,e,hd,hc.add (fun _=>hw _ oc),hs,fun _ h=>h,?_,fun _ h=>.inl h⟩
       rintro v ⟨w,ho,hv⟩ _
       have h1:=jf hk ho
       subst h1
       rw [rJ hv hf]
       unfold dg
       by_cases q:t.id∈out<;>simp [q,hk]
     | some x=>
       obtain ⟨_,i,hi,hx,hbd⟩:=fM hb
       have hl:i<s.sl.length:=by obtain ⟨h,_⟩:=List.getElem?_eq_some_iff.1 hx;exact h
       have hTl:(bT dn).length=s.sl.length:=by simp [bT,hd]
       obtain ⟨b,hdb⟩:=bn (l:=dn) (i:=i) (by omega)
       have hTd:(bT dn)[i]?=some (.pv (.bool b)):=by simp [bT,hdb]
       have FJ:∀w,gU x.ty w→Edge s.sl t.id w:=fun w ho=>⟨i,x,hi,hx,hbd,ho⟩
       cases b with
       | true=>
         have e:=Pa (out:=out) hi hk hx hb (kT (dn:=dn)) hTl hl hTd
         refine ⟨dn,out,e,hd,hc,fun _ h=>h,fun _ h=>h,?_,fun _ h=>.inl h⟩
         rintro v ⟨w,ho,hv⟩ hnb
         have h1:=jf hk ho
         subst h1
         have:=hpre i hdb ⟨t.id,oc,by rw [hi];exact .refl _⟩
         rw [hi] at hv
         exact this v hv hnb
       | false=>
         have hlt:rk t.id<N:=hN _ oc
         obtain ⟨dn',out',P⟩:=IH (rk t.id) hlt x.ty (hO x (bo hx)) (fun w ho=>hr _ _ (FJ w ho)) (hS x (bo hx)) (dn.set i true) out (by simp [hd]) hc (by
           intro j hj ⟨w,ho,hv⟩
           have hlt2:rk j<rk t.id:=by have:=Nx hr hv;have:=hr _ _ (FJ w ho);omega
           rcases xY hj with rfl | hj
           · rw [hi] at hlt2;omega
           · exact hpre j hj ⟨t.id,oc,.step (FJ w ho) hv⟩)
         have e:=Pb hi hk hx hb (kT (dn:=dn)) (kT (dn:=dn.set i true)) (kT (dn:=dn')) hTl hl hTd (Ny (by omega) true) P.QE
         have fin:LW s.sl t.id out':=by
           intro v hv hnb
           cases hv with
           | refl=>exact absurd ⟨i,x,hi,hx,hbd⟩ hnb
           | step e2 hv=>
             obtain ⟨k,y,e3,hy,_,ho⟩:=e2
             have:k=i:=by omega
             subst this
             rw [hx] at hy
             cases hy
             exact P.all v ⟨_,ho,hv⟩ hnb
         refine ⟨dn',out',e,P.len,P.FI,P.sub,fun j h=>P.mono j (IS h),?_,?_⟩
         · rintro v ⟨w,ho,hv⟩ hnb
           have h1:=jf hk ho
           subst h1
           exact fin v hv hnb
         · intro j hj
           rcases P.new j hj with h | h
           · rcases xY h with rfl | h
             · exact .inr (by rw [←hi];exact fin)
             · exact .inl h
           · exact .inr h
   · obtain ⟨T',out',e,dn',rfl,h⟩:=Pd (s:=s) (n:=s.sl.length) ht hk (fun i T o=>∃d,T=bT d∧Rd s S t dn out i d o) (by rintro i T o ⟨d,rfl,_⟩;exact kT) (by
       rintro i a ha T o ⟨d,rfl,h⟩
       have hm:=bo ha
       obtain ⟨d',o',P⟩:=ih a hm (ht.fw a hm) (fun w ho=>hN w (.arg hk hm ho)) (fun w ho=>hw w (.arg hk hm ho)) d o h.len h.FI (by
         intro j hj ⟨w,ho,hv⟩
         rcases h.new j hj with hj | hj
         · exact (hpre j hj ⟨w,.arg hk hm ho,hv⟩).mono h.sub
         · exact hj)
       refine ⟨bT d',o',P.QE,d',rfl,P.len,P.FI,fun v hv=>P.sub v (h.sub v hv),fun j hj=>P.mono j (h.mono j hj),?_,?_⟩
       · intro b hb v hv hnb
         rw [List.take_add_one,ha] at hb
         simp at hb
         rcases hb with hb | rfl
         · exact P.sub v (h.all b hb v hv hnb)
         · exact P.all v hv hnb
       · intro j hj
         rcases P.new j hj with hj | hj
         · rcases h.new j hj with hj | hj
           · exact .inl hj
           · exact .inr (hj.mono P.sub)
         · exact .inr hj) ⟨dn,rfl,hd,hc,fun _ h=>h,fun _ h=>h,by simp,fun _ h=>.inl h⟩
     refine ⟨dn',out',e,h.len,h.FI,h.sub,h.mono,?_,h.new⟩
     rintro v ⟨w,ho,hv⟩ hnb
     cases ho with
     | var q=>exact absurd q hk
     | arg _ ha ho=>exact h.all _ (by simpa using ha) v ⟨w,ho,hv⟩ hnb
end Go.Ab.Lw
namespace Go.Ab.Lw
open Ev
inductive Ex.Ok:Ex→Prop
 | mk {e:Ex}:e.kids.length≤1000→e.aX.length≤1000→(∀a∈e.aX,a.vars.length≤1000)→e.ty.Ok→(∀x∈e.ch,x.Ok)→e.Ok
theorem Ex.Ok.k {e:Ex} (h:e.Ok):e.kids.length≤1000:=by cases h;assumption
theorem Ex.Ok.a {e:Ex} (h:e.Ok):e.aX.length≤1000:=by cases h;assumption
theorem Ex.Ok.v {e:Ex} (h:e.Ok):∀a∈e.aX,a.vars.length≤1000:=by cases h;assumption
theorem Ex.Ok.t {e:Ex} (h:e.Ok):e.ty.Ok:=by cases h;assumption
theorem Ex.Ok.c {e:Ex} (h:e.Ok):∀x∈e.ch,x.Ok:=by cases h;assumption
theorem Ex.fQ {e:Ex}:e.ch.length=e.kids.length+e.aX.length:=by simp [Ex.ch]
@[simp] def Ex.cl (e:Ex):List AV:=[.pv (vI e.kind),.pv (vI e.pos),.pv (.str e.name),.pv (vI e.num),.pv (.aD (e.kids.map Ex.pv)),.pv (.aD (e.aX.map Ar.pv)),.pv (vI e.ty.kind),.pv (.str e.ty.name),.pv (vI e.ty.id),.pv (vI e.ty.home),.pv (.aD (e.ty.args.map Ty.pv))]
theorem cQ:Row Ex.cells 11:=⟨by omega,fun x=>by rw [Ex.bG];rfl⟩
def Ar.cells (a:Ar):List PV:=.int .i64 a.pos::.str a.d7::.aD (a.vars.map .str)::a.body.cells
theorem gS:Row Ar.cells 14:=⟨by omega,fun x=>by simp [Ar.cells,Ex.bG]⟩
theorem Ex.lT (e:Ex):e.cells.map AV.pv=e.cl:=by rw [Ex.bG];rfl
@[simp] def Ex.JD (e:Ex) (A:AV):List AV:=[.pv (vI e.kind),.pv (vI e.pos),.pv (.str e.name),.pv (vI e.num),.pv (.aD (e.kids.map Ex.pv)),A,.pv (vI e.ty.kind),.pv (.str e.ty.name),.pv (vI e.ty.id),.pv (vI e.ty.home),.pv (.aD (e.ty.args.map Ty.pv))]
def Pf (A:AV) (as:List Ar) (X:Sh):Prop:=A=.pv (.aD (as.map Ar.pv))∨∃b,b<X.length∧A=.bu b 14 as.length true∧X[b]?=some (some (bj Ar.cells as))
theorem Pf.app {A:AV} {as:List Ar} {X Y:Sh} (h:Pf A as X):Pf A as (X++Y):=by
 rcases h with h | ⟨b,h1,h2,h3⟩
 · exact .inl h
 · exact .inr ⟨b,by rw [List.length_append];omega,h2,by rw [List.getElem?_append_left h1];exact h3⟩
def hV (X:Sh) (l:List Ex):AV:=if l=[] then .own [] 0 else .bu X.length 11 l.length true
def hS (X:Sh) (l:List Ex):Sh:=if l=[] then X else X++[some (bj Ex.cells l)]
def hT (l:List Ex):aM:=if l=[] then [0] else []
theorem IT {X:Sh} (h:bq X) (l:List Ex):bq (hS X l):=by
 unfold hS
 by_cases h0:l=[]
 · rw [if_pos h0];exact h
 · rw [if_neg h0];exact h.app (bq.one bJ)
theorem K9 {e:Ex} {A:AV} (ha:e.aX.length≤1000):∀(n i:Nat),e.aX.length-i=n→i≤e.aX.length→∀(X:Sh) (acc:List Ex),bq X→Pf A e.aX X→acc.length+n≤1000000→∃k,
   cl AP g145L0 ⟨[(1,.az 1 0),(3,hV X acc),(4,.pv (vI i))],[(1,e.JD A)],hS X acc,hT acc⟩ =
     some (.exit 0,⟨[(1,.az 1 0),(3,hV (X++nn k) (acc++(e.aX.drop i).map d8.body)),(4,.pv (vI e.aX.length)),(12,.pv (.bool false))],[(1,e.JD A)],hS (X++nn k) (acc++(e.aX.drop i).map d8.body),hT (acc++(e.aX.drop i).map d8.body)⟩)
 | 0,i,hn,hi,X,acc,hX,hA,hl=>by
   have:i=e.aX.length:=by omega
   subst this
   refine ⟨0,?_⟩
   rw [List.drop_length,List.map_nil,List.append_nil,show nn 0=[] from rfl,List.append_nil]
   have hn:=(IT hX acc).norm
   have vc:(hV X acc=.own [] 0∧hT acc=[0])∨(∃b z k g,hV X acc=.bu b z k g∧hT acc=[]):=by
     unfold hV hT
     by_cases h0:acc=[]
     · left;simp [h0]
     · right;exact ⟨X.length,11,acc.length,true,by simp [h0],by simp [h0]⟩
   rw [g145L0e]
   rcases vc with ⟨v1,t1⟩ | ⟨b1,z1,k1,f1,v1,t1⟩<;>rw [v1,t1]<;>generalize hS X acc=S0 at hn ⊢ <;>
     rcases hA with rfl | ⟨b,hb,rfl,hx⟩<;>simp [g145B0,hn]
 | n+1,i,hn,hi,X,acc,hX,hA,hl=>by
   have hi:i<e.aX.length:=by omega
   obtain ⟨x,hx⟩:=bn hi
   have hnX:=hX.norm
   have hB11:∀m:Nat,m≤1000000→m*152≤140737488355328:=by omega
   have hcl:=Ex.bG x.body
   rw [bC hx,List.map_cons]
   have step:∃k,cl AP g145L0 ⟨[(1,.az 1 0),(3,hV (if acc=[] then X else X++[none]) (acc++[x.body])),(4,.pv (vI (i+1:Nat)))],[(1,e.JD A)],hS (if acc=[] then X else X++[none]) (acc++[x.body]),hT (acc++[x.body])⟩ =
     some (.exit 0,⟨[(1,.az 1 0),(3,hV (X++nn k) (acc++(x.body::(e.aX.drop (i+1)).map d8.body))),(4,.pv (vI e.aX.length)),(12,.pv (.bool false))],[(1,e.JD A)],hS (X++nn k) (acc++(x.body::(e.aX.drop (i+1)).map d8.body)),hT (acc++(x.body::(e.aX.drop (i+1)).map d8.body))⟩):=by
     by_cases h0:acc=[]
     · rw [if_pos h0]
       obtain ⟨k,ih⟩:=K9 ha n (i+1) (by omega) (by omega) X (acc++[x.body]) hX hA (by simp;omega)
       refine ⟨k,?_⟩
       rw [ih]
       simp only [List.append_assoc,List.singleton_append]
     · rw [if_neg h0]
       obtain ⟨k,ih⟩:=K9 ha n (i+1) (by omega) (by omega) (X++[none]) (acc++[x.body]) (hX.app (dr 1)) hA.app (by simp;omega)
       refine ⟨k+1,?_⟩
       have e1:X++[none]++nn k=X++nn (k+1):=by simp [nn,List.replicate_succ]
       rw [ih,e1]
       simp only [List.append_assoc,List.singleton_append]
   obtain ⟨k,ih⟩:=step
   refine ⟨k,?_⟩
   generalize hV (X++nn k) (acc++(x.body::(e.aX.drop (i+1)).map d8.body))=V2 at ih ⊢
   generalize hS (X++nn k) (acc++(x.body::(e.aX.drop (i+1)).map d8.body))=S2 at ih ⊢
   generalize hT (acc++(x.body::(e.aX.drop (i+1)).map d8.body))=T2 at ih ⊢
   have hne:acc++[x.body]≠[]:=by simp
   have hn1:∀Y,bq Y→∀aW ts,b_ aW ts (Y++[some (bj Ex.cells (acc++[x.body]))])=(Y++[some (bj Ex.cells (acc++[x.body]))],aW,ts):=fun Y hY=>(hY.app (bq.one bJ)).norm
   have hfl:bj Ex.cells (acc++[x.body])=bj Ex.cells acc++x.body.cl:=by rw [uU,←Ex.lT];simp [bj]
   by_cases h0:acc=[]
   · subst h0
     rw [if_pos rfl] at ih
     have hn2:=hn1 X hX
     simp only [List.nil_append] at hne hn2 hfl ih
     simp only [hV,hS,hT,if_neg hne,if_true] at ih ⊢
     rw [hfl] at hn2 ih
     simp only [K7,List.nil_append] at hn2 ih
     simp only [Ex.cl] at hn2
     rw [g145L0e] at ih ⊢
     rcases hA with rfl | ⟨b,hb,rfl,hxb⟩
     · simp [hn2] at ih
       simp (disch:=omega) [-getElem?_pos,g145B0,hx,hi,aq,hnX]
       rw [g145L0e]
       simp [hn2,ih]
     · have q1:=je gS hx (o:=3) (k:=11) (by omega)
       have q2:i*14+3+11≤e.aX.length*14:=by omega
       have q3:(bj Ar.cells e.aX).length=e.aX.length*14:=cK gS
       have q4:cR (bj Ar.cells e.aX)=false:=db bJ
       have q5:(((Ar.cells x).drop 3).take 11).map AV.pv=x.body.cl:=by simp [Ar.cells,hcl]
       rw [q5] at q1
       generalize bj Ar.cells e.aX=T at *
       simp [hn2] at ih q1
       simp (disch:=omega) [-getElem?_pos,g145B0,hx,hi,aq,hnX,hxb,q1,q2,q3,q4]
       rw [g145L0e]
       simp [hn2,ih]
   · rw [if_neg h0] at ih
     have hn2:=hn1 (X++[none]) (hX.app (dr 1))
     have hn3:∀aW ts,b_ aW ts (X++[some (bj Ex.cells acc)])=(X++[some (bj Ex.cells acc)],aW,ts):=(hX.app (bq.one bJ)).norm
     simp only [hV,hS,hT,if_neg hne,if_neg h0] at ih ⊢
     have r1:(bj Ex.cells acc).length=acc.length*11:=cK cQ
     have r2:cR (bj Ex.cells acc)=false:=db bJ
     have r3:(bj Ex.cells acc).take (acc.length*11)=bj Ex.cells acc:=List.take_of_length_le (by omega)
     have hb2:(acc.length+1)*152≤140737488355328:=by omega
     rw [hfl] at hn2 ih
     rw [List.length_append,List.length_singleton,List.length_append,List.length_singleton] at ih
     have s1:∀u w:Option (List AV),(X++[u]).set X.length w=X++[w]:=fun u w=>by simp
     have s2:∀u:Option (List AV),(X++[u])[X.length]?=some u:=fun u=>by simp
     simp only [Ex.cl] at hn2
     rw [g145L0e] at ih ⊢
     rcases hA with rfl | ⟨b,hb,rfl,hxb⟩
     · generalize bj Ex.cells acc=F at *
       simp [hn2] at ih
       simp (disch:=omega) [-getElem?_pos,g145B0,hx,hi,aq,hn3,r1,r2,r3,s1,s2,hb2]
       rw [g145L0e]
       simp [hn2,ih]
     · have q1:=je gS hx (o:=3) (k:=11) (by omega)
       have q2:i*14+3+11≤e.aX.length*14:=by omega
       have q3:(bj Ar.cells e.aX).length=e.aX.length*14:=cK gS
       have q4:cR (bj Ar.cells e.aX)=false:=db bJ
       have q5:(((Ar.cells x).drop 3).take 11).map AV.pv=x.body.cl:=by simp [Ar.cells,hcl]
       have q6:∀u:Option (List AV),(X++[u])[b]?=X[b]?:=fun u=>List.getElem?_append_left hb
       rw [q5] at q1
       generalize bj Ar.cells e.aX=T at *
       generalize bj Ex.cells acc=F at *
       simp [hn2] at ih q1
       simp (disch:=omega) [-getElem?_pos,g145B0,hx,hi,aq,hn3,r1,r2,r3,s1,s2,hb2,hxb,q1,q2,q3,q4,q6]
       rw [g145L0e]
       simp [hn2,ih]
theorem uW {l:List Ex}:((fh (bj Ex.cells l)).bind (fm 11 true l.length)).map PV.aD=some (.aD (l.map Ex.pv)):=pY cQ
theorem IU {l:List Ex}:((l.map Ex.pv).flatMap bz).map AV.pv=bj Ex.cells l:=pZ cQ
theorem c145i {e:Ex} {A:AV} (h:e.kids.length≤1000) (ha:e.aX.length≤1000) {X:Sh} (hX:bq X) (hA:Pf A e.aX X):∃k,(aN AP).i 145 [.agg (e.JD A)] X []=some (if e.ch=[] then ([.own [] 0],X,[0]) else ([.bu (X.length+k) 11 e.ch.length true],X++nn k++[some (bj Ex.cells e.ch)],[])):=by
 obtain ⟨k,h2⟩:=K9 (A:=A) ha _ 0 rfl (by omega) X e.kids hX hA (by omega)
 rw [List.drop_zero] at h2
 change cl AP g145L0 _=some (.exit 0,⟨[(1,.az 1 0),(3,hV (X++nn k) e.ch),(4,.pv (vI e.aX.length)),(12,.pv (.bool false))],[(1,e.JD A)],hS (X++nn k) e.ch,hT e.ch⟩) at h2
 refine ⟨k,?_⟩
 rw [aR (af:=g145) rfl (by simp [g145])]
 have hb:e.kids.length*152≤140737488355328:=by omega
 have hm:=IU (l:=e.kids)
 have hq:=hX.norm
 have hq0:∀aW ts,b_ aW ts (X++[some (bj Ex.cells e.kids)])=(X++[some (bj Ex.cells e.kids)],aW,ts):=(hX.app (bq.one bJ)).norm
 have hq1:∀aW ts,b_ aW ts (X++nn k)=(X++nn k,aW,ts):=(hX.app (dr k)).norm
 have hq2:∀aW ts,b_ aW ts (X++(nn k++[some (bj Ex.cells e.ch)]))=(X++(nn k++[some (bj Ex.cells e.ch)]),aW,ts):=(hX.app ((dr k).app (bq.one bJ))).norm
 have hlt:¬X.length+k<X.length:=by omega
 have hln:(X++nn k).length=X.length+k:=by simp
 have hlf:bm A=true∧bK A=true:=by rcases hA with rfl | ⟨b,_,rfl,_⟩<;>exact ⟨rfl,rfl⟩
 have hkt:(X++nn k).take X.length=X:=by simp
 have e1:∀(V:AV) (T:aM) (S:Sh),(V=hV X e.kids∧T=hT e.kids∨e.kids=[]∧V=.bD []∧T=[])→S=hS X e.kids→after (cl AP g145L0) (cl AP g145B0 (norm (restrict [1,3,4] ⟨[(1,.az 1 0),(3,V),(4,.pv (vI 0))],[(1,e.JD A)],S,T⟩))) =
     some (.exit 0,⟨[(1,.az 1 0),(3,hV (X++nn k) e.ch),(4,.pv (vI e.aX.length)),(12,.pv (.bool false))],[(1,e.JD A)],hS (X++nn k) e.ch,hT e.ch⟩):=by
   rintro V T S hV' rfl
   rw [←h2,g145L0e]
   rcases hV' with ⟨rfl,rfl⟩ | ⟨h0,rfl,rfl⟩
   · rfl
   · simp only [hV,hS,hT,h0,if_true]
     rcases hA with rfl | ⟨b,_,rfl,_⟩<;>simp [hq]
 clear h2
 by_cases hc:e.ch=[]
 · have h0:e.kids=[]:=by have:=hc;simp only [Ex.ch,List.append_eq_nil_iff] at this;exact this.1
   have f:=e1 (.bD []) [] X (.inr ⟨h0,rfl,rfl⟩) (by simp [hS,h0])
   simp only [hc,hV,hS,hT,if_true] at f ⊢
   rcases hA with rfl | ⟨b,_,rfl,_⟩<;>simp [hq,h0] at f<;>simp [g145,h0,hq,hq1,g145L0e,f,hln,hkt]
 · by_cases h0:e.kids=[]
   · have f:=e1 (.bD []) [] X (.inr ⟨h0,rfl,rfl⟩) (by simp [hS,h0])
     simp only [hV,hS,hT,if_neg hc,List.append_assoc,hln] at f ⊢
     generalize X++(nn k++[some (bj Ex.cells e.ch)])=S2 at *
     rcases hA with rfl | ⟨b,_,rfl,_⟩<;>simp [hq,h0] at f<;>simp [g145,h0,hq,hq2,g145L0e,f,hlt]
   · have f:=e1 (.bu X.length 11 e.kids.length true) [] (X++[some (bj Ex.cells e.kids)]) (.inl ⟨by simp [hV,h0],by simp [hT,h0]⟩) (by simp [hS,h0])
     simp only [hV,hS,hT,if_neg hc,List.append_assoc,hln] at f ⊢
     generalize X++(nn k++[some (bj Ex.cells e.ch)])=S2 at *
     have hb2:e.kids.length*152≤140737488355328:=by omega
     generalize bj Ex.cells e.kids=F at *
     rcases hA with rfl | ⟨b,_,rfl,_⟩<;>simp [hq,hq0,h0] at f<;>simp [g145,h0,hb2,hm,hq,hq0,hq2,g145L0e,f,hlt]
theorem c145 {e:Ex} (h:e.Ok):(aN AP).p 145 [e.pv]=some [.aD (e.ch.map Ex.pv)]:=by
 have hk:=h.k
 have ha:=h.a
 obtain ⟨k,h2⟩:=K9 (A:=.pv (.aD (e.aX.map Ar.pv))) ha _ 0 rfl (by omega) [] e.kids (by intro cs h;simp at h) (.inl rfl) (by omega)
 rw [List.drop_zero] at h2
 change cl AP g145L0 _=some (.exit 0,⟨[(1,.az 1 0),(3,hV ([]++nn k) e.ch),(4,.pv (vI e.aX.length)),(12,.pv (.bool false))],[(1,e.JD (.pv (.aD (e.aX.map Ar.pv))))],hS ([]++nn k) e.ch,hT e.ch⟩) at h2
 have hb2:e.kids.length*152≤140737488355328:=by omega
 have hm:=IU (l:=e.kids)
 have hl:=uW (l:=e.ch)
 have hlen:(bj Ex.cells e.ch).length=e.ch.length*11:=cK cQ
 have hq0:∀aW ts,b_ aW ts ([some (bj Ex.cells e.kids)])=([some (bj Ex.cells e.kids)],aW,ts):=(bq.one bJ).norm
 rw [au (af:=g145) rfl rfl (by decide)]
 by_cases hc:e.ch=[]
 · have h0:e.kids=[]∧e.aX=[]:=by have:=hc;simpa [Ex.ch] using this
   simp only [hc,hV,hS,hT,if_true,h0.1] at h2 ⊢
   rw [g145L0e] at h2
   simp [h0.1,h0.2] at h2
   simp [g145,h0.1,h0.2,g145L0e,h2]
 · have hg:∀Z:Option (List AV),([]++nn k++[Z])[k]?=some Z:=fun Z=>by simp
   by_cases h0:e.kids=[]
   · simp only [hV,hS,hT,if_neg hc,h0,if_true] at h2 ⊢
     have hg1:=hg (some (bj Ex.cells e.ch))
     generalize []++nn k++[some (bj Ex.cells e.ch)]=S2 at *
     generalize bj Ex.cells e.ch=F at *
     rw [g145L0e] at h2
     simp [h0] at h2
     simp at hl
     simp [-getElem?_pos,g145,h0,g145L0e,h2,hg1,hlen,hl]
   · simp only [hV,hS,hT,if_neg hc,if_neg h0] at h2 ⊢
     have hg1:=hg (some (bj Ex.cells e.ch))
     generalize []++nn k++[some (bj Ex.cells e.ch)]=S2 at *
     generalize bj Ex.cells e.ch=F at *
     generalize bj Ex.cells e.kids=F0 at *
     rw [g145L0e] at h2
     simp [hq0] at h2 hl
     simp [-getElem?_pos,g145,h0,hb2,hm,hq0,g145L0e,h2,hg1,hlen,hl]
theorem Pg {e:Ex} (ha:e.aX.length≤1000):∀(n i:Nat),e.aX.length-i=n→i≤e.aX.length→∀acc:List Ex,acc.length+n≤1000000 →
   cl AP g414L0 ⟨[(3,.own (acc.map Ex.pv) 0),(10,.pv (.aD (e.aX.map Ar.pv))),(11,.pv (vI e.aX.length)),(12,.pv (vI i))],[],[],[acc.length]⟩ =
     some (.exit 0,⟨[(3,.own ((acc++(e.aX.drop i).map d8.body).map Ex.pv) 0),(10,.pv (.aD (e.aX.map Ar.pv))),(11,.pv (vI e.aX.length)),(12,.pv (vI e.aX.length)),(13,.pv (.bool false))],[],[],[(acc++(e.aX.drop i).map d8.body).length]⟩)
 | 0,i,hn,hi,acc,hl=>by
   have:i=e.aX.length:=by omega
   subst this
   rw [g414L0e]
   simp [g414B0]
 | n+1,i,hn,hi,acc,hl=>by
   have hi:i<e.aX.length:=by omega
   obtain ⟨x,hx⟩:=bn hi
   have ih:=Pg ha n (i+1) (by omega) (by omega) (acc++[x.body]) (by simp;omega)
   rw [bC hx]
   simp at ih
   rw [g414L0e]
   have hb:(acc.length+1)*152≤140737488355328:=by omega
   simp (disch:=omega) [-getElem?_pos,g414B0,hx,hi,aq,hb,ih]
theorem c414 {e:Ex} (h:e.Ok):(aN AP).p 414 [e.pv]=some [.aD (e.ch.map Ex.pv)]:=by
 have hk:=h.k
 have h2:=Pg h.a _ 0 rfl (by omega) e.kids (by have:=h.a;omega)
 simp at h2
 rw [au (af:=g414) rfl rfl (by decide)]
 have hb:e.kids.length*152≤140737488355328:=by omega
 by_cases h0:e.kids=[]
 · rw [g414L0e] at h2
   simp [h0] at h2
   simp [g414,Ex.ch,h0,g414L0e,h2]
 · simp [g414,Ex.ch,h0,hb,h2]
def zO:List AV:=[.pv (vI 0),.pv (vI 0),.pv (.str []),.pv (vI 0),.own [] 0,.own [] 1,.pv (vI 0),.pv (.str []),.pv (vI 0),.pv (vI 0),.own [] 2]
def eh (e:Ex) (i:Nat):List (List UInt8):=
 if e.kind=4∨e.kind=7∨(e.kind=6∧i=1) then [e.name]
 else if e.kind=8∧0<i then match e.aX[i-1]? with | some a=>a.vars | none=>[]
 else []
theorem c380 {e:Ex} {i:Nat} (hi:i<e.ch.length) (h8:e.kind=8→e.kids.length=1) (hO:e.Ok):(aN AP).p 380 [e.pv,vI i]=some [.aD ((eh e i).map .str)]:=by
 have ha:=hO.a
 rw [Ex.fQ] at hi
 rw [au (af:=g380) rfl rfl (by decide)]
 unfold eh
 by_cases h1:e.kind=4
 · simp [g380,h1]
 · by_cases h2:e.kind=7
   · simp [g380,h1,h2]
   · by_cases h3:e.kind=6
     · by_cases h4:i=1
       · simp [g380,h1,h2,h3,h4]
       · have h4':¬(i:Int)=1:=by omega
         simp [g380,h1,h2,h3,h4,h4']
     · by_cases h5:e.kind=8
       · by_cases h6:0<i
         · have h6':(0:Int)<i:=by omega
           have hk:=h8 h5
           obtain ⟨a,hx⟩:=bn (l:=e.aX) (i:=i-1) (by omega)
           obtain ⟨m,rfl⟩:∃m:Nat,i=m+1:=⟨i-1,by omega⟩
           have hm:((m+1:Nat):Int)-1=m:=by omega
           have hm':((m:Int)+1)-1=m:=by omega
           simp at hx hi
           have hlt:m<e.aX.length:=by omega
           simp (disch:=omega) [-getElem?_pos,g380,h1,h2,h3,h5,h6,h6',aq,hm,hm',hx,hlt]
         · have:i=0:=by omega
           subst this
           simp [g380,h1,h2,h3,h5]
       · simp [g380,h1,h2,h3,h5]
theorem c411 {e:Ex} {i:Nat} (hi:i<e.ch.length) (h8:e.kind=8→e.kids.length=1) (hO:e.Ok):(aN AP).p 411 [e.pv,vI i]=some [.aD ((eh e i).map .str)]:=by
 have ha:=hO.a
 rw [Ex.fQ] at hi
 rw [au (af:=g411) rfl rfl (by decide)]
 unfold eh
 by_cases h1:e.kind=4
 · simp [g411,h1]
 · by_cases h2:e.kind=7
   · simp [g411,h1,h2]
   · by_cases h3:e.kind=6
     · by_cases h4:i=1
       · simp [g411,h1,h2,h3,h4]
       · have h4':¬(i:Int)=1:=by omega
         simp [g411,h1,h2,h3,h4,h4']
     · by_cases h5:e.kind=8
       · have hk:=h8 h5
         by_cases h6:0<i
         · have h6':(1:Int)≤i:=by omega
           obtain ⟨a,hx⟩:=bn (l:=e.aX) (i:=i-1) (by omega)
           obtain ⟨m,rfl⟩:∃m:Nat,i=m+1:=⟨i-1,by omega⟩
           have hm:((m+1:Nat):Int)-1=m:=by omega
           have hm':((m:Int)+1)-1=m:=by omega
           simp at hx hi
           have hlt:m<e.aX.length:=by omega
           have h6'':(1:Int)≤(m:Int)+1:=by omega
           simp (disch:=omega) [-getElem?_pos,g411,h1,h2,h3,h5,hk,h6,h6',h6'',aq,hm,hm',hx,hlt]
         · have:i=0:=by omega
           subst this
           simp [g411,h1,h2,h3,h5,hk]
       · simp [g411,h1,h2,h3,h5]
end Go.Ab.Lw
namespace Go.Ab.Lw
open Ev
def jZ:List Ar→List Ex→List Ar
 | a::as,x::xs=>⟨a.pos,a.d7,a.vars,x⟩::jZ as xs
 | as,_=>as
theorem rK:∀{as:List Ar} {xs:List Ex},(jZ as xs).length=as.length
 | [],xs=>by cases xs<;>rfl
 | a::as,[]=>rfl
 | a::as,x::xs=>by simp [jZ,rK (as:=as) (xs:=xs)]
def Ex.pE (e:Ex) (c:List Ex):Ex:=if c.length=e.kids.length+e.aX.length then ⟨e.kind,e.pos,e.name,e.num,c.take e.kids.length,jZ e.aX (c.drop e.kids.length),e.ty⟩ else e
theorem IV {l:List Ar}:((fh (bj Ar.cells l)).bind (fm 14 true l.length)).map PV.aD=some (.aD (l.map Ar.pv)):=pY gS
theorem IW {l:List Ar}:((l.map Ar.pv).flatMap bz).map AV.pv=bj Ar.cells l:=pZ gS
theorem K_ {c:List Ex} {n:Nat} (h:n≤c.length):cP false 11 false true false [.pv (.aD (c.map Ex.pv)),.pv (.int .i64 (n:Int))]=some (.pv (.aD ((c.map Ex.pv).take n))):=by
 have:=Nt (sz:=11) (l:=c.map Ex.pv) (k:=.i64) (h:=n) (by omega) (by simp;omega)
 simpa using this
theorem LX {sz:Nat} {l:List PV}:cP false sz false true false [.pv (.aD l),.pv (.int .i64 0)]=some (.pv (.aD [])):=by
 simp [cP,dY,ee]
def N_ (e:Ex) (K:List Ex) (A:AV):List AV:=[.pv (vI e.kind),.pv (vI e.pos),.pv (.str e.name),.pv (vI e.num),.own (K.map Ex.pv) 3,A,.pv (vI e.ty.kind),.pv (.str e.ty.name),.pv (vI e.ty.id),.pv (vI e.ty.home),.pv (.aD (e.ty.args.map Ty.pv))]
theorem Ph {e:Ex} {c K:List Ex} {n0 N:Nat} (hN:N≤1000) (hc:c.length=n0+N) (hn0:n0≤1000):∀(n i:Nat),N-i=n→i≤N→∀as:List Ar,as.length=N →
   cl AP g374L0 ⟨[(1,.pv (.aD (c.map Ex.pv))),(4,.az 4 0),(5,.pv (vI n0)),(6,.az 6 0),(7,.pv (vI i))],[(4,zO),(6,N_ e K (.bu 0 14 N true))],[some (bj Ar.cells as)],[0,0,0,K.length]⟩ =
     some (.exit 0,⟨[(1,.pv (.aD (c.map Ex.pv))),(4,.az 4 0),(5,.pv (vI n0)),(6,.az 6 0),(7,.pv (vI N)),(34,.pv (.bool false))],[(4,zO),(6,N_ e K (.bu 0 14 N true))],[some (bj Ar.cells (as.take i++jZ (as.drop i) (c.drop (n0+i))))],[0,0,0,K.length]⟩)
 | 0,i,hn,hi,as,ha=>by
   have:i=N:=by omega
   subst this
   have hq:∀aW ts,b_ aW ts [some (bj Ar.cells as)]=([some (bj Ar.cells as)],aW,ts):=(bq.one bJ).norm
   rw [rp (l:=as) (by omega),List.take_of_length_le (by omega)]
   simp only [jZ,List.append_nil]
   generalize bj Ar.cells as=T at *
   rw [g374L0e]
   simp [g374B0,N_,zO,hq]
 | n+1,i,hn,hi,as,ha=>by
   have hi:i<N:=by omega
   obtain ⟨a,hx⟩:=bn (l:=as) (i:=i) (by omega)
   obtain ⟨x,hy⟩:=bn (l:=c) (i:=n0+i) (by omega)
   have hci:n0+i<c.length:=by omega
   have ih:=Ph (e:=e) (K:=K) hN hc hn0 n (i+1) (by omega) (by omega) (as.set i ⟨a.pos,a.d7,a.vars,x⟩) (by simpa using ha)
   have hset:=iz gS hx (y:=⟨a.pos,a.d7,a.vars,x⟩) (o:=3) (vs:=x.cells) (by rw [cQ.len];omega) (by
     have h1:=cQ.len a.body
     have h2:=cQ.len x
     simp only [Ar.cells,List.take_succ_cons,List.take_zero,List.cons_append,List.nil_append,List.drop_succ_cons,List.drop_zero,h2]
     rw [List.drop_eq_nil_of_le (by simp [h1]),List.append_nil])
   rw [Ex.lT] at hset
   have hfin:as.take i++jZ (as.drop i) (c.drop (n0+i))=(as.set i ⟨a.pos,a.d7,a.vars,x⟩).take (i+1)++jZ ((as.set i ⟨a.pos,a.d7,a.vars,x⟩).drop (i+1)) (c.drop (n0+(i+1))):=by
     have h1:(as.set i ⟨a.pos,a.d7,a.vars,x⟩).take (i+1)=as.take i++[⟨a.pos,a.d7,a.vars,x⟩]:=by
       rw [List.set_eq_take_append_cons_drop,if_pos (by omega),List.take_append,List.take_of_length_le (by simp;omega)]
       have:i+1-(as.take i).length=1:=by simp;omega
       rw [this];rfl
     rw [h1,List.drop_set_of_lt (by omega),bC hx,bC hy]
     simp [jZ,Nat.add_assoc]
   rw [hfin]
   generalize (as.set i ⟨a.pos,a.d7,a.vars,x⟩).take (i+1)++jZ ((as.set i ⟨a.pos,a.d7,a.vars,x⟩).drop (i+1)) (c.drop (n0+(i+1)))=R at ih ⊢
   have hq:∀aW ts,b_ aW ts [some (bj Ar.cells as)]=([some (bj Ar.cells as)],aW,ts):=(bq.one bJ).norm
   have hq1:∀aW ts,b_ aW ts [some (bj Ar.cells (as.set i ⟨a.pos,a.d7,a.vars,x⟩))]=([some (bj Ar.cells (as.set i ⟨a.pos,a.d7,a.vars,x⟩))],aW,ts):=(bq.one bJ).norm
   have hB:cR (bj Ar.cells as)=false:=db bJ
   have hlen:(bj Ar.cells as).length=N*14:=by rw [cK gS,ha]
   have hle:i*14+3+11≤N*14:=by omega
   generalize bj Ar.cells (as.set i ⟨a.pos,a.d7,a.vars,x⟩)=T1 at *
   generalize bj Ar.cells as=T at *
   have hil:((n0:Int)+i).toNat=n0+i:=by omega
   have hpos:¬((n0:Int)+i<0):=by omega
   rw [g374L0e] at ih ⊢
   simp [N_,zO,hq1] at ih hset
   simp (disch:=omega) [-getElem?_pos,g374B0,N_,zO,hq,hi,hy,hci,hB,hlen,hle,hset,aq,hil,hpos]
   rw [g374L0e]
   simp [hq1,ih]
theorem IX {xs:List Ex}:jZ [] xs=[]:=by cases xs<;>rfl
theorem c374 {e:Ex} (hk:e.kids.length≤1000) (ha:e.aX.length≤1000) {c:List Ex}:(aN AP).p 374 [e.pv,.aD (c.map Ex.pv)]=some [(e.pE c).pv]:=by
 rw [au (af:=g374) rfl rfl (by decide)]
 unfold Ex.pE
 have hw:((e.kids.length:Int)+e.aX.length).toNat=e.kids.length+e.aX.length:=by omega
 by_cases hc:c.length=e.kids.length+e.aX.length
 · rw [if_pos hc]
   have hci:(c.length:Int)=(e.kids.length:Int)+e.aX.length:=by omega
   have hle:e.kids.length≤c.length:=by omega
   have hsl:=K_ hle
   have hsl2:(c.take e.kids.length).length=e.kids.length:=by simp;omega
   have hb1:e.kids.length*152≤140737488355328:=by omega
   have hb2:e.aX.length*200≤140737488355328:=by omega
   have hz:e.kids.length=0↔c.take e.kids.length=[]:=by rw [←List.length_eq_zero_iff,hsl2]
   rw [←List.map_take] at hsl
   by_cases hA:e.aX=[]
   · have hn:e.aX.length=0:=by rw [hA];rfl
     rw [hn] at hci
     simp at hci
     generalize hK:c.take e.kids.length=K at *
     rw [hA,IX]
     by_cases hK0:K=[]
     · subst hK0
       have h0:=hz.2 rfl
       simp [h0] at hci
       simp (disch:=omega) [g374,g374L0e,g374B0,hA,hci,LX,aq,h0]
     · simp (disch:=omega) [g374,g374L0e,g374B0,hA,hci,hsl,aq,hK0,hsl2,hb1]
   · have h:=Ph (e:=e) (c:=c) (K:=c.take e.kids.length) ha hc hk _ 0 rfl (by omega) e.aX rfl
     simp only [List.take_zero,List.drop_zero,List.nil_append,Nat.add_zero] at h
     have hm:=IW (l:=e.aX)
     have hl:=IV (l:=jZ e.aX (c.drop e.kids.length))
     have hlen:(bj Ar.cells (jZ e.aX (c.drop e.kids.length))).length=e.aX.length*14:=by rw [cK gS,rK]
     rw [rK] at hl
     have hq:∀aW ts,b_ aW ts [some (bj Ar.cells e.aX)]=([some (bj Ar.cells e.aX)],aW,ts):=(bq.one bJ).norm
     generalize jZ e.aX (c.drop e.kids.length)=R at *
     generalize bj Ar.cells R=TR at *
     generalize hK:c.take e.kids.length=K at *
     rw [g374L0e] at h
     generalize bj Ar.cells e.aX=T at *
     simp [N_,zO,hq] at h
     simp at hl
     by_cases hK0:K=[]
     · subst hK0
       have h0:=hz.2 rfl
       simp [h0] at h hci
       simp (disch:=omega) [-getElem?_pos,g374,hA,hci,LX,aq,h0,hb2,hm,hq,g374L0e,h,hlen,hl]
     · simp only [hsl2] at h
       simp (disch:=omega) [-getElem?_pos,g374,hA,hci,hsl,aq,hK0,hsl2,hb1,hb2,hm,hq,g374L0e,h,hlen,hl]
 · rw [if_neg hc]
   have hci:¬(c.length:Int)=(e.kids.length:Int)+e.aX.length:=by omega
   simp (disch:=omega) [g374,hci,aq]
end Go.Ab.Lw
namespace Go.Ab.Lw
open Ev
theorem Pj {s:List bV} (hS:Sm s) {y:bV}:∀(n i:Nat),s.length-i=n→i≤s.length →
   cl AP g364L0 ⟨[(0,.pv (.aD (s.map .str))),(1,.pv (.str y)),(5,.pv (vI i))],[],[],[]⟩ =
     if y∈s.drop i then some (.ret,⟨[(4,.pv (.bool true))],[],[],[]⟩)
     else some (.exit 0,⟨[(0,.pv (.aD (s.map .str))),(1,.pv (.str y)),(5,.pv (vI s.length)),(9,.pv (.bool false))],[],[],[]⟩)
 | 0,i,hn,hi=>by
   have:i=s.length:=by omega
   subst this
   rw [g364L0e]
   simp [g364B0]
 | n+1,i,hn,hi=>by
   have hi:i<s.length:=by omega
   obtain ⟨x,hx⟩:=bn hi
   unfold Sm at hS
   have ih:=Pj hS (y:=y) n (i+1) (by omega) (by omega)
   simp at ih
   rw [g364L0e,bC hx]
   by_cases e:x=y
   · subst e
     simp (disch:=omega) [-getElem?_pos,g364B0,hx,hi]
   · have e':¬y=x:=fun h=>e h.symm
     simp (disch:=omega) [-getElem?_pos,g364B0,hx,hi,e,e',aq,ih]
theorem c364 {s:List bV} (hS:Sm s) {y:bV}:(aN AP).p 364 [.aD (s.map .str),.str y]=some [.bool (decide (y∈s))]:=by
 have h:=Pj hS (y:=y) _ 0 rfl (by omega)
 simp at h
 rw [au (af:=g364) rfl rfl (by decide)]
 by_cases e:y∈s<;>simp [e] at h<;>simp [g364,h,e]
inductive Ex.One:Ex→Prop
 | mk {e:Ex}:(e.kind=8→e.kids.length=1)→(∀x∈e.ch,x.One)→e.One
theorem Ex.One.h {e:Ex} (h:e.One):e.kind=8→e.kids.length=1:=by cases h;assumption
theorem Ex.One.c {e:Ex} (h:e.One):∀x∈e.ch,x.One:=by cases h;assumption
theorem nB {e:Ex} {i:Nat} (h:e.Ok):(eh e i).length≤1000:=by
 unfold eh
 split
 · simp
 · split
   · cases hx:e.aX[i-1]? with
     | none=>simp
     | some a=>exact h.v a (bo hx)
   · simp
end Go.Ab.Lw
namespace Go.Ab.Lw
open Ev
def BE (cs:List fW) (s:bV):Option Nat:=cX (fun c=>decide (c.name=s)) cs
def hZ:List Dt→bV→Nat→Option (Nat×Nat)
 | [],_,_=>none
 | d::r,s,i=>match BE d.cons s with
   | some k=>some (i,k)
   | none=>hZ r s (i+1)
def rF:Option (Nat×Nat)→List PV
 | some (i,k)=>[vI i,vI k,.bool true]
 | none=>[vI 0,vI 0,.bool false]
theorem LY {ds:List Dt} {s:bV} {i:Nat} {cs:List fW} (hS:Sm cs):∀(n k:Nat),cs.length-k=n→k≤cs.length →
   cl AP g190L1 ⟨[(1,.pv (.str s)),(7,.pv (vI i)),(11,.pv (.aD (ds.map Dt.pv))),(12,.pv (vI ds.length)),(13,.pv (vI i)),(19,.pv (.aD (cs.map fW.pv))),(20,.pv (vI cs.length)),(21,.pv (vI k))],[],[],[]⟩ =
     match cX (fun c=>decide (c.name=s)) (cs.drop k) with
     | some j=>some (.ret,⟨[(4,.pv (vI i)),(5,.pv (vI (k+j:Nat))),(6,.pv (.bool true))],[],[],[]⟩)
     | none=>some (.exit 2,⟨[(1,.pv (.str s)),(7,.pv (vI i)),(11,.pv (.aD (ds.map Dt.pv))),(12,.pv (vI ds.length)),(13,.pv (vI i)),(19,.pv (.aD (cs.map fW.pv))),(20,.pv (vI cs.length)),(21,.pv (vI cs.length)),(22,.pv (.bool false))],[],[],[]⟩)
 | 0,k,hn,hk=>by
   have:k=cs.length:=by omega
   subst this
   rw [g190L1e]
   simp [g190B1,cX]
 | n+1,k,hn,hk=>by
   have hk:k<cs.length:=by omega
   obtain ⟨x,hx⟩:=bn hk
   unfold Sm at hS
   have ih:=LY (ds:=ds) (s:=s) (i:=i) hS n (k+1) (by omega) (by omega)
   rw [g190L1e] at ih ⊢
   rw [bC hx]
   simp at ih
   by_cases e:x.name=s
   · simp (disch:=omega) [-getElem?_pos,g190B1,hx,hk,e,cX]
   · simp (disch:=omega) [-getElem?_pos,g190B1,hx,hk,e,cX,aq]
     rw [g190L1e]
     simp [ih]
     cases cX (fun c=>decide (c.name=s)) (cs.drop (k+1)) with
     | none=>rfl
     | some j=>simp;omega
theorem Pk {ds:List Dt} (hS:Sm ds) (hc:∀d∈ds,Sm d.cons) (s:bV):∀(n i:Nat),ds.length-i=n→i≤ds.length →
   cl AP g190L0 ⟨[(1,.pv (.str s)),(11,.pv (.aD (ds.map Dt.pv))),(12,.pv (vI ds.length)),(13,.pv (vI i))],[],[],[]⟩ =
     match hZ (ds.drop i) s i with
     | some q=>some (.ret,⟨[(4,.pv (vI q.1)),(5,.pv (vI q.2)),(6,.pv (.bool true))],[],[],[]⟩)
     | none=>some (.exit 0,⟨[(1,.pv (.str s)),(11,.pv (.aD (ds.map Dt.pv))),(12,.pv (vI ds.length)),(13,.pv (vI ds.length)),(14,.pv (.bool false))],[],[],[]⟩)
 | 0,i,hn,hi=>by
   have:i=ds.length:=by omega
   subst this
   rw [g190L0e]
   simp [g190B0,hZ]
 | n+1,i,hn,hi=>by
   have hi:i<ds.length:=by omega
   obtain ⟨d,hd⟩:=bn hi
   unfold Sm at hS
   have ih:=Pk hS hc s n (i+1) (by omega) (by omega)
   have h:=LY (ds:=ds) (s:=s) (i:=i) (hc d (bo hd)) _ 0 rfl (by omega)
   rw [g190L1e] at h
   rw [g190L0e] at ih ⊢
   rw [bC hd]
   simp at ih h
   cases e:cX (fun c=>decide (c.name=s)) d.cons with
   | some k=>
     rw [e] at h
     simp at h
     simp (disch:=omega) [-getElem?_pos,g190B0,hd,hi,hZ,BE,e,g190L1e,h]
   | none=>
     rw [e] at h
     simp at h
     simp (disch:=omega) [-getElem?_pos,g190B0,hd,hi,hZ,BE,e,g190L1e,h,aq]
     rw [g190L0e]
     simp [ih]
theorem c190 {ds:List Dt} (hS:Sm ds) (hc:∀d∈ds,Sm d.cons) {s:bV}:(aN AP).p 190 [.aD (ds.map Dt.pv),.str s]=some (rF (hZ ds s 0)):=by
 have h:=Pk hS hc s _ 0 rfl (by omega)
 rw [au (af:=g190) rfl rfl (by decide)]
 rw [g190L0e] at h
 simp at h
 cases e:hZ ds s 0 with
 | none=>rw [e] at h;simp at h;simp [g190,g190L0e,h,rF]
 | some q=>rw [e] at h;simp at h;simp [g190,g190L0e,h,rF]
theorem LZ {ds:List Dt} {s:bV} {i:Nat} {d:Dt} (hd:ds[i]?=some d) (hS:Sm d.cons):∀(n k:Nat),d.cons.length-k=n→k≤d.cons.length →
   cl AP g191L1 ⟨[(0,.pv (.aD (ds.map Dt.pv))),(1,.pv (.str s)),(7,.pv (vI i)),(8,.pv (vI k))],[],[],[]⟩ =
     match cX (fun c=>decide (c.name=s)) (d.cons.drop k) with
     | some j=>some (.ret,⟨[(4,.pv (vI i)),(5,.pv (vI (k+j:Nat))),(6,.pv (.bool true))],[],[],[]⟩)
     | none=>some (.exit 2,⟨[(0,.pv (.aD (ds.map Dt.pv))),(1,.pv (.str s)),(7,.pv (vI i)),(8,.pv (vI d.cons.length)),(22,.pv (.bool false))],[],[],[]⟩)
 | 0,k,hn,hk=>by
   have:k=d.cons.length:=by omega
   subst this
   rw [g191L1e]
   simp [-getElem?_pos,g191B1,cX,hd]
 | n+1,k,hn,hk=>by
   have hk:k<d.cons.length:=by omega
   obtain ⟨x,hx⟩:=bn hk
   unfold Sm at hS
   have ih:=LZ (s:=s) hd hS n (k+1) (by omega) (by omega)
   rw [g191L1e] at ih ⊢
   rw [bC hx]
   simp at ih
   by_cases e:x.name=s
   · simp (disch:=omega) [-getElem?_pos,g191B1,hd,hx,hk,e,cX]
   · simp (disch:=omega) [-getElem?_pos,g191B1,hd,hx,hk,e,cX,aq]
     rw [g191L1e]
     simp [ih]
     cases cX (fun c=>decide (c.name=s)) (d.cons.drop (k+1)) with
     | none=>rfl
     | some j=>simp;omega
theorem Pl {ds:List Dt} (hS:Sm ds) (hc:∀d∈ds,Sm d.cons) (s:bV):∀(n i:Nat),ds.length-i=n→i≤ds.length →
   cl AP g191L0 ⟨[(0,.pv (.aD (ds.map Dt.pv))),(1,.pv (.str s)),(7,.pv (vI i))],[],[],[]⟩ =
     match hZ (ds.drop i) s i with
     | some q=>some (.ret,⟨[(4,.pv (vI q.1)),(5,.pv (vI q.2)),(6,.pv (.bool true))],[],[],[]⟩)
     | none=>some (.exit 0,⟨[(0,.pv (.aD (ds.map Dt.pv))),(1,.pv (.str s)),(7,.pv (vI ds.length)),(12,.pv (.bool false))],[],[],[]⟩)
 | 0,i,hn,hi=>by
   have:i=ds.length:=by omega
   subst this
   rw [g191L0e]
   simp [g191B0,hZ]
 | n+1,i,hn,hi=>by
   have hi:i<ds.length:=by omega
   obtain ⟨d,hd⟩:=bn hi
   unfold Sm at hS
   have ih:=Pl hS hc s n (i+1) (by omega) (by omega)
   have h:=LZ (s:=s) hd (hc d (bo hd)) _ 0 rfl (by omega)
   rw [g191L1e] at h
   rw [g191L0e] at ih ⊢
   rw [bC hd]
   simp at ih h
   cases e:cX (fun c=>decide (c.name=s)) d.cons with
   | some k=>
     rw [e] at h
     simp at h
     simp (disch:=omega) [-getElem?_pos,g191B0,hd,hi,hZ,BE,e,g191L1e,h]
   | none=>
     rw [e] at h
     simp at h
     simp (disch:=omega) [-getElem?_pos,g191B0,hd,hi,hZ,BE,e,g191L1e,h,aq]
     rw [g191L0e]
     simp [ih]
theorem c191 {ds:List Dt} (hS:Sm ds) (hc:∀d∈ds,Sm d.cons) {s:bV}:(aN AP).p 191 [.aD (ds.map Dt.pv),.str s]=some (rF (hZ ds s 0)):=by
 have h:=Pl hS hc s _ 0 rfl (by omega)
 rw [au (af:=g191) rfl rfl (by decide)]
 rw [g191L0e] at h
 simp at h
 cases e:hZ ds s 0 with
 | none=>rw [e] at h;simp at h;simp [g191,g191L0e,h,rF]
 | some q=>rw [e] at h;simp at h;simp [g191,g191L0e,h,rF]
theorem La {cs:List fW} {s:bV} {k:Nat} (h:BE cs s=some k):∃c,cs[k]?=some c∧c.name=s:=by
 unfold BE at h
 induction cs generalizing k with
 | nil=>simp [cX] at h
 | cons a r ih=>
   simp only [cX] at h
   split at h
   · rename_i e
     cases h
     exact ⟨a,rfl,by simpa using e⟩
   · simp only [Option.map_eq_some_iff] at h
     obtain ⟨j,hj,rfl⟩:=h
     obtain ⟨c,h1,h2⟩:=ih hj
     exact ⟨c,by simpa using h1,h2⟩
theorem uX {s:bV}:∀{ds:List Dt} {n:Nat} {q:Nat×Nat},hZ ds s n=some q→n≤q.1∧∃d c,ds[q.1-n]?=some d∧d.cons[q.2]?=some c∧c.name=s
 | [],n,q,h=>by simp [hZ] at h
 | d::r,n,q,h=>by
   simp only [hZ] at h
   split at h
   · rename_i k e
     cases h
     obtain ⟨c,h1,h2⟩:=La e
     exact ⟨Nat.le_refl _,d,c,by simp,h1,h2⟩
   · obtain ⟨h1,d',c,h2,h3,h4⟩:=uX h
     refine ⟨by omega,d',c,?_,h3,h4⟩
     rw [show q.1-n=(q.1-(n+1))+1 from by omega]
     simpa using h2
end Go.Ab.Lw
namespace Go.Ab.Lw
open Ev
def gK (d:Dt) (as:List Ar):Bool:=decide (d.cons.map fW.name=as.map d8.d7)
def lU (ds:List Dt) (as:List Ar):Option Nat:=cX (fun d=>gK d as) ds
def lV:Option Nat→List PV
 | some i=>[vI i,.bool true]
 | none=>[vI 0,.bool false]
theorem Lb:N6 fW.pv (fun c:fW=>[vI c.pos,.str c.name,.aD (c.fields.map Ty.pv)]) 3:=⟨fun _=>rfl,fun _=>rfl,fun _=>by simp⟩
theorem Nz:N6 Ar.pv Ar.cells 14:=⟨fun _=>rfl,fun x=>gS.len x,fun x=>by simp [Ar.cells,Ex.bG]⟩
theorem rL:∀{cs:List fW} {as:List Ar},kj (fun (c:fW) (a:Ar)=>decide (c.name=a.d7)) cs as=decide (cs.map fW.name=as.map d8.d7)
 | [],[]=>by simp [kj]
 | c::cs,a::as=>by simp only [kj,rL (cs:=cs) (as:=as),List.map_cons,List.cons.injEq,Bool.decide_and]
 | [],_::_=>by simp [kj]
 | _::_,[]=>by simp [kj]
theorem NA {sh:Sh} (hq:bq sh) {cs:List fW}:IA (.fn 419 []) sh (fun c:fW=>[vI c.pos,.str c.name,.aD (c.fields.map Ty.pv)]) Ar.cells (fun (c:fW) (a:Ar)=>decide (c.name=a.d7)) cs:=by
 intro x _ y
 have c:(aN AP).i 419 [.pv x.pv,.pv (Ar.pv y)] sh []=some ([.pv (.bool (decide (x.name=y.d7)))],sh,[]):=by
   rw [aR (af:=g419) rfl (by simp [g419])]
   by_cases e:x.name=y.d7<;>simp [g419,hq.norm,e]
 simp at c
 simp [Ar.cells,Ex.bG,hq.norm,hq.shift,c]
theorem c418 {sh:Sh} (hq:bq sh) {cs:List fW} (hS:Sm cs) {as:List Ar}:(aN AP).i 418 [.pv (.aD (cs.map fW.pv)),.pv (.aD (as.map Ar.pv)),.fn 419 []] sh []=some ([.pv (.bool (decide (cs.map fW.name=as.map d8.d7)))],sh,[]):=by
 rw [←rL]
 exact Rb Lb Nz (z1:=[vI 0,.str [],.aD []]) (z2:=[vI 0,.str [],.aD [],vI 0,vI 0,.str [],vI 0,.aD [],.aD [],vI 0,.str [],vI 0,vI 0,.aD []]) rfl rfl (m:=418) rfl hS hq rfl (NA hq)
theorem NB {sh:Sh} (hq:bq sh) {as:List Ar} {b:Nat} (hb:sh[b]?=some (some [.pv (.aD (as.map Ar.pv))])) {ds:List Dt} (hc:∀d∈ds,Sm d.cons):Nl (.fn 417 [.a_ b 0]) sh Dt.pv (fun d=>gK d as) ds:=by
 intro d hd
 have k:=c418 hq (hc d hd) (as:=as)
 have c:(aN AP).i 417 [.pv d.pv,.a_ b 0] sh []=some ([.pv (.bool (gK d as))],sh,[]):=by
   rw [aR (af:=g417) rfl (by simp [g417])]
   simp [-getElem?_pos,g417,hq.norm,hq.shift,hb,k,gK]
 simp at c
 simp [hq.norm,hq.shift,c]
theorem c407 {ds:List Dt} (hS:Sm ds) (hc:∀d∈ds,Sm d.cons) {as:List Ar}:(aN AP).p 407 [.aD (ds.map Dt.pv),.aD (as.map Ar.pv)]=some (lV (lU ds as)):=by
 have hq:bq [some [AV.pv (.aD (as.map Ar.pv))]]:=bq.one (by intro v hv;simp at hv;exact ⟨_,hv⟩)
 have k:=Qy Iw (k:=416) rfl hS hq (g:=417) (cap:=[.a_ 0 0]) rfl (NB hq (b:=0) rfl hc)
 rw [au (af:=g407) rfl rfl (by decide)]
 unfold lU
 cases e:cX (fun d=>gK d as) ds with
 | none=>rw [e] at k;simp [nq] at k;simp [g407,k,lV]
 | some i=>rw [e] at k;simp [nq] at k;simp [g407,k,lV]
end Go.Ab.Lw
namespace Go.Ab.Lw
open Ev
abbrev rW:=Int×Int
def fP (f:rW):PV:=.agg [vI f.1,vI f.2]
@[simp] theorem H_ (f:rW):fP f=.agg [vI f.1,vI f.2]:=rfl
theorem c365 {a b:Int}:(aN AP).p 365 [vI a,vI b]=some [fP (a,b)]:=by
 rw [au (af:=g365) rfl rfl (by decide)]
 simp [g365]
def findF (ds:List Dt):List Ar→Option rW
 | []=>none
 | a::r=>match hZ ds a.d7 0 with
   | none=>some (9,a.pos)
   | some _=>findF ds r
noncomputable def jy:List bV→List bV→Bool
 | _,[]=>false
 | p,x::r=>decide (x∈p) || jy (p++[x]) r
noncomputable def xZ:List fW→List Ar→rW
 | c::cs,a::as=>if a.vars.length≠c.fields.length then (8,a.pos) else if jy [] a.vars=true then (6,a.pos) else xZ cs as
 | _,_=>(0,0)
noncomputable def lW (ds:List Dt) (e:Ex):rW:=match findF ds e.aX with
 | some f=>f
 | none=>match lU ds e.aX with
   | none=>(10,e.pos)
   | some i=>match ds[i]? with
     | some d=>xZ d.cons e.aX
     | none=>(0,0)
theorem L0 {ds:List Dt} {i:Nat} {d:Dt} (hd:ds[i]?=some d) {as:List Ar} (hS:Sm as):∀(n k:Nat),as.length-k=n→k≤as.length→∀s:Bool,(s=true→as.length=d.cons.length)→∃j:Int,
   cl AP g390L1 ⟨[(0,.pv (.aD (ds.map Dt.pv))),(1,.pv (.aD (as.map Ar.pv))),(6,.pv (vI i)),(7,.pv (.bool s)),(8,.pv (vI k))],[],[],[]⟩ =
     some (.exit 2,⟨[(0,.pv (.aD (ds.map Dt.pv))),(1,.pv (.aD (as.map Ar.pv))),(6,.pv (vI i)),(7,.pv (.bool (s && decide ((d.cons.drop k).map fW.name=(as.drop k).map d8.d7)))),(8,.pv (vI j)),(30,.pv (.bool false))],[],[],[]⟩)
 | 0,k,hn,hk,s,hs=>by
   have:k=as.length:=by omega
   subst this
   refine ⟨as.length,?_⟩
   rw [g390L1e]
   cases s with
   | false=>simp [g390B1]
   | true=>simp [g390B1,hs rfl]
 | n+1,k,hn,hk,s,hs=>by
   have hk:k<as.length:=by omega
   unfold Sm at hS
   have hil:=(List.getElem?_eq_some_iff.1 hd).1
   cases s with
   | false=>
     refine ⟨k,?_⟩
     rw [g390L1e]
     simp [g390B1]
   | true=>
     have hl:=hs rfl
     obtain ⟨a,ha⟩:=bn hk
     obtain ⟨c,hc⟩:=bn (hl ▸ hk)
     have hk2:k<d.cons.length:=by omega
     obtain ⟨j,ih⟩:=L0 hd hS n (k+1) (by omega) (by omega) (decide (a.d7=c.name)) (fun _=>hl)
     refine ⟨j,?_⟩
     rw [bC ha,bC hc]
     have key:(true && decide ((c::d.cons.drop (k+1)).map fW.name=(a::as.drop (k+1)).map d8.d7))=(decide (a.d7=c.name) && decide ((d.cons.drop (k+1)).map fW.name=(as.drop (k+1)).map d8.d7)):=by
       rw [Bool.eq_iff_iff]
       simp [eq_comm (a:=c.name)]
     rw [key]
     generalize (decide (a.d7=c.name) && decide ((d.cons.drop (k+1)).map fW.name=(as.drop (k+1)).map d8.d7))=r at ih ⊢
     rw [g390L1e] at ih ⊢
     simp at ih
     by_cases e:a.d7=c.name
     · simp [e] at ih
       simp (disch:=omega) [-getElem?_pos,g390B1,hk,hk2,hil,ha,hc,hd,aq,e]
       rw [g390L1e]
       simp [ih]
     · simp [e] at ih
       have e':(a.d7 == c.name)=false:=by simpa using e
       simp (disch:=omega) [-getElem?_pos,g390B1,hk,hk2,hil,ha,hc,hd,aq,e']
       rw [g390L1e]
       simp [ih]
theorem Pm {ds:List Dt} (hS:Sm ds) {as:List Ar} (hA:Sm as):∀(n i:Nat),ds.length-i=n→i≤ds.length →
   cl AP g390L0 ⟨[(0,.pv (.aD (ds.map Dt.pv))),(1,.pv (.aD (as.map Ar.pv))),(6,.pv (vI i))],[],[],[]⟩ =
     match cX (fun d=>gK d as) (ds.drop i) with
     | some k=>some (.ret,⟨[(4,.pv (vI (i+k:Nat))),(5,.pv (.bool true))],[],[],[]⟩)
     | none=>some (.exit 0,⟨[(0,.pv (.aD (ds.map Dt.pv))),(1,.pv (.aD (as.map Ar.pv))),(6,.pv (vI ds.length)),(12,.pv (.bool false))],[],[],[]⟩)
 | 0,i,hn,hi=>by
   have:i=ds.length:=by omega
   subst this
   rw [g390L0e]
   simp [g390B0,cX]
 | n+1,i,hn,hi=>by
   have hi:i<ds.length:=by omega
   obtain ⟨d,hd⟩:=bn hi
   have ih:=Pm hS hA n (i+1) (by omega) (by omega)
   obtain ⟨j,h⟩:=L0 hd hA _ 0 rfl (by omega) (decide (as.length=d.cons.length)) (by simp)
   unfold Sm at hS
   have key:(decide (as.length=d.cons.length) && decide (d.cons.map fW.name=as.map d8.d7))=gK d as:=by
     unfold gK
     by_cases e:d.cons.map fW.name=as.map d8.d7
     · have:=congrArg List.length e
       simp at this
       simp [e,this]
     · simp [e]
   rw [List.drop_zero,List.drop_zero,key] at h
   rw [g390L1e] at h
   rw [g390L0e] at ih ⊢
   rw [bC hd]
   simp only [cX]
   simp at ih
   by_cases e:gK d as=true
   · rw [if_pos e]
     rw [e] at h
     have hl:as.length=d.cons.length:=by simp [gK] at e;simpa using (congrArg List.length e).symm
     simp [hl] at h
     simp (disch:=omega) [-getElem?_pos,g390B0,hi,hd,hl,g390L1e,h]
   · rw [if_neg e]
     have e:gK d as=false:=by simpa using e
     rw [e] at h
     by_cases hl:as.length=d.cons.length
     · simp [hl] at h
       simp (disch:=omega) [-getElem?_pos,g390B0,hi,hd,hl,g390L1e,h,aq]
       rw [g390L0e]
       simp [ih]
       cases cX (fun d=>gK d as) (ds.drop (i+1)) with
       | none=>rfl
       | some k=>simp;omega
     · have hl':((as.length:Int) == (d.cons.length:Int))=false:=by rw [beq_eq_false_iff_ne];omega
       simp [hl] at h
       simp (disch:=omega) [-getElem?_pos,g390B0,hi,hd,hl',g390L1e,h,aq]
       rw [g390L0e]
       simp [ih]
       cases cX (fun d=>gK d as) (ds.drop (i+1)) with
       | none=>rfl
       | some k=>simp;omega
theorem c390 {ds:List Dt} (hS:Sm ds) {as:List Ar} (hA:Sm as):(aN AP).p 390 [.aD (ds.map Dt.pv),.aD (as.map Ar.pv)]=some (lV (lU ds as)):=by
 have h:=Pm hS hA _ 0 rfl (by omega)
 simp at h
 rw [au (af:=g390) rfl rfl (by decide)]
 unfold lU
 cases e:cX (fun d=>gK d as) ds with
 | none=>rw [e] at h;simp at h;simp [g390,h,lV]
 | some i=>rw [e] at h;simp at h;simp [g390,h,lV]
abbrev m2 (f:rW):List AV:=[.pv (vI f.1),.pv (vI f.2)]
theorem L1 {ds:List Dt} (hS:Sm ds) (hc:∀d∈ds,Sm d.cons) {e:Ex} (hA:e.aX.length≤1000):∀(n i:Nat),e.aX.length-i=n→i≤e.aX.length →
   cl AP g379L0 ⟨[(0,.pv (.aD (ds.map Dt.pv))),(3,.az 3 0),(4,.az 4 0),(5,.pv (vI i))],[(3,e.cl),(4,m2 (0,0))],[],[]⟩ =
     match findF ds (e.aX.drop i) with
     | some f=>some (.ret,⟨[(4,.az 4 0)],[(4,m2 f)],[],[]⟩)
     | none=>some (.exit 0,⟨[(0,.pv (.aD (ds.map Dt.pv))),(3,.az 3 0),(4,.az 4 0),(5,.pv (vI e.aX.length)),(18,.pv (.bool false))],[(3,e.cl),(4,m2 (0,0))],[],[]⟩)
 | 0,i,hn,hi=>by
   have:i=e.aX.length:=by omega
   subst this
   rw [g379L0e]
   simp [g379B0,findF]
 | n+1,i,hn,hi=>by
   have hi:i<e.aX.length:=by omega
   obtain ⟨a,ha⟩:=bn hi
   have ih:=L1 hS hc hA n (i+1) (by omega) (by omega)
   have k:=c191 hS hc (s:=a.d7)
   have k2:=c365 (a:=9) (b:=a.pos)
   simp at k2
   rw [g379L0e] at ih ⊢
   rw [bC ha]
   simp only [findF]
   simp at ih
   cases q:hZ ds a.d7 0 with
   | none=>
     rw [q] at k
     simp [rF] at k
     simp (disch:=omega) [-getElem?_pos,g379B0,hi,ha,k,k2]
   | some r=>
     rw [q] at k
     simp [rF] at k
     simp (disch:=omega) [-getElem?_pos,g379B0,hi,ha,k,aq]
     rw [g379L0e]
     simp [ih]
theorem L2 {ds:List Dt} {e:Ex} {i9 i:Nat} {a:Ar} (ha:e.aX[i]?=some a) (hv:a.vars.length≤1000):∀(n k:Nat),a.vars.length-k=n→k≤a.vars.length →
   cl AP g379L2 ⟨[(0,.pv (.aD (ds.map Dt.pv))),(3,.az 3 0),(4,.az 4 0),(9,.pv (vI i9)),(11,.pv (vI i)),(12,.pv (.aD (a.vars.map .str))),(13,.pv (vI k))],[(3,e.cl),(4,m2 (0,0))],[],[]⟩ =
     if jy (a.vars.take k) (a.vars.drop k)=true then some (.ret,⟨[(4,.az 4 0)],[(4,m2 (6,a.pos))],[],[]⟩)
     else some (.exit 4,⟨[(0,.pv (.aD (ds.map Dt.pv))),(3,.az 3 0),(4,.az 4 0),(9,.pv (vI i9)),(11,.pv (vI i)),(12,.pv (.aD (a.vars.map .str))),(13,.pv (vI a.vars.length)),(90,.pv (.bool false))],[(3,e.cl),(4,m2 (0,0))],[],[]⟩)
 | 0,k,hn,hk=>by
   have:k=a.vars.length:=by omega
   subst this
   rw [g379L2e]
   simp [g379B2,jy]
 | n+1,k,hn,hk=>by
   have hk:k<a.vars.length:=by omega
   have hil:=(List.getElem?_eq_some_iff.1 ha).1
   obtain ⟨x,hx⟩:=bn hk
   have ih:=L2 (ds:=ds) (i9:=i9) ha hv n (k+1) (by omega) (by omega)
   have k1:=c364 (s:=a.vars.take k) (by unfold Sm;simp;omega) (y:=x)
   have k2:=c365 (a:=6) (b:=a.pos)
   have hsl:=Nt (sz:=1) (l:=a.vars.map PV.str) (k:=.i64) (h:=k) (by omega) (by simp;omega)
   simp at k2 hsl
   rw [List.map_take] at k1
   rw [List.take_add_one,hx] at ih
   simp only [Option.toList_some] at ih
   rw [g379L2e] at ih ⊢
   rw [bC hx]
   simp at ih
   by_cases q:x∈a.vars.take k
   · have hq:jy (a.vars.take k) (x::a.vars.drop (k+1))=true:=by simp [jy,q]
     rw [hq]
     rw [decide_eq_true q] at k1
     simp (disch:=omega) [-getElem?_pos,g379B2,hk,hil,ha,hx,hsl,k1,k2]
   · have hq:jy (a.vars.take k) (x::a.vars.drop (k+1))=jy (a.vars.take k++[x]) (a.vars.drop (k+1)):=by simp [jy,q]
     rw [hq]
     rw [decide_eq_false q] at k1
     simp (disch:=omega) [-getElem?_pos,g379B2,hk,hil,ha,hx,hsl,k1,aq]
     rw [g379L2e]
     simp [ih]
     by_cases q3:jy (a.vars.take k++[x]) (a.vars.drop (k+1))=true<;>simp [q3]
theorem L3 {ds:List Dt} {e:Ex} {i9:Nat} {d:Dt} (hd:ds[i9]?=some d) (hA:e.aX.length≤1000) (hv:∀a∈e.aX,a.vars.length≤1000) (hl:e.aX.length=d.cons.length):∀(n i:Nat),e.aX.length-i=n→i≤e.aX.length →
   cl AP g379L1 ⟨[(0,.pv (.aD (ds.map Dt.pv))),(3,.az 3 0),(4,.az 4 0),(9,.pv (vI i9)),(11,.pv (vI i))],[(3,e.cl),(4,m2 (0,0))],[],[]⟩ =
     if (xZ (d.cons.drop i) (e.aX.drop i)).1≠0 then some (.ret,⟨[(4,.az 4 0)],[(4,m2 (xZ (d.cons.drop i) (e.aX.drop i)))],[],[]⟩)
     else some (.exit 2,⟨[(0,.pv (.aD (ds.map Dt.pv))),(3,.az 3 0),(4,.az 4 0),(9,.pv (vI i9)),(11,.pv (vI e.aX.length)),(58,.pv (.bool false))],[(3,e.cl),(4,m2 (0,0))],[],[]⟩)
 | 0,i,hn,hi=>by
   have:i=e.aX.length:=by omega
   subst this
   rw [g379L1e,rp (l:=d.cons) (by omega),rp (l:=e.aX) (by omega)]
   simp [g379B1,xZ]
 | n+1,i,hn,hi=>by
   have hi:i<e.aX.length:=by omega
   have hi2:i<d.cons.length:=by omega
   have hil:=(List.getElem?_eq_some_iff.1 hd).1
   obtain ⟨a,ha⟩:=bn hi
   obtain ⟨c,hc⟩:=bn hi2
   have ih:=L3 hd hA hv hl n (i+1) (by omega) (by omega)
   have h:=L2 (ds:=ds) (i9:=i9) ha (hv a (bo ha)) _ 0 rfl (by omega)
   have k2:=c365 (a:=8) (b:=a.pos)
   simp at k2
   rw [List.take_zero,List.drop_zero] at h
   rw [g379L2e] at h
   rw [g379L1e] at ih ⊢
   rw [bC ha,bC hc]
   simp only [xZ]
   simp at ih h
   by_cases q:a.vars.length=c.fields.length
   · by_cases q2:jy [] a.vars=true
     · simp [q2,q] at h
       simp (disch:=omega) [-getElem?_pos,g379B1,hi,hi2,hil,ha,hc,hd,q,q2,g379L2e,h]
     · simp [q2,q] at h
       simp (disch:=omega) [-getElem?_pos,g379B1,hi,hi2,hil,ha,hc,hd,q,q2,g379L2e,h,aq]
       rw [g379L1e]
       simp [ih]
   · have q':¬(a.vars.length:Int)=c.fields.length:=by omega
     simp (disch:=omega) [-getElem?_pos,g379B1,hi,hi2,hil,ha,hc,hd,q,q',k2]
theorem x4 {ds:List Dt} {as:List Ar} {i:Nat} (h:lU ds as=some i):∃d,ds[i]?=some d∧as.length=d.cons.length:=by
 unfold lU at h
 have key:∀{l:List Dt} {k:Nat},cX (fun d=>gK d as) l=some k→∃d,l[k]?=some d∧gK d as=true:=by
   intro l
   induction l with
   | nil=>intro k h;simp [cX] at h
   | cons x r ih=>
     intro k h
     simp only [cX] at h
     split at h
     · rename_i e;cases h;exact ⟨x,rfl,e⟩
     · cases h':cX (fun d=>gK d as) r with
       | none=>rw [h'] at h;simp at h
       | some k'=>rw [h'] at h;simp at h;subst h;simpa using ih h'
 obtain ⟨d,h1,h2⟩:=key h
 refine ⟨d,h1,?_⟩
 unfold gK at h2
 have:=congrArg List.length (of_decide_eq_true h2)
 simpa using this.symm
theorem nC:∀{cs:List fW} {as:List Ar},(xZ cs as).1=0→xZ cs as=(0,0)
 | [],_,_=>by simp [xZ]
 | _::_,[],_=>by simp [xZ]
 | c::cs,a::as,h=>by
   simp only [xZ] at h ⊢
   split at h
   · simp at h
   · rename_i h1
     rw [if_neg h1]
     split at h
     · simp at h
     · rename_i h2
       rw [if_neg h2]
       exact nC h
theorem c379 {ds:List Dt} (hS:Sm ds) (hc:∀d∈ds,Sm d.cons) {e:Ex} (hO:e.Ok):(aN AP).p 379 [.aD (ds.map Dt.pv),e.pv]=some [fP (lW ds e)]:=by
 have hA:=hO.a
 have h:=L1 hS hc hA _ 0 rfl (by omega)
 rw [au (af:=g379) rfl rfl (by decide)]
 unfold lW
 rw [List.drop_zero] at h
 cases q:findF ds e.aX with
 | some f=>
   rw [q] at h
   simp at h
   simp [g379,h]
 | none=>
   rw [q] at h
   simp at h
   have k:=c390 hS (as:=e.aX) (by unfold Sm;omega)
   cases q2:lU ds e.aX with
   | none=>
     rw [q2] at k
     have k2:=c365 (a:=10) (b:=e.pos)
     simp [lV] at k k2
     simp [g379,h,k,k2]
   | some i=>
     rw [q2] at k
     simp [lV] at k
     obtain ⟨d,hd,hl⟩:=x4 q2
     have h2:=L3 hd hA hO.v hl _ 0 rfl (by omega)
     rw [List.drop_zero,List.drop_zero] at h2
     simp only [hd]
     by_cases q3:(xZ d.cons e.aX).1=0
     · have:=nC q3
       rw [this] at h2 ⊢
       simp at h2
       simp [g379,h,k,h2]
     · simp [q3] at h2
       simp [g379,h,k,h2]
end Go.Ab.Lw
namespace Go.Ab.Lw
open Ev
theorem L4 {ds:List Dt} (hS:Sm ds) (hc:∀d∈ds,Sm d.cons) {e:Ex} (hA:e.aX.length≤1000):∀(n i:Nat),e.aX.length-i=n→i≤e.aX.length →
   cl AP g415L0 ⟨[(0,.pv (.aD (ds.map Dt.pv))),(3,.az 3 0),(4,.az 4 0),(17,.pv (.aD (e.aX.map Ar.pv))),(18,.pv (vI e.aX.length)),(19,.pv (vI i))],[(3,e.cl),(4,m2 (0,0))],[],[]⟩ =
     match findF ds (e.aX.drop i) with
     | some f=>some (.ret,⟨[(4,.az 4 0)],[(4,m2 f)],[],[]⟩)
     | none=>some (.exit 0,⟨[(0,.pv (.aD (ds.map Dt.pv))),(3,.az 3 0),(4,.az 4 0),(17,.pv (.aD (e.aX.map Ar.pv))),(18,.pv (vI e.aX.length)),(19,.pv (vI e.aX.length)),(20,.pv (.bool false))],[(3,e.cl),(4,m2 (0,0))],[],[]⟩)
 | 0,i,hn,hi=>by
   have:i=e.aX.length:=by omega
   subst this
   rw [g415L0e]
   simp [g415B0,findF]
 | n+1,i,hn,hi=>by
   have hi:i<e.aX.length:=by omega
   obtain ⟨a,ha⟩:=bn hi
   have ih:=L4 hS hc hA n (i+1) (by omega) (by omega)
   have k:=c190 hS hc (s:=a.d7)
   rw [g415L0e] at ih ⊢
   rw [bC ha]
   simp only [findF]
   simp at ih
   cases q:hZ ds a.d7 0 with
   | none=>
     rw [q] at k
     simp [rF] at k
     simp (disch:=omega) [-getElem?_pos,g415B0,hi,ha,k]
   | some r=>
     rw [q] at k
     simp [rF] at k
     simp (disch:=omega) [-getElem?_pos,g415B0,hi,ha,k,aq]
     rw [g415L0e]
     simp [ih]
@[simp] def Ar.cl (a:Ar):List AV:=.pv (vI a.pos)::.pv (.str a.d7)::.pv (.aD (a.vars.map .str))::a.body.cl
theorem L5 {ds:List Dt} {i10 i:Nat} {as:List Ar} {a:Ar} (hv:a.vars.length≤1000):∀(n k:Nat),a.vars.length-k=n→k≤a.vars.length →
   cl AP g415L2 ⟨[(0,.pv (.aD (ds.map Dt.pv))),(4,.az 4 0),(10,.pv (vI i10)),(13,.az 13 0),(50,.pv (.aD (as.map Ar.pv))),(51,.pv (vI as.length)),(52,.pv (vI i)),(75,.pv (.aD (a.vars.map .str))),(76,.pv (vI a.vars.length)),(77,.pv (vI k))],[(4,m2 (0,0)),(13,Ar.cl a)],[],[]⟩ =
     if jy (a.vars.take k) (a.vars.drop k)=true then some (.ret,⟨[(4,.az 4 0)],[(4,m2 (6,a.pos))],[],[]⟩)
     else some (.exit 4,⟨[(0,.pv (.aD (ds.map Dt.pv))),(4,.az 4 0),(10,.pv (vI i10)),(13,.az 13 0),(50,.pv (.aD (as.map Ar.pv))),(51,.pv (vI as.length)),(52,.pv (vI i)),(75,.pv (.aD (a.vars.map .str))),(76,.pv (vI a.vars.length)),(77,.pv (vI a.vars.length)),(78,.pv (.bool false))],[(4,m2 (0,0)),(13,Ar.cl a)],[],[]⟩)
 | 0,k,hn,hk=>by
   have:k=a.vars.length:=by omega
   subst this
   rw [g415L2e]
   simp [g415B2,jy]
 | n+1,k,hn,hk=>by
   have hk:k<a.vars.length:=by omega
   obtain ⟨x,hx⟩:=bn hk
   have ih:=L5 (ds:=ds) (i10:=i10) (i:=i) (as:=as) hv n (k+1) (by omega) (by omega)
   have k1:=c214 (s:=a.vars.take k) (by unfold Sm;simp;omega) (y:=x)
   have hsl:=Nt (sz:=1) (l:=a.vars.map PV.str) (k:=.i64) (h:=k) (by omega) (by simp;omega)
   simp at hsl
   rw [List.map_take] at k1
   rw [List.take_add_one,hx] at ih
   simp only [Option.toList_some] at ih
   rw [g415L2e] at ih ⊢
   rw [bC hx]
   simp at ih
   by_cases q:x∈a.vars.take k
   · have hq:jy (a.vars.take k) (x::a.vars.drop (k+1))=true:=by simp [jy,q]
     rw [hq]
     rw [decide_eq_true q] at k1
     simp (disch:=omega) [-getElem?_pos,g415B2,hk,hx,hsl,k1]
   · have hq:jy (a.vars.take k) (x::a.vars.drop (k+1))=jy (a.vars.take k++[x]) (a.vars.drop (k+1)):=by simp [jy,q]
     rw [hq]
     rw [decide_eq_false q] at k1
     simp (disch:=omega) [-getElem?_pos,g415B2,hk,hx,hsl,k1,aq]
     rw [g415L2e]
     simp [ih]
     by_cases q3:jy (a.vars.take k++[x]) (a.vars.drop (k+1))=true<;>simp [q3]
theorem L6 {ds:List Dt} {i10:Nat} {d:Dt} (hd:ds[i10]?=some d) {as:List Ar} (hA:as.length≤1000) (hv:∀a∈as,a.vars.length≤1000) (hl:as.length=d.cons.length):∀(n i:Nat),as.length-i=n→i≤as.length →
   cl AP g415L1 ⟨[(0,.pv (.aD (ds.map Dt.pv))),(4,.az 4 0),(10,.pv (vI i10)),(50,.pv (.aD (as.map Ar.pv))),(51,.pv (vI as.length)),(52,.pv (vI i))],[(4,m2 (0,0))],[],[]⟩ =
     if (xZ (d.cons.drop i) (as.drop i)).1≠0 then some (.ret,⟨[(4,.az 4 0)],[(4,m2 (xZ (d.cons.drop i) (as.drop i)))],[],[]⟩)
     else some (.exit 2,⟨[(0,.pv (.aD (ds.map Dt.pv))),(4,.az 4 0),(10,.pv (vI i10)),(50,.pv (.aD (as.map Ar.pv))),(51,.pv (vI as.length)),(52,.pv (vI as.length)),(53,.pv (.bool false))],[(4,m2 (0,0))],[],[]⟩)
 | 0,i,hn,hi=>by
   have:i=as.length:=by omega
   subst this
   rw [g415L1e,rp (l:=d.cons) (by omega),rp (l:=as) (by omega)]
   simp [g415B1,xZ]
 | n+1,i,hn,hi=>by
   have hi:i<as.length:=by omega
   have hi2:i<d.cons.length:=by omega
   have hil:=(List.getElem?_eq_some_iff.1 hd).1
   obtain ⟨a,ha⟩:=bn hi
   obtain ⟨c,hc⟩:=bn hi2
   have ih:=L6 hd hA hv hl n (i+1) (by omega) (by omega)
   have h:=L5 (ds:=ds) (i10:=i10) (i:=i) (as:=as) (hv a (bo ha)) _ 0 rfl (by omega)
   rw [List.take_zero,List.drop_zero] at h
   rw [g415L2e] at h
   rw [g415L1e] at ih ⊢
   rw [bC ha,bC hc]
   simp only [xZ]
   simp at ih h
   by_cases q:a.vars.length=c.fields.length
   · by_cases q2:jy [] a.vars=true
     · simp [q2,q] at h
       simp (disch:=omega) [-getElem?_pos,g415B1,hi,hi2,hil,ha,hc,hd,q,q2,g415L2e,h]
     · simp [q2,q] at h
       simp (disch:=omega) [-getElem?_pos,g415B1,hi,hi2,hil,ha,hc,hd,q,q2,g415L2e,h,aq]
       rw [g415L1e]
       simp [ih]
   · have q':¬(a.vars.length:Int)=c.fields.length:=by omega
     simp (disch:=omega) [-getElem?_pos,g415B1,hi,hi2,hil,ha,hc,hd,q,q']
theorem c415 {ds:List Dt} (hS:Sm ds) (hc:∀d∈ds,Sm d.cons) {e:Ex} (hO:e.Ok):(aN AP).p 415 [.aD (ds.map Dt.pv),e.pv]=some [fP (lW ds e)]:=by
 have hA:=hO.a
 have h:=L4 hS hc hA _ 0 rfl (by omega)
 rw [au (af:=g415) rfl rfl (by decide)]
 unfold lW
 rw [List.drop_zero] at h
 cases q:findF ds e.aX with
 | some f=>
   rw [q] at h
   simp at h
   simp [g415,h]
 | none=>
   rw [q] at h
   simp at h
   have k:=c407 hS hc (as:=e.aX)
   cases q2:lU ds e.aX with
   | none=>
     rw [q2] at k
     simp [lV] at k
     simp [g415,h,k]
   | some i=>
     rw [q2] at k
     simp [lV] at k
     obtain ⟨d,hd,hl⟩:=x4 q2
     have h2:=L6 hd hA hO.v hl _ 0 rfl (by omega)
     rw [List.drop_zero,List.drop_zero] at h2
     simp only [hd]
     by_cases q3:(xZ d.cons e.aX).1=0
     · have:=nC q3
       rw [this] at h2 ⊢
       simp at h2
       simp [g415,h,k,h2]
     · simp [q3] at h2
       simp [g415,h,k,h2]
theorem c409 {a b:List bV} (h:a.length+b.length≤1000000000000):(aN AP).p 409 [.aD (a.map .str),.aD (b.map .str)]=some [.aD ((a++b).map .str)]:=by
 rw [au (af:=g409) rfl rfl (by decide)]
 have h1:a.length*16≤140737488355328:=by omega
 have h2:(a.length+b.length)*16≤140737488355328:=by omega
 have h3:b.length*16≤140737488355328:=by omega
 by_cases ha:a=[]
 · subst ha
   by_cases hb:b=[]
   · subst hb;simp [g409]
   · simp [g409,hb,h3]
 · by_cases hb:b=[]
   · subst hb;simp [g409,ha,h1]
   · simp [g409,ha,hb,h1,h2]
end Go.Ab.Lw
namespace Go.Ab.Lw
open Ev
inductive Ex.L7 (P:Ex→Prop):Ex→Prop
 | mk {e:Ex}:P e→(∀x∈e.ch,Ex.L7 P x)→Ex.L7 P e
theorem Ex.L7.h {P:Ex→Prop} {e:Ex} (h:e.L7 P):P e:=by cases h;assumption
theorem Ex.L7.c {P:Ex→Prop} {e:Ex} (h:e.L7 P):∀x∈e.ch,x.L7 P:=by cases h;assumption
inductive Ex.tt:Nat→Ex→Prop
 | mk {n:Nat} {e:Ex}:(∀x∈e.ch,Ex.tt n x)→Ex.tt (n+1) e
theorem Ex.tt.c {n:Nat} {e:Ex} (h:Ex.tt (n+1) e):∀x∈e.ch,Ex.tt n x:=by cases h;assumption
noncomputable def ei (ds:List Dt) (names:List bV) (e:Ex):rW:=
 if e.kind=1 then (if e.name∈names then (0,0) else (9,e.pos))
 else if e.kind=2 then (if (hZ ds e.name 0).isSome then (0,0) else (9,e.pos))
 else if e.kind=8 then lW ds e
 else if e.kind=9 then (if e.ty.formed ds []=0 then (0,0) else (e.ty.formed ds [],e.pos))
 else (0,0)
def oB (f:Nat→Ex→rW):Nat→List Ex→rW
 | _,[]=>(0,0)
 | i,x::r=>if (f i x).1≠0 then f i x else oB f (i+1) r
theorem tu {f g:Nat→Ex→rW}:∀{l:List Ex} {i:Nat},(∀i,∀x∈l,f i x=g i x)→oB f i l=oB g i l
 | [],_,_=>rfl
 | x::r,i,h=>by
   simp only [oB]
   rw [h i x (by simp),tu (l:=r) fun i y hy=>h i y (by simp [hy])]
theorem Ex.Lc {e x:Ex} (h:x∈e.ch):SizeOf.sizeOf x<SizeOf.sizeOf e:=by
 rw [Ex.ch,List.mem_append,List.mem_map] at h
 cases e
 rcases h with h | ⟨a,ha,rfl⟩
 · have:=_root_.List.sizeOf_lt_of_mem h;simp at *;omega
 · have:=_root_.List.sizeOf_lt_of_mem ha;have:=d8.tq a;simp at *;omega
open Classical in
noncomputable def Ex.bj (ds:List Dt) (e:Ex) (names:List bV):rW:=
 if (ei ds names e).1≠0 then ei ds names e
 else oB (fun i x=>if _h:x∈e.ch then Ex.bj ds x (names++eh e i) else (0,0)) 0 e.ch
termination_by e
decreasing_by exact Ex.Lc _h
theorem Ex.BF (ds:List Dt) (e:Ex) (names:List bV):e.bj ds names=if (ei ds names e).1≠0 then ei ds names e else oB (fun i x=>x.bj ds (names++eh e i)) 0 e.ch:=by
 rw [Ex.bj]
 split
 · rfl
 · exact tu fun i x hx=>by rw [dif_pos hx]
theorem rM {ds:List Dt} {e:Ex} (h:(lW ds e).1=0):lW ds e=(0,0):=by
 unfold lW at h ⊢
 have hf:∀{as:List Ar} {f:rW},findF ds as=some f→f.1=9:=by
   intro as
   induction as with
   | nil=>intro f h;simp [findF] at h
   | cons a r ih=>
     intro f h
     simp only [findF] at h
     split at h
     · cases h;rfl
     · exact ih h
 cases q:findF ds e.aX with
 | some f=>rw [q] at h;simp only at h;rw [hf q] at h;cases h
 | none=>
   rw [q] at h
   simp only at h ⊢
   cases q2:lU ds e.aX with
   | none=>rw [q2] at h;simp at h
   | some i=>
     rw [q2] at h
     simp only at h ⊢
     cases q3:ds[i]? with
     | none=>rfl
     | some d=>rw [q3] at h;exact nC h
theorem BG {ds:List Dt} {names:List bV} {e:Ex} (h:(ei ds names e).1=0):ei ds names e=(0,0):=by
 unfold ei at h ⊢
 split
 · rename_i h1
   rw [if_pos h1] at h
   split
   · rfl
   · rename_i h2;rw [if_neg h2] at h;cases h
 · rename_i h1
   rw [if_neg h1] at h
   split
   · rename_i h2
     rw [if_pos h2] at h
     split
     · rfl
     · rename_i h3;rw [if_neg h3] at h;cases h
   · rename_i h2
     rw [if_neg h2] at h
     split
     · rename_i h3
       rw [if_pos h3] at h
       exact rM h
     · rename_i h3
       rw [if_neg h3] at h
       split
       · rename_i h4
         rw [if_pos h4] at h
         split
         · rfl
         · rename_i h5;rw [if_neg h5] at h;exact absurd h h5
       · rfl
theorem x5 {f:Nat→Ex→rW} (hf:∀i x,(f i x).1=0→f i x=(0,0)):∀{l:List Ex} {i:Nat},(oB f i l).1=0→oB f i l=(0,0)
 | [],_,_=>rfl
 | x::r,i,h=>by
   simp only [oB] at h ⊢
   split
   · rename_i h1;rw [if_pos h1] at h;exact absurd h h1
   · rename_i h1;rw [if_neg h1] at h;exact x5 hf h
theorem nD {ds:List Dt}:∀{e:Ex} {names:List bV},(e.bj ds names).1=0→e.bj ds names=(0,0):=by
 intro e
 refine Ex.recC (p:=fun e=>∀{names:List bV},(e.bj ds names).1=0→e.bj ds names=(0,0)) ?_ e
 intro e ih names h
 rw [Ex.BF] at h ⊢
 split
 · rename_i h1;rw [if_pos h1] at h;exact absurd h h1
 · rename_i h1
   rw [if_neg h1] at h
   have key:∀{l:List Ex} {i:Nat},(∀x∈l,x∈e.ch)→(oB (fun i x=>x.bj ds (names++eh e i)) i l).1=0→oB (fun i x=>x.bj ds (names++eh e i)) i l=(0,0):=by
     intro l
     induction l with
     | nil=>intro i _ _;rfl
     | cons x r ihr=>
       intro i hl h
       simp only [oB] at h ⊢
       split
       · rename_i h1;rw [if_pos h1] at h;exact absurd h h1
       · rename_i h1;rw [if_neg h1] at h;exact ihr (fun y hy=>hl y (by simp [hy])) h
   exact key (fun x hx=>hx) h
structure uY (e:Ex):Prop where
 ok:e.Ok
 one:e.One
 cw:e.L7 fun x=>x.ty.Cw
theorem uY.c {e x:Ex} (h:uY e) (hx:x∈e.ch):uY x:=⟨h.ok.c x hx,h.one.c x hx,h.cw.c x hx⟩
theorem Pn {ds:List Dt} {names:List bV} {e:Ex} (he:uY e) (hn:names.length≤900000000)
   (ih:∀i,∀x∈e.ch,(aN AP).p 405 [.aD (ds.map Dt.pv),.aD ((names++eh e i).map .str),x.pv]=some [fP (x.bj ds (names++eh e i))]):∀(n i:Nat),e.ch.length-i=n→i≤e.ch.length →
   cl AP g405L0 ⟨[(0,.pv (.aD (ds.map Dt.pv))),(1,.pv (.aD (names.map .str))),(5,.az 5 0),(6,.az 6 0),(64,.pv (.aD (e.ch.map Ex.pv))),(65,.pv (vI e.ch.length)),(66,.pv (vI i))],[(5,e.cl),(6,m2 (0,0))],[],[]⟩ =
     if (oB (fun i x=>x.bj ds (names++eh e i)) i (e.ch.drop i)).1≠0 then some (.ret,⟨[(6,.az 6 0)],[(6,m2 (oB (fun i x=>x.bj ds (names++eh e i)) i (e.ch.drop i)))],[],[]⟩)
     else some (.exit 1,⟨[(0,.pv (.aD (ds.map Dt.pv))),(1,.pv (.aD (names.map .str))),(5,.az 5 0),(6,.az 6 0),(64,.pv (.aD (e.ch.map Ex.pv))),(65,.pv (vI e.ch.length)),(66,.pv (vI e.ch.length)),(67,.pv (.bool false))],[(5,e.cl),(6,m2 (0,0))],[],[]⟩)
 | 0,i,hk,hi=>by
   have:i=e.ch.length:=by omega
   subst this
   rw [List.drop_length]
   generalize e.ch=C
   rw [g405L0e]
   simp [g405B0,oB]
 | n+1,i,hk,hi=>by
   have hi:i<e.ch.length:=by omega
   obtain ⟨x,hx⟩:=bn hi
   have hlen:=Ex.fQ (e:=e)
   have hk1:=he.ok.k
   have hk2:=he.ok.a
   have hr:=Pn he hn ih n (i+1) (by omega) (by omega)
   have k1:=c411 hi he.one.h he.ok
   have hbl:=nB he.ok (i:=i)
   have k2:=c409 (a:=names) (b:=eh e i) (by omega)
   have k3:=ih i x (bo hx)
   rw [bC hx]
   simp only [oB]
   generalize hN:names++eh e i=N at *
   generalize hF:x.bj ds N=F at *
   generalize hG:oB (fun i x=>x.bj ds (names++eh e i)) (i+1) (e.ch.drop (i+1))=G at *
   clear ih
   generalize eh e i=B at *
   generalize e.ch=C at *
   rw [g405L0e] at hr ⊢
   simp at k1 k2 k3 hr
   by_cases q:F.1=0
   · simp (disch:=omega) [-getElem?_pos,g405B0,hi,hx,k1,k2,k3,q,aq]
     rw [g405L0e]
     simp [hr]
   · simp (disch:=omega) [-getElem?_pos,g405B0,hi,hx,k1,k2,k3,q]
theorem c405 {ds:List Dt} (hS:Sm ds) (hc:∀d∈ds,Sm d.cons):∀(n:Nat) {e:Ex},uY e→e.tt n→∀names:List bV,names.length+1000*n≤900000000→(aN AP).p 405 [.aD (ds.map Dt.pv),.aD (names.map .str),e.pv]=some [fP (e.bj ds names)]
 | 0,e,_,hh,_,_=>by cases hh
 | n+1,e,he,hh,names,hl=>by
   have ih:∀i,∀x∈e.ch,(aN AP).p 405 [.aD (ds.map Dt.pv),.aD ((names++eh e i).map .str),x.pv]=some [fP (x.bj ds (names++eh e i))]:=fun i x hx=>
     c405 hS hc n (he.c hx) (hh.c x hx) _ (by have:=nB he.ok (i:=i);simp;omega)
   have h:=Pn he (by omega) ih _ 0 rfl (by omega)
   have k1:=c414 he.ok
   rw [List.drop_zero] at h
   rw [Ex.BF]
   have hz:=x5 (f:=fun i x=>x.bj ds (names++eh e i)) (fun i x h=>nD h) (l:=e.ch) (i:=0)
   clear ih
   have k2:=c214 (s:=names) (by unfold Sm;omega) (y:=e.name)
   have k3:=c190 hS hc (s:=e.name)
   have k4:=c415 hS hc he.ok
   have k5:=c185 hS (l:=[]) (by simp [Sm]) he.ok.t
   generalize oB (fun i x=>x.bj ds (names++eh e i)) 0 e.ch=G at *
   generalize e.ch=C at *
   rw [au (af:=g405) rfl rfl (by decide)]
   simp at k1 k2 k3 k4 k5
   have hG:(G=(0,0)∧G.1=0)∨(¬G.1=0):=by
     by_cases q:G.1=0
     · exact .inl ⟨hz q,q⟩
     · exact .inr q
   clear hz
   generalize hQ:lW ds e=Q at *
   generalize hT:e.ty.formed ds []=T at *
   by_cases q1:e.kind=1
   · simp only [q1] at k1
     by_cases q2:e.name∈names
     · rcases hG with ⟨rfl,hG⟩ | hG<;>simp [hG,q1] at h<;>simp [q2] at k2<;>simp [g405,ei,q1,q2,k1,k2,h,hG]
     · simp [q2] at k2
       simp [g405,ei,q1,q2,k2]
   · by_cases q3:e.kind=2
     · simp only [q3] at k1
       cases q4:hZ ds e.name 0 with
       | none=>
         rw [q4] at k3
         simp [rF] at k3
         simp [g405,ei,q3,q4,k3]
       | some r=>
         rw [q4] at k3
         simp [rF] at k3
         rcases hG with ⟨rfl,hG⟩ | hG<;>simp [hG,q3] at h<;>simp [g405,ei,q3,q4,k1,k3,h,hG]
     · by_cases q5:e.kind=8
       · simp only [q5] at k1
         by_cases q6:Q.1=0
         · have:Q=(0,0):=by rw [←hQ] at q6 ⊢;exact rM q6
           subst this
           rcases hG with ⟨rfl,hG⟩ | hG<;>simp [hG,q5] at h<;>simp [q5] at k4<;>simp [g405,ei,q5,hQ,k1,k4,h,hG]
         · simp [q5] at k4
           simp [g405,ei,q5,hQ,k4,q6]
       · by_cases q7:e.kind=9
         · simp only [q7] at k1
           by_cases q8:T=0
           · subst q8
             rcases hG with ⟨rfl,hG⟩ | hG<;>simp [hG,q7] at h<;>simp [g405,ei,q7,hT,k1,k5,h,hG]
           · simp [g405,ei,q7,hT,k5,q8]
         · rcases hG with ⟨rfl,hG⟩ | hG<;>simp [hG] at h<;>simp [g405,ei,q1,q3,q5,q7,k1,h,hG]
end Go.Ab.Lw
namespace Go.Ab.Lw
open Ev
inductive Lk:Ex→Ex→Prop
 | mk {e f:Ex}:f.kind=e.kind→f.name=e.name→f.num=e.num→f.ty=e.ty→f.kids.length=e.kids.length→f.aX.map (fun a=>(a.d7,a.vars))=e.aX.map (fun a=>(a.d7,a.vars)) →
     (∀(i:Nat) (x y:Ex),e.ch[i]?=some x→f.ch[i]?=some y→Lk x y)→Lk e f
def jA (b:Nat):List AV:=[.pv (vI 0),.pv (vI 0),.pv (.str []),.pv (vI 0),.own [] b,.own [] (b+1),.pv (vI 0),.pv (.str []),.pv (vI 0),.pv (vI 0),.own [] (b+2)]
def aF (h:Bool) (N:Nat):AV:=if h then .bu 0 14 N true else .own [] 0
def bF (h:Bool):Nat:=if h then 0 else 1
def N' (h:Bool):aM:=if h then [0,0,0] else [0,0,0,0]
def IY (e:Ex) (p:Int) (A:AV):List AV:=[.pv (vI e.kind),.pv (vI p),.pv (.str e.name),.pv (vI e.num),.pv (.aD (e.kids.map Ex.pv)),A,.pv (vI e.ty.kind),.pv (.str e.ty.name),.pv (vI e.ty.id),.pv (vI e.ty.home),.pv (.aD (e.ty.args.map Ty.pv))]
theorem L8 {e:Ex} {p:Int} {b2 m:Nat} {N:Nat} (hN:N≤1000) {SA:List Ar→Sh} (h1:∀c,(SA c)[0]?=some (some (bj Ar.cells c))) (h2:∀c c',(SA c).set 0 (some (bj Ar.cells c'))=SA c') (h3:∀c,bq (SA c)) :
   ∀(n i:Nat),N-i=n→i≤N→∀(as:List Ar) (k:Int),as.length=N→∃(r:List Ar) (k':Int),r.length=N∧r.map (fun a=>(a.d7,a.vars,a.body))=as.map (fun a=>(a.d7,a.vars,a.body)) ∧
   cl AP g402L0 ⟨[(1,.pv (vI k)),(2,.az 2 0),(4,.az 4 0),(6,.bu b2 11 m true),(7,.pv (vI i))],[(2,IY e p (.bu 0 14 N true)),(4,jA 0)],SA as,[0,0,0]⟩ =
     some (.exit 0,⟨[(1,.pv (vI k')),(2,.az 2 0),(4,.az 4 0),(6,.bu b2 11 m true),(7,.pv (vI N)),(23,.pv (.bool false))],[(2,IY e p (.bu 0 14 N true)),(4,jA 0)],SA r,[0,0,0]⟩)
 | 0,i,hn,hi,as,k,ha=>by
   have:i=N:=by omega
   subst this
   refine ⟨as,k,ha,rfl,?_⟩
   have hq:=(h3 as).norm
   generalize SA as=S at *
   rw [g402L0e]
   simp [g402B0,IY,jA,hq]
 | n+1,i,hn,hi,as,k,ha=>by
   have hi:i<N:=by omega
   obtain ⟨a,hx⟩:=bn (l:=as) (i:=i) (by omega)
   obtain ⟨r,k',r1,r2,ih⟩:=L8 (e:=e) (p:=p) (b2:=b2) (m:=m) hN h1 h2 h3 n (i+1) (by omega) (by omega) (as.set i ⟨k,a.d7,a.vars,a.body⟩) (IntKind.i64.wrap (k+1)) (by simpa using ha)
   refine ⟨r,k',r1,?_,?_⟩
   · rw [r2,List.map_set]
     apply List.ext_getElem?
     intro j
     rw [List.getElem?_set]
     split
     · rename_i hj
       subst hj
       simp [hx]
       omega
     · rfl
   · have hset:=rH gS hx (y:=⟨k,a.d7,a.vars,a.body⟩) (o:=0) (p:=vI k) (by omega) (by simp [Ar.cells])
     have hs1:=h1 as
     have hs2:=h2 as (as.set i ⟨k,a.d7,a.vars,a.body⟩)
     have hq:=(h3 as).norm
     have hq1:=(h3 (as.set i ⟨k,a.d7,a.vars,a.body⟩)).norm
     have hB:cR (bj Ar.cells as)=false:=db bJ
     have hlen:(bj Ar.cells as).length=N*14:=by rw [cK gS,ha]
     have hle:i*14+1≤N*14:=by omega
     generalize SA (as.set i ⟨k,a.d7,a.vars,a.body⟩)=S1 at *
     generalize SA as=S at *
     generalize SA r=S2 at *
     generalize bj Ar.cells (as.set i ⟨k,a.d7,a.vars,a.body⟩)=T1 at *
     generalize bj Ar.cells as=T at *
     rw [g402L0e] at ih ⊢
     simp [IY,jA,hq1] at ih hset
     simp (disch:=omega) [-getElem?_pos,g402B0,IY,jA,hq,hi,hs1,hB,hlen,hle,hset,hs2,aq]
     rw [g402L0e]
     simp [hq1,ih]
theorem IZ {e:Ex} {p:Int} {h:Bool} {N b:Nat} {m:Nat} (hm:m≤2000) {SS:List Ex→Sh} (h1:∀c,(SS c)[b]?=some (some (bj Ex.cells c))) (h2:∀c c',(SS c).set b (some (bj Ex.cells c'))=SS c') (h3:∀c,bq (SS c)) {c0:List Ex}
   (hc:∀x∈c0,∀k:Int,∃(y:Ex) (k':Int),(aN AP).p 402 [x.pv,vI k]=some [y.pv,vI k']∧Lk x y) :
   ∀(n i:Nat),m-i=n→i≤m→∀(c:List Ex) (k:Int),c.length=m→c.drop i=c0.drop i→∃(r:List Ex) (k':Int),r.length=m∧r.take i=c.take i∧(∀(j:Nat) (x y:Ex),i≤j→c0[j]?=some x→r[j]?=some y→Lk x y) ∧
   cl AP g402L1 ⟨[(1,.pv (vI k)),(2,.az 2 0),(4,.az 4 0),(6,.bu b 11 m true),(8,.pv (vI i))],[(2,IY e p (aF h N)),(4,jA (bF h))],SS c,N' h⟩ =
     some (.exit 2,⟨[(1,.pv (vI k')),(2,.az 2 0),(4,.az 4 0),(6,.bu b 11 m true),(8,.pv (vI m)),(37,.pv (.bool false))],[(2,IY e p (aF h N)),(4,jA (bF h))],SS r,N' h⟩)
 | 0,i,hn,hi,c,k,ha,hd=>by
   have:i=m:=by omega
   subst this
   refine ⟨c,k,ha,rfl,?_,?_⟩
   · intro j x y hj _ hy
     have:=(List.getElem?_eq_some_iff.1 hy).1
     omega
   have hq:=(h3 c).norm
   generalize SS c=S at *
   rw [g402L1e]
   cases h<;>simp [g402B1,IY,jA,aF,bF,N',hq]
 | n+1,i,hn,hi,c,k,ha,hd=>by
   have hi:i<m:=by omega
   obtain ⟨x,hx⟩:=bn (l:=c) (i:=i) (by omega)
   have hx0:c0[i]?=some x:=by
     have:=congrArg (fun l=>l[0]?) hd
     simpa [hx] using this.symm
   obtain ⟨y,ky,cy,hl⟩:=hc x (bo hx0) k
   obtain ⟨r,k',r1,r2,r3,ih⟩:=IZ (e:=e) (p:=p) (h:=h) (N:=N) hm h1 h2 h3 hc n (i+1) (by omega) (by omega) (c.set i y) ky (by simpa using ha) (by
     rw [List.drop_set_of_lt (by omega)]
     have:=congrArg (List.drop 1) hd
     simpa [List.drop_drop,Nat.add_comm] using this)
   have hry:r[i]?=some y:=by
     have:=congrArg (fun l=>l[i]?) r2
     simp only [List.getElem?_take] at this
     rw [if_pos (by omega),if_pos (by omega)] at this
     rw [this,List.getElem?_set_self (by omega)]
   refine ⟨r,k',r1,?_,?_,?_⟩
   · have:=congrArg (List.take i) r2
     rw [List.take_take,List.take_take,Nat.min_eq_left (by omega),List.take_set_of_le (by omega)] at this
     exact this
   · intro j u v hj hu hv
     by_cases hji:j=i
     · subst hji
       rw [hx0] at hu;cases hu
       rw [hry] at hv;cases hv
       exact hl
     · exact r3 j u v (by omega) hu hv
   · have hset:=iz cQ hx (y:=y) (o:=0) (vs:=y.cells) (by rw [cQ.len];omega) (by
       have h1:=cQ.len x
       have h2:=cQ.len y
       simp [h1,h2])
     rw [Ex.lT,Nat.add_zero] at hset
     have hget:=je cQ hx (o:=0) (k:=11) (by omega)
     have ht:(((x.cells.drop 0).take 11).map AV.pv)=x.cl:=by
       rw [List.drop_zero,List.take_of_length_le (by rw [cQ.len];omega),Ex.lT]
     rw [ht,Nat.add_zero] at hget
     have hs1:=h1 c
     have hs2:=h2 c (c.set i y)
     have hq:=(h3 c).norm
     have hq1:=(h3 (c.set i y)).norm
     have hB:cR (bj Ex.cells c)=false:=db bJ
     have hlen:(bj Ex.cells c).length=m*11:=by rw [cK cQ,ha]
     have hle:i*11+11≤m*11:=by omega
     clear r2 r3 hc hd h1 h2 h3
     generalize SS (c.set i y)=S1 at *
     generalize SS c=S at *
     generalize SS r=S2 at *
     generalize bj Ex.cells (c.set i y)=T1 at *
     generalize bj Ex.cells c=T at *
     rw [g402L1e] at ih ⊢
     simp at cy
     cases h<;>simp [IY,jA,aF,bF,N',hq1] at ih hset hget ⊢ <;>
       simp (disch:=omega) [-getElem?_pos,g402B1,hq,hi,hs1,hB,hlen,hle,hget,hset,hs2,cy,aq] <;>
       rw [g402L1e]<;>simp [hq1,ih]
theorem pF:∀{as:List Ar} {xs:List Ex},xs.length=as.length→(jZ as xs).map d8.body=xs
 | [],[],_=>rfl
 | [],_::_,h=>by simp at h
 | _::_,[],h=>by simp at h
 | a::as,x::xs,h=>by simp only [jZ,List.map_cons,pF (as:=as) (xs:=xs) (by simpa using h)]
theorem uZ:∀{as:List Ar} {xs:List Ex},(jZ as xs).map (fun a=>(a.d7,a.vars))=as.map (fun a=>(a.d7,a.vars))
 | [],xs=>by cases xs<;>rfl
 | a::as,[]=>rfl
 | a::as,x::xs=>by simp only [jZ,List.map_cons,uZ (as:=as) (xs:=xs)]
theorem BH {e:Ex} {c:List Ex} (h:c.length=e.kids.length+e.aX.length):(e.pE c).ch=c:=by
 unfold Ex.pE
 rw [if_pos h]
 simp only [Ex.ch]
 rw [pF (by simp;omega),List.take_append_drop]
theorem BI {e e2:Ex} (h0:e2.kind=e.kind∧e2.name=e.name∧e2.num=e.num∧e2.ty=e.ty∧e2.kids.length=e.kids.length∧e2.aX.map (fun a=>(a.d7,a.vars))=e.aX.map (fun a=>(a.d7,a.vars))) {c:List Ex} (hl:c.length=e.ch.length)
   (hc:∀(j:Nat) (x y:Ex),e.ch[j]?=some x→c[j]?=some y→Lk x y):Lk e (e2.pE c):=by
 obtain ⟨h1,h2,h3,h4,h5,h6⟩:=h0
 have ha:e2.aX.length=e.aX.length:=by have:=congrArg List.length h6;simpa using this
 rw [Ex.fQ] at hl
 have hl2:c.length=e2.kids.length+e2.aX.length:=by omega
 have hch:=BH hl2
 have hw:e2.pE c=⟨e2.kind,e2.pos,e2.name,e2.num,c.take e2.kids.length,jZ e2.aX (c.drop e2.kids.length),e2.ty⟩:=by unfold Ex.pE;rw [if_pos hl2]
 refine .mk ?_ ?_ ?_ ?_ ?_ ?_ ?_
 · rw [hw];exact h1
 · rw [hw];exact h2
 · rw [hw];exact h3
 · rw [hw];exact h4
 · rw [hw];simp;omega
 · rw [hw];simp only;rw [uZ];exact h6
 · intro i x y hx hy
   rw [hch] at hy
   exact hc i x y hx hy
theorem oC {sz n:Nat} {ag:Bool}:Kc sz n ag none=none:=rfl
theorem pG {cs:List AV}:uh cs none=.agg cs:=rfl
theorem u_ {o:Option (List PV)}:ni none o=none:=rfl
theorem va {p:PV}:ni (some p) none=none:=rfl
theorem c145j {e:Ex} {X:Sh}:(aN AP).i 145 [.pv e.pv] X []=(aN AP).i 145 [.agg (e.JD (.pv (.aD (e.aX.map Ar.pv))))] X []:=by
 rw [aR (af:=g145) rfl (by simp [g145]),aR (af:=g145) rfl (by simp [g145])]
 simp [g145]
theorem c402:∀(n:Nat) {e:Ex},e.Ok→e.tt n→∀k:Int,∃(y:Ex) (k':Int),(aN AP).p 402 [e.pv,vI k]=some [y.pv,vI k']∧Lk e y
 | 0,e,_,hh,_=>by cases hh
 | n+1,e,hO,hh,k=>by
   have hc:∀x∈e.ch,∀k:Int,∃(y:Ex) (k':Int),(aN AP).p 402 [x.pv,vI k]=some [y.pv,vI k']∧Lk x y:=fun x hx k=>c402 n (hO.c x hx) (hh.c x hx) k
   have hk:=hO.k
   have ha:=hO.a
   have hlen:=Ex.fQ (e:=e)
   by_cases hA:e.aX=[]
   · by_cases hK:e.kids=[]
     · have hch:e.ch=[]:=by simp [Ex.ch,hA,hK]
       obtain ⟨k0,c1⟩:=c145i (e:=⟨e.kind,k,e.name,e.num,e.kids,e.aX,e.ty⟩) (A:=.pv (.aD (e.aX.map Ar.pv))) hk ha (X:=[]) (by intro cs h;simp at h) (.inl rfl)
       have hch1:(⟨e.kind,k,e.name,e.num,e.kids,e.aX,e.ty⟩:Ex).ch=[]:=hch
       rw [if_pos hch1] at c1
       have cj:=c145j (e:=⟨e.kind,k,e.name,e.num,e.kids,e.aX,e.ty⟩) (X:=[])
       rw [c1] at cj
       clear c1
       have c2:=c374 (e:=⟨e.kind,k,e.name,e.num,[],[],e.ty⟩) (by simp) (by simp) (c:=[])
       refine ⟨(⟨e.kind,k,e.name,e.num,[],[],e.ty⟩:Ex).pE [],IntKind.i64.wrap (k+1),?_,BI (e:=e) (e2:=⟨e.kind,k,e.name,e.num,[],[],e.ty⟩) (c:=[]) ⟨rfl,rfl,rfl,rfl,by simp [hK],by simp [hA]⟩ (by simp [hch]) (by simp)⟩
       generalize (⟨e.kind,k,e.name,e.num,[],[],e.ty⟩:Ex).pE []=Y at *
       simp [hK,hA] at cj c2
       rw [au (af:=g402) rfl rfl (by decide)]
       simp [g402,g402L0e,g402B0,g402L1e,g402B1,hA,hK,cj,c2]
     · -- kids alone
       have hchk:e.ch=e.kids:=by simp [Ex.ch,hA]
       have hne:e.ch≠[]:=by rw [hchk];exact hK
       obtain ⟨k0,c1⟩:=c145i (e:=⟨e.kind,k,e.name,e.num,e.kids,e.aX,e.ty⟩) (A:=.pv (.aD (e.aX.map Ar.pv))) hk ha (X:=[]) (by intro cs h;simp at h) (.inl rfl)
       have hch1:(⟨e.kind,k,e.name,e.num,e.kids,e.aX,e.ty⟩:Ex).ch=e.ch:=rfl
       rw [hch1,if_neg hne] at c1
       have cj:=c145j (e:=⟨e.kind,k,e.name,e.num,e.kids,e.aX,e.ty⟩) (X:=[])
       rw [c1] at cj
       clear c1
       simp only [List.nil_append,List.length_nil,Nat.zero_add] at cj
       obtain ⟨r,k',r1,_,r3,h4⟩:=IZ (e:=e) (p:=k) (h:=false) (N:=0) (b:=k0) (m:=e.ch.length) (by omega) (SS:=fun c=>nn k0++[some (bj Ex.cells c)])
         (fun c=>by simp) (fun c c'=>by simp) (fun c=>(dr k0).app (bq.one bJ)) (c0:=e.ch) hc _ 0 rfl (by omega) e.ch (IntKind.i64.wrap (k+1)) rfl rfl
       have c2:=c374 (e:=⟨e.kind,k,e.name,e.num,e.kids,[],e.ty⟩) hk (by simp) (c:=r)
       refine ⟨(⟨e.kind,k,e.name,e.num,e.kids,[],e.ty⟩:Ex).pE r,k',?_,BI (e:=e) (e2:=⟨e.kind,k,e.name,e.num,e.kids,[],e.ty⟩) ⟨rfl,rfl,rfl,rfl,rfl,by simp [hA]⟩ r1 (fun j x y=>r3 j x y (by omega))⟩
       generalize (⟨e.kind,k,e.name,e.num,e.kids,[],e.ty⟩:Ex).pE r=Y at *
       have hget:(nn k0++[some (bj Ex.cells r)])[k0]?=some (some (bj Ex.cells r)):=by simp
       have hl2:(bj Ex.cells r).length=e.ch.length*11:=by rw [cK cQ,r1]
       have hl3:=uW (l:=r)
       rw [r1] at hl3
       have hq:∀aW ts,b_ aW ts (nn k0++[some (bj Ex.cells e.ch)])=(nn k0++[some (bj Ex.cells e.ch)],aW,ts):=((dr k0).app (bq.one bJ)).norm
       have hsh:∀n,fK n (nn k0++[some (bj Ex.cells e.ch)])=nn k0++[some (bj Ex.cells e.ch)]:=((dr k0).app (bq.one bJ)).shift
       clear hc r3
       generalize nn k0++[some (bj Ex.cells e.ch)]=S0 at *
       generalize nn k0++[some (bj Ex.cells r)]=S1 at *
       generalize bj Ex.cells r=T1 at *
       generalize hm:e.ch.length=m at *
       rw [g402L1e] at h4
       simp [IY,aF,bF,N',jA,hq,hA] at h4
       simp [hA] at cj c2 hl3
       rw [au (af:=g402) rfl rfl (by decide)]
       simp (disch:=omega) [-getElem?_pos,g402,g402L0e,g402B0,hA,cj,hq,hsh,g402L1e,h4,hget,hl2,hl3,c2]
   · -- aX
     have hne:e.ch≠[]:=by simp [Ex.ch,hA]
     have hcl:0<e.aX.length:=List.length_pos_iff.2 hA
     obtain ⟨k0,c1⟩:=c145i (e:=⟨e.kind,k,e.name,e.num,e.kids,e.aX,e.ty⟩) (A:=.bu 0 14 e.aX.length true) hk ha (X:=[some (bj Ar.cells e.aX)]) (bq.one bJ) (.inr ⟨0,by simp,rfl,rfl⟩)
     have hch1:(⟨e.kind,k,e.name,e.num,e.kids,e.aX,e.ty⟩:Ex).ch=e.ch:=rfl
     rw [hch1,if_neg hne] at c1
     simp only [List.length_singleton] at c1
     obtain ⟨as',k1,a1,a2,h3⟩:=L8 (e:=e) (p:=k) (b2:=1+k0) (m:=e.ch.length) (N:=e.aX.length) ha (SA:=fun as=>[some (bj Ar.cells as)]++nn k0++[some (bj Ex.cells e.ch)])
       (fun c=>by simp) (fun c c'=>by simp) (fun c=>((bq.one bJ).app (dr k0)).app (bq.one bJ)) _ 0 rfl (by omega) e.aX (IntKind.i64.wrap (k+1)) rfl
     obtain ⟨r,k',r1,_,r3,h4⟩:=IZ (e:=e) (p:=k) (h:=true) (N:=e.aX.length) (b:=1+k0) (m:=e.ch.length) (by omega) (SS:=fun c=>[some (bj Ar.cells as')]++nn k0++[some (bj Ex.cells c)])
       (fun c=>by simp [List.getElem?_append_right,Nat.add_comm]) (fun c c'=>by simp [List.set_append_right,Nat.add_comm]) (fun c=>((bq.one bJ).app (dr k0)).app (bq.one bJ)) (c0:=e.ch) hc _ 0 rfl (by omega) e.ch k1 rfl rfl
     have c2:=c374 (e:=⟨e.kind,k,e.name,e.num,e.kids,as',e.ty⟩) hk (by simpa [a1] using ha) (c:=r)
     have hcv:as'.map (fun a=>(a.d7,a.vars))=e.aX.map (fun a=>(a.d7,a.vars)):=by
       have:=congrArg (List.map fun t:bV×List bV×Ex=>(t.1,t.2.1)) a2
       simpa [Function.comp_def] using this
     refine ⟨(⟨e.kind,k,e.name,e.num,e.kids,as',e.ty⟩:Ex).pE r,k',?_,BI (e:=e) (e2:=⟨e.kind,k,e.name,e.num,e.kids,as',e.ty⟩) ⟨rfl,rfl,rfl,rfl,rfl,hcv⟩ r1 (fun j x y=>r3 j x y (by omega))⟩
     generalize (⟨e.kind,k,e.name,e.num,e.kids,as',e.ty⟩:Ex).pE r=Y at *
     have hget:([some (bj Ar.cells as')]++nn k0++[some (bj Ex.cells r)])[1+k0]?=some (some (bj Ex.cells r)):=by simp [List.getElem?_append_right,Nat.add_comm]
     have hget0:([some (bj Ar.cells as')]++nn k0++[some (bj Ex.cells r)])[0]?=some (some (bj Ar.cells as')):=by simp
     have hl2:(bj Ex.cells r).length=e.ch.length*11:=by rw [cK cQ,r1]
     have hl3:=uW (l:=r)
     rw [r1] at hl3
     have hl4:(bj Ar.cells as').length=e.aX.length*14:=by rw [cK gS,a1]
     have hl5:=IV (l:=as')
     rw [a1] at hl5
     have hm:=IW (l:=e.aX)
     have hb:e.aX.length*200≤140737488355328:=by omega
     have hqA:∀aW ts,b_ aW ts [some (bj Ar.cells e.aX)]=([some (bj Ar.cells e.aX)],aW,ts):=(bq.one bJ).norm
     have hqT:∀(as:List Ar) (c:List Ex) aW ts,b_ aW ts ([some (bj Ar.cells as)]++nn k0++[some (bj Ex.cells c)])=([some (bj Ar.cells as)]++nn k0++[some (bj Ex.cells c)],aW,ts):=fun as c=>(((bq.one bJ).app (dr k0)).app (bq.one bJ)).norm
     have hq:=hqT e.aX e.ch
     have hq1:=hqT as' e.ch
     have hsh:∀n,fK n ([some (bj Ar.cells e.aX)]++nn k0++[some (bj Ex.cells e.ch)])=[some (bj Ar.cells e.aX)]++nn k0++[some (bj Ex.cells e.ch)]:=(((bq.one bJ).app (dr k0)).app (bq.one bJ)).shift
     clear hc r3 hqT a2 hcv
     generalize [some (bj Ar.cells e.aX)]++nn k0++[some (bj Ex.cells e.ch)]=S0 at *
     generalize [some (bj Ar.cells as')]++nn k0++[some (bj Ex.cells e.ch)]=S1 at *
     generalize [some (bj Ar.cells as')]++nn k0++[some (bj Ex.cells r)]=S2 at *
     generalize bj Ex.cells r=T1 at *
     generalize bj Ar.cells as'=T2 at *
     generalize bj Ar.cells e.aX=T3 at *
     generalize hmm:e.ch.length=m at *
     rw [g402L0e] at h3
     rw [g402L1e] at h4
     simp [IY,aF,bF,N',jA,hq,hq1] at h3 h4
     simp [hqA] at c1 c2 hl3 hl5
     rw [au (af:=g402) rfl rfl (by decide)]
     simp (disch:=omega) [-getElem?_pos,oC,u_,va,pG,g402,hA,hb,hm,hqA,c1,hq,hq1,hsh,g402L0e,h3,g402L1e,h4,hget,hget0,hl2,hl3,hl4,hl5,c2]
end Go.Ab.Lw
namespace Go.Ab.Lw
open Ev
theorem c372 {s:dS} {S:List Int} (hs:s.sl.length≤1000000) (ha:F3 s.sl) (hO:∀x∈s.sl,x.ty.Ok) (hS:∀x∈s.sl,∀w,gU x.ty w→w∈S) (hf:S.length<1099511627776) {t:Ty} (ht:t.Ok) (hw:∀w,gU t w→w∈S) :
   ∃out,(aN AP).p 372 [s.pv,.aD [t.pv]]=some [.aD (out.map vI)]∧iy S out∧∀v,RT s.sl t v→¬oA s.sl v→v∈out:=by
 obtain ⟨rk,hr⟩:=ha
 obtain ⟨N,hN⟩:=gU.bound rk t
 obtain ⟨dn',out,P⟩:=Im hr hO hS N t ht hN hw (List.replicate s.sl.length false) [] (by simp) (nu hf) (by
   intro j hj
   exfalso
   by_cases q:j<s.sl.length
   · simp [List.getElem?_replicate,q] at hj
   · simp [List.getElem?_replicate,q] at hj)
 refine ⟨out,?_,P.FI,P.all⟩
 have e:=P.QE
 have hb:bT (List.replicate s.sl.length false)=List.replicate s.sl.length (.pv (.bool false)):=by simp [bT]
 have hp:=kT (dn:=List.replicate s.sl.length false)
 have hp':=kT (dn:=dn')
 unfold Nw at e
 rw [hb] at e hp
 have b1:(s.sl.length:Int)≤9223372036854775807:=by omega
 have b2:(s.sl.length:Int)≤140737488355328:=by omega
 have hn:=hp.norm
 have hn':=hp'.norm
 have hh:=hp.sh
 have hh':=hp'.sh
 have hm:=hp.mp
 generalize bT dn'=T' at *
 have hfl:(List.replicate s.sl.length [AV.pv (.bool false)]).flatten=List.replicate s.sl.length (.pv (.bool false)):=by
   generalize s.sl.length=n
   induction n with
   | zero=>rfl
   | succ n ih=>rw [List.replicate_succ,List.flatten_cons,ih,List.replicate_succ];rfl
 generalize List.replicate s.sl.length (AV.pv (.bool false))=T at *
 simp [fX] at e
 rw [au (af:=g372) rfl rfl (by decide)]
 simp (disch:=omega) [g372,b1,b2,hn,hn',hh,hh',hm,hfl,g372L0e,g372B0,e,aq,oC,u_,va,qU]
end Go.Ab.Lw
namespace Go.Ab.Lw
open Ev
def JE (l:List Ty) (t:Ty):Option Ty:=if t.kind=2∧0≤t.id∧t.id<l.length then l[t.id.toNat]? else none
theorem nE {l:List Ty} {t u:Ty} (h:JE l t=some u):t.kind=2∧0≤t.id∧t.id<l.length∧l[t.id.toNat]?=some u:=by
 unfold JE at h
 split at h
 · rename_i c;exact ⟨c.1,c.2.1,c.2.2,h⟩
 · cases h
theorem x6 {l:List Ty} {t:Ty} (h:JE l t=none):¬(t.kind=2∧0≤t.id∧t.id<l.length):=by
 intro c
 unfold JE at h
 rw [if_pos c] at h
 rw [List.getElem?_eq_none_iff] at h
 omega
mutual
def Ty.mC (l:List Ty):Ty→Ty
 | ⟨k,n,i,h,as⟩=>(JE l ⟨k,n,i,h,as⟩).getD ⟨k,n,i,h,Ty.I0 l as⟩
def Ty.I0 (l:List Ty):List Ty→List Ty
 | []=>[]
 | a::r=>a.mC l::Ty.I0 l r
end
theorem Ty.x7 (l:List Ty):∀as:List Ty,Ty.I0 l as=as.map (Ty.mC l)
 | []=>by simp [Ty.I0]
 | a::r=>by simp [Ty.I0,Ty.x7 l r]
theorem Ty.mD (l:List Ty) (t:Ty):t.mC l=(JE l t).getD ⟨t.kind,t.name,t.id,t.home,t.args.map (Ty.mC l)⟩:=by
 cases t;simp only [Ty.mC,Ty.x7]
theorem Q0 {s:List Ty} {t:Ty} (hS:Sm t.args) (h:∀x∈t.args,(aN AP).p 48 [x.pv,.aD (s.map Ty.pv)]=some [(x.mC s).pv]):∀(n i:Nat),t.args.length-i=n→i≤t.args.length→∀acc:List Ty,acc=(t.args.take i).map (Ty.mC s) →
   cl AP g48L0 ⟨[(1,.pv (.aD (s.map Ty.pv))),(2,.az 2 0),(4,.az 4 0),(5,.az 5 0),(6,.pv (vI i))],
     [(2,[.pv (vI t.kind),.pv (.str t.name),.pv (vI t.id),.pv (vI t.home),.pv (.aD (t.args.map Ty.pv))]),(4,[.pv (vI 0),.pv (.str []),.pv (vI 0),.pv (vI 0),.own [] 0]),
       (5,[.pv (vI t.kind),.pv (.str t.name),.pv (vI t.id),.pv (vI t.home),.own (acc.map Ty.pv) 1])],[],[0,acc.length]⟩ =
     some (.exit 0,⟨[(1,.pv (.aD (s.map Ty.pv))),(2,.az 2 0),(4,.az 4 0),(5,.az 5 0),(6,.pv (vI t.args.length)),(33,.pv (.bool false))],
     [(2,[.pv (vI t.kind),.pv (.str t.name),.pv (vI t.id),.pv (vI t.home),.pv (.aD (t.args.map Ty.pv))]),(4,[.pv (vI 0),.pv (.str []),.pv (vI 0),.pv (vI 0),.own [] 0]),
       (5,[.pv (vI t.kind),.pv (.str t.name),.pv (vI t.id),.pv (vI t.home),.own ((t.args.map (Ty.mC s)).map Ty.pv) 1])],[],[0,t.args.length]⟩)
 | 0,i,hn,hi,acc,ha=>by
   have:i=t.args.length:=by omega
   subst this
   subst ha
   rw [g48L0e]
   simp [g48B0]
 | n+1,i,hn,hi,acc,ha=>by
   have hi:i<t.args.length:=by omega
   obtain ⟨x,hx⟩:=bn hi
   unfold Sm at hS
   have hb:(acc.length+1)*64≤140737488355328:=by subst ha;simp;omega
   have hc:=h x (bo hx)
   have ih:=Q0 hS h n (i+1) (by omega) (by omega) (acc++[x.mC s]) (by rw [List.take_add_one,hx,ha];simp)
   rw [g48L0e] at ih ⊢
   simp at ih hc
   simp (disch:=omega) [-getElem?_pos,g48B0,hx,hi,hc,hb,aq]
   rw [g48L0e]
   simp [ih]
theorem c48 {s:List Ty} (hs:Sm s) {t:Ty} (hO:t.Ok):(aN AP).p 48 [t.pv,.aD (s.map Ty.pv)]=some [(t.mC s).pv]:=by
 revert hO
 refine Ty.eD (p:=fun t=>t.Ok→(aN AP).p 48 [t.pv,.aD (s.map Ty.pv)]=some [(t.mC s).pv]) ?_ t
 intro t ih hO
 rw [au (af:=g48) rfl rfl (by decide)]
 unfold Sm at hs
 have h:=Q0 (s:=s) hO.sm (fun x hx=>ih x hx (hO.fw x hx)) _ 0 rfl (by omega) [] (by simp)
 rw [g48L0e] at h
 simp at h
 cases hp:JE s t with
 | some u=>
   obtain ⟨a,b,c,d⟩:=nE hp
   have b1:¬t.id<0:=by omega
   simp (disch:=omega) [-getElem?_pos,g48,a,b,b1,c,d,Ty.mD s t,hp]
 | none=>
   have q:=x6 hp
   by_cases a:t.kind=2
   · by_cases b:0≤t.id
     · have c:¬t.id<s.length:=fun c=>q ⟨a,b,c⟩
       simp [a] at h
       simp (disch:=omega) [-getElem?_pos,g48,a,b,c,g48L0e,h,Ty.mD s t,hp]
     · simp [a] at h
       simp (disch:=omega) [-getElem?_pos,g48,a,b,g48L0e,h,Ty.mD s t,hp]
   · simp (disch:=omega) [-getElem?_pos,g48,a,g48L0e,h,Ty.mD s t,hp]
inductive Ty.Wb:Ty→Prop
 | mk {t:Ty}:(t.kind=2→t.args=[])→(∀x∈t.args,Ty.Wb x)→Ty.Wb t
theorem I2 {s:List Ty} (hs:∀a∈s,a.Ok) {t:Ty} (h:t.Ok):(t.mC s).Ok:=by
 revert h
 refine Ty.eD (p:=fun t=>t.Ok→(t.mC s).Ok) ?_ t
 intro t ih h
 rw [Ty.mD]
 cases hp:JE s t with
 | some u=>exact hs u (bo (nE hp).2.2.2)
 | none=>
   refine ⟨?_,?_⟩
   · have:=h.sm;unfold Sm at this ⊢;simpa using this
   · intro x hx;simp at hx
     obtain ⟨y,hy,rfl⟩:=hx
     exact ih y hy (h.fw y hy)
end Go.Ab.Lw
namespace Go.Ab.Lw
open Ev
structure Good (S:List Ty) (t:Ty):Prop where
 ok:t.Ok
 wf:t.Wf
 sub:∀x∈t.eN 1,x∈S
theorem oD {t:Ty} (hW:t.Wf):∀x∈t.nodes,x.kind=1→x∈t.eN 1:=by
 revert hW
 refine Ty.eD (p:=fun t=>t.Wf→∀x∈t.nodes,x.kind=1→x∈t.eN 1) ?_ t
 intro t ih hW x hx hk
 rw [Ty.bp] at hx
 rw [Ty.kQ]
 simp only [List.mem_cons,List.mem_flatMap] at hx
 rcases hx with rfl | ⟨y,hy,hx⟩
 · have ea:=hW.var hk
   simp [hk,ea]
 · have:¬(t.kind=1∧t.args.length=0):=by
     rintro ⟨_,h⟩
     have:t.args=[]:=by simpa using h
     rw [this] at hy;simp at hy
   rw [if_neg this]
   simp only [List.mem_flatMap]
   exact ⟨y,hy,ih y hy (hW.fw y hy) x hx hk⟩
theorem g55 {S:List Ty} (hf:S.length<1099511627776) {l:List Ty} (hS:Sm l) (hG:∀t∈l,Good S t):(aN AP).p 55 [.aD (l.map Ty.pv)]=some [.aD ((vars l).map vI)]:=by
 refine c55 (S:=S.map Ty.id) (by simpa using hf) hS (fun t ht=>(hG t ht).ok) ?_
 intro x hx hk
 simp only [List.mem_flatMap] at hx
 obtain ⟨t,ht,hx⟩:=hx
 exact List.mem_map_of_mem ((hG t ht).sub x (oD (hG t ht).wf x hx hk))
theorem g56 {S:List Ty} (hf:S.length<1099511627776) (hO:∀x∈S,x.Ok) {l:List Ty} (hS:Sm l) (hG:∀t∈l,Good S t):(aN AP).p 56 [.aD (l.map Ty.pv)]=some [.aD ((vars l).map vI)]:=by
 rw [←rz (fun t ht=>(hG t ht).wf)]
 refine c56 hf hO hS (fun t ht=>(hG t ht).ok) ?_
 intro x hx
 simp only [List.mem_flatMap] at hx
 obtain ⟨t,ht,hx⟩:=hx
 exact (hG t ht).sub x hx
theorem NC {l:List En} (hS:Sm l):∀(n i:Nat),l.length-i=n→i≤l.length→∀acc:List En,acc.length≤i →
   cl AP g201L0 ⟨[(0,.pv (.aD (l.map En.pv))),(3,.own (acc.map En.pv) 0),(4,.pv (vI i))],[],[],[acc.length]⟩ =
     some (.exit 0,⟨[(0,.pv (.aD (l.map En.pv))),(3,.own ((acc++dD (l.drop i)).map En.pv) 0),(4,.pv (vI l.length)),(10,.pv (.bool false))],[],[],[(acc++dD (l.drop i)).length]⟩)
 | 0,i,hn,hi,acc,ha=>by
   have:i=l.length:=by omega
   subst this
   rw [g201L0e]
   simp [g201B0,dD]
 | n+1,i,hn,hi,acc,ha=>by
   have hi:i<l.length:=by omega
   obtain ⟨x,hx⟩:=bn hi
   have k:=c181 (l:=l.drop (i+1)) (s:=x.name) (by unfold Sm at hS ⊢;simp;omega)
   unfold Sm at hS
   have hb:(acc.length+1)*88≤140737488355328:=by omega
   have hsl:=QB (sz:=7) (l:=l.map En.pv) (k:=.i64) (h:=(i:Int)+1) (by omega) (by simp;omega) (by simp)
   have hd:((i:Int)+1).toNat=i+1:=by omega
   rw [hd] at hsl
   rw [bC hx]
   simp only [K3] at k
   cases e:Cn (l.drop (i+1)) x.name with
   | some c=>
     have ea:(l.drop (i+1)).any (fun y=>decide (y.name=x.name))=true:=any_none.2 ⟨c,e⟩
     have es:dD (x::l.drop (i+1))=dD (l.drop (i+1)):=by simp only [dD,ea,if_true]
     have ih:=NC hS n (i+1) (by omega) (by omega) acc (by omega)
     rw [g201L0e] at ih ⊢
     rw [e] at k
     simp at ih k
     simp (disch:=omega) [-getElem?_pos,g201B0,hx,hi,aq,hsl,k,es]
     rw [g201L0e]
     simp [ih]
   | none=>
     have ea:(l.drop (i+1)).any (fun y=>decide (y.name=x.name))=false:=by
       cases h:(l.drop (i+1)).any (fun y=>decide (y.name=x.name)) with
       | false=>rfl
       | true=>obtain ⟨c,hc⟩:=any_none.1 h;rw [e] at hc;cases hc
     have es:dD (x::l.drop (i+1))=x::dD (l.drop (i+1)):=by simp only [dD,ea];simp
     have ih:=NC hS n (i+1) (by omega) (by omega) (acc++[x]) (by simp;omega)
     rw [g201L0e] at ih ⊢
     rw [e] at k
     simp at ih k
     simp (disch:=omega) [-getElem?_pos,g201B0,hx,hi,aq,hsl,k,es,hb]
     rw [g201L0e]
     simp [ih]
theorem c201 {l:List En} (hS:Sm l):(aN AP).p 201 [.aD (l.map En.pv)]=some [.aD ((dD l).map En.pv)]:=by
 have h:=NC hS _ 0 rfl (by omega) [] (by simp)
 rw [au (af:=g201) rfl rfl (by decide)]
 rw [g201L0e] at h
 simp at h
 simp [g201,g201L0e,h]
end Go.Ab.Lw
namespace Go.Ab.Lw
inductive Ty.Kn (K:Int→Prop):Ty→Prop
 | mk {t:Ty}:(t.kind≠4→K t.kind∧t.args=[])→(∀x∈t.args,x.Kn K)→t.Kn K
theorem Ty.Kn.hd {K:Int→Prop} {t:Ty} (h:t.Kn K):t.kind≠4→K t.kind∧t.args=[]:=by cases h;assumption
theorem Ty.Kn.kd {K:Int→Prop} {t:Ty} (h:t.Kn K):∀x∈t.args,x.Kn K:=by cases h;assumption
theorem Ty.Kn.imp {K K':Int→Prop} (hK:∀k,K k→K' k) {t:Ty} (h:t.Kn K):t.Kn K':=by
 induction h with
 | mk h1 _ ih=>exact .mk (fun q=>⟨hK _ (h1 q).1,(h1 q).2⟩) ih
theorem Ty.Kn.wf {K:Int→Prop} {t:Ty} (h:t.Kn K):t.Wf:=by
 induction h with
 | mk h1 _ ih=>exact ⟨fun q=>(h1 (by rw [q];decide)).2,ih⟩
theorem Ty.Kn.cw {K:Int→Prop} {t:Ty} (h:t.Kn K):t.Cw:=by
 induction h with
 | mk h1 _ ih=>exact ⟨fun q=>(h1 q).2,ih⟩
theorem Ty.Kn.bare {K:Int→Prop} {t:Ty} (h:t.args=[]) (hk:t.kind≠4→K t.kind):t.Kn K:=.mk (fun q=>⟨hk q,h⟩) (by rw [h];simp)
theorem Ty.Kn.nodes {K:Int→Prop} {t:Ty} (h:t.Kn K):∀y∈t.nodes,y.kind≠4→K y.kind∧y.args=[]:=by
 induction h with
 | @mk t h1 _ ih=>
   intro y hy
   rw [Ty.bp] at hy
   simp only [List.mem_cons,List.mem_flatMap] at hy
   rcases hy with rfl | ⟨a,ha,hy⟩
   · exact h1
   · exact ih a ha y hy
@[simp] def KS (k:Int):Prop:=k=0∨k=1∨k=3
abbrev Ty.Kw (t:Ty):Prop:=t.Kn KS
theorem Ty.Kw.var {t:Ty} (h:t.Kw):t.kind=1→t.args=[]:=fun q=>(Ty.Kn.hd h (by rw [q];decide)).2
theorem Ty.Kw.fw {t:Ty} (h:t.Kw):∀x∈t.args,x.Kw:=Ty.Kn.kd h
@[simp] def KG (k:Int):Prop:=k=0∨k=3
@[simp] def KC (k:Int):Prop:=k=0∨k=2∨k=3
@[simp] def KV (k:Int):Prop:=k=0∨k=1∨k=2∨k=3
theorem L9:∀k,KG k→KS k:=by intro k h;simp at h ⊢;omega
theorem Po:∀k,KG k→KC k:=by intro k h;simp at h ⊢;omega
theorem Pp:∀k,KC k→KV k:=by intro k h;simp at h ⊢;omega
theorem BK {K K':Int→Prop} {s:List As} {t:Ty} (h:t.Kn K) (hK:∀k,K k→k≠1→K' k) (hs:∀i x,ki s i=some x→x.Kn K') (h1:K' 1∨∀y∈t.nodes,y.kind=1→∃x,ki s y.id=some x):(t.sub s).Kn K':=by
 induction h with
 | @mk t hh _ ih=>
   have hself:t∈t.nodes:=by rw [Ty.bp];simp
   rw [Ty.sub_eq]
   by_cases q:t.kind=1
   · rw [if_pos q]
     cases e:ki s t.id with
     | some x=>simpa using hs _ _ e
     | none=>
       rcases h1 with h1 | h1
       · have:=hh (by rw [q];decide)
         exact .mk (fun _=>⟨by simp only [Option.getD_none];rw [q];exact h1,by simpa using this.2⟩) (by rw [Option.getD_none,this.2];simp)
       · obtain ⟨x,hx⟩:=h1 t hself q
         rw [hx] at e;cases e
   · rw [if_neg q]
     refine .mk (fun r=>?_) ?_
     · have:=hh r
       exact ⟨hK _ this.1 q,by simp [this.2]⟩
     · intro x hx
       simp only [List.mem_map] at hx
       obtain ⟨a,ha,rfl⟩:=hx
       refine ih a ha ?_
       rcases h1 with h1 | h1
       · exact .inl h1
       · right
         intro y hy
         refine h1 y ?_
         rw [Ty.bp]
         simp only [List.mem_cons,List.mem_flatMap]
         exact .inr ⟨a,ha,hy⟩
theorem I6 {K K':Int→Prop} {l:List Ty} {t:Ty} (h:t.Kn K) (hK:∀k,K k→k≠2→K' k) (hs:∀x∈l,x.Kn K') (h1:∀y∈t.nodes,y.kind=2→0≤y.id∧y.id<l.length):(t.mC l).Kn K':=by
 induction h with
 | @mk t hh _ ih=>
   have hself:t∈t.nodes:=by rw [Ty.bp];simp
   rw [Ty.mD]
   cases e:JE l t with
   | some x=>
     obtain ⟨_,_,_,hx⟩:=nE e
     simpa using hs _ (bo hx)
   | none=>
     have q:t.kind≠2:=fun q=>x6 e ⟨q,(h1 t hself q).1,(h1 t hself q).2⟩
     simp only [Option.getD_none]
     refine .mk (fun r=>?_) ?_
     · have:=hh r
       exact ⟨hK _ this.1 q,by simp [this.2]⟩
     · intro x hx
       simp only [List.mem_map] at hx
       obtain ⟨a,ha,rfl⟩:=hx
       refine ih a ha ?_
       intro y hy
       refine h1 y ?_
       rw [Ty.bp]
       simp only [List.mem_cons,List.mem_flatMap]
       exact .inr ⟨a,ha,hy⟩
end Go.Ab.Lw
namespace Go.Ab.Lw
open Ev
theorem nF {k:Int} {t:Ty}:(t.eN k).length≤t.nodes.length:=by
 refine Ty.eD (p:=fun t=>(t.eN k).length≤t.nodes.length) ?_ t
 intro t ih
 rw [Ty.kQ,Ty.bp]
 split
 · simp
 · have key:∀l:List Ty,(∀a∈l,(a.eN k).length≤a.nodes.length)→(l.flatMap (Ty.eN k)).length≤(l.flatMap Ty.nodes).length:=by
     intro l
     induction l with
     | nil=>intro _;simp
     | cons a r ihr=>
       intro h
       have h1:=h a (by simp)
       have h2:=ihr fun b hb=>h b (by simp [hb])
       simp only [List.flatMap_cons,List.length_append]
       omega
   have:=key t.args ih
   simp only [List.length_cons]
   omega
theorem kU {k:Int} {t:Ty}:∀x∈t.eN k,x.args=[]:=by
 refine Ty.eD (p:=fun t=>∀x∈t.eN k,x.args=[]) ?_ t
 intro t ih x hx
 rw [Ty.kQ] at hx
 split at hx
 · rename_i q
   simp at hx
   subst hx
   exact List.length_eq_zero_iff.1 q.2
 · simp only [List.mem_flatMap] at hx
   obtain ⟨a,ha,hx⟩:=hx
   exact ih a ha x hx
theorem c59t {u:Ty} (hu:u.Ok) (hn:u.nodes.length≤4000):∃r:List Ty,(aN AP).p 59 [.aD [u.pv]]=some [.aD (r.map Ty.pv)]∧Sm r:=by
 have hl:=nF (k:=3) (t:=u)
 obtain ⟨r,e,h,_⟩:=c59 (S:=u.eN 3) (by omega) (fun x hx=>cW (kU x hx)) (l:=[u]) (by simp [Sm]) (by simpa using hu) (by simp)
 exact ⟨r,e,h⟩
structure Inv (n M:Nat) (S:List Int) (s:dS):Prop where
 len:s.sl.length=n
 JF:s.tr.length+(n+2)*ub s.sl≤M
 ok:∀x∈s.sl,x.ty.Ok
 lG:∀x∈s.sl,∀w,gU x.ty w→w∈S
 I7:F3 s.sl
 wf:∀x∈s.sl,x.ty.Kw
theorem mem_set {α:Type} {l:List α} {k:Nat} {x y:α} (h:y∈l.set k x):y=x∨y∈l:=by
 rcases List.mem_or_eq_of_mem_set h with h | h
 · exact .inr h
 · exact .inl h
theorem cC {s:dS} {i:Nat} {o x:Sl}:(gD s i o x).sl=s.sl.set i x:=rfl
theorem lH {s:dS} {i:Nat} {o x:Sl}:(gD s i o x).tr.length=s.tr.length+1:=by simp [gD]
theorem vb {s:List Sl} {k:Nat} {o:Sl} (hk:s[k]?=some o) (h:¬oA s (k:Int)):o.bd=false:=by
 cases e:o.bd with
 | false=>rfl
 | true=>exact absurd ⟨k,o,rfl,hk,e⟩ h
theorem I8 {n M:Nat} {S:List Int} {s:dS} (I:Inv n M S s) {i j:Nat} {l h l' h':Sl} (hl:s.sl[i]?=some l) (hh:s.sl[j]?=some h) (hij:i≠j) (fi:¬oA s.sl (i:Int)) (fj:¬oA s.sl (j:Int))
   (hl1:l'.bd=l.bd) (hl2:l'.ty=l.ty) (hh1:h'.bd=true) (hh2:h'.ty=cm i) (hi:(i:Int)∈S) :
   Inv n M S (gD (gD s i l l') j h h')∧ub (gD (gD s i l l') j h h').sl<ub s.sl:=by
 have hj':(gD s i l l').sl[j]?=some h:=by
   rw [cC,List.getElem?_set,if_neg hij,hh]
 have u1:=p6 hl hl1
 have u2:=uV hj' (vb hh fj) hh1
 rw [cC] at u2
 have hp:=I.JF
 refine ⟨⟨by simp [gD,I.len],?_,?_,?_,?_,?_⟩,?_⟩
 · rw [lH,lH]
   simp only [cC]
   have:(n+2)*ub s.sl=(n+2)*ub ((s.sl.set i l').set j h')+(n+2):=by rw [←u1,←u2,Nat.mul_add,Nat.mul_one]
   omega
 · intro x hx
   simp only [cC] at hx
   rcases mem_set hx with rfl | hx
   · rw [hh2];exact cW rfl
   · rcases mem_set hx with rfl | hx
     · rw [hl2];exact I.ok l (bo hl)
     · exact I.ok x hx
 · intro x hx w ho
   simp only [cC] at hx
   rcases mem_set hx with rfl | hx
   · rw [hh2] at ho
     rw [jf (t:=cm i) rfl ho]
     exact hi
   · rcases mem_set hx with rfl | hx
     · rw [hl2] at ho;exact I.lG l (bo hl) w ho
     · exact I.lG x hx w ho
 · simp only [cC]
   refine xX (xW I.I7 hl hl1 hl2) ?_
   intro v ho hv
   rw [hh2] at ho
   have e:=jf (t:=cm i) rfl ho
   have e2:v=(i:Int):=e
   subst e2
   have fi':¬oA (s.sl.set i l') (i:Int):=by
     rintro ⟨k,x,q,hx,hb⟩
     have:k=i:=by omega
     subst this
     have hlt:k<s.sl.length:=by obtain ⟨h,_⟩:=List.getElem?_eq_some_iff.1 hl;exact h
     rw [List.getElem?_set,if_pos rfl,if_pos hlt] at hx
     cases hx
     rw [hl1,vb hl fi] at hb
     cases hb
   have:=rJ hv fi'
   omega
 · intro x hx
   simp only [cC] at hx
   rcases mem_set hx with rfl | hx
   · rw [hh2];exact ⟨by simp [cm],by simp [cm]⟩
   · rcases mem_set hx with rfl | hx
     · rw [hl2];exact I.wf l (bo hl)
     · exact I.wf x hx
 · simp only [cC]
   omega
end Go.Ab.Lw
namespace Go.Ab.Lw
open Ev
theorem Inv.JG {n M:Nat} {S:List Int} {s:dS} (I:Inv n M S s):s.Ok n (M+10):=⟨by rw [I.len];omega,by have:=I.JF;have:0≤(n+2)*ub s.sl:=Nat.zero_le _;omega,I.ok⟩
theorem Inv.QF {n M:Nat} {S:List Int} {s:dS} (I:Inv n M S s) {i:Nat} {o x:Sl} (hx:x.ty.Ok):(gD s i o x).Ok n (M+10):=⟨by rw [cC,List.length_set,I.len];omega,by rw [lH];have:=I.JF;have:0≤(n+2)*ub s.sl:=Nat.zero_le _;omega,by
 intro y hy
 rw [cC] at hy
 rcases mem_set hy with rfl | hy
 · exact hx
 · exact I.ok y hy⟩
theorem c397 {n M:Nat} {S:List Int} {s:dS} (I:Inv n M S s) (hn:n≤1000000) (hM:M≤100000000) {x y:Ty} {i j:Nat} (hxi:x.id=i) (hyj:y.id=j) (hi:i<n) (hj:j<n) (fi:¬oA s.sl (i:Int)) (fj:¬oA s.sl (j:Int)) (hiS:(i:Int)∈S) (hjS:(j:Int)∈S) :
   ∃s',(aN AP).p 397 [s.pv,x.pv,y.pv]=some [s'.pv]∧Inv n M S s'∧(s'=s∨ub s'.sl<ub s.sl):=by
 by_cases hij:i=j
 · refine ⟨s,?_,I,.inl rfl⟩
   have h2:x.id=y.id:=by rw [hxi,hyj,hij]
   rw [au (af:=g397) rfl rfl (by decide)]
   simp [g397,h2]
 · have hne:¬(i:Int)=j:=by omega
   obtain ⟨a,ha⟩:=bn (l:=s.sl) (i:=min i j) (by rw [I.len];omega)
   obtain ⟨b,hb⟩:=bn (l:=s.sl) (i:=max i j) (by rw [I.len];omega)
   have hab:min i j≠max i j:=by omega
   have fa:¬oA s.sl ((min i j:Nat):Int):=by
     by_cases q:i≤j
     · rw [Nat.min_eq_left q];exact fi
     · rw [Nat.min_eq_right (by omega)];exact fj
   have fb:¬oA s.sl ((max i j:Nat):Int):=by
     by_cases q:i≤j
     · rw [Nat.max_eq_right q];exact fj
     · rw [Nat.max_eq_left (by omega)];exact fi
   have haS:((min i j:Nat):Int)∈S:=by
     by_cases q:i≤j
     · rw [Nat.min_eq_left q];exact hiS
     · rw [Nat.min_eq_right (by omega)];exact hjS
   have hmin:(if j<i then (j:Int) else (i:Int))=((min i j:Nat):Int):=by split<;>omega
   have hmax:(if i<j then (j:Int) else (i:Int))=((max i j:Nat):Int):=by split<;>omega
   have hlo:min i j<s.sl.length:=by rw [I.len];omega
   have hhi:max i j<s.sl.length:=by rw [I.len];omega
   generalize min i j=p at *
   generalize max i j=q at *
   have k0:=c63 (n:=p)
   let a':Sl:=⟨a.bd,a.ty,if b.home<a.home then b.home else a.home,a.base || b.base⟩
   let b':Sl:=⟨true,cm p,b.home,b.base⟩
   have aO:a'.ty.Ok:=I.ok a (bo ha)
   have k1:=c393 I.JG (by omega) (by omega) ha a'
   have hb1:(gD s p a a').sl[q]?=some b:=by rw [cC,List.getElem?_set,if_neg hab,hb]
   have k2:=c393 (I.QF (i:=p) (o:=a) aO) (by omega) (by omega) hb1 b'
   obtain ⟨J,hu⟩:=I8 I (l':=a') (h':=b') ha hb hab fa fb rfl rfl rfl rfl haS
   refine ⟨gD (gD s p a a') q b b',?_,J,.inr hu⟩
   generalize gD (gD s p a a') q b b'=s2 at *
   generalize gD s p a a'=s1 at *
   simp [a',b',cm] at k0 k1 k2
   rw [au (af:=g397) rfl rfl (by decide)]
   cases hab1:a.base
   · simp [hab1] at k1
     simp (disch:=omega) [-getElem?_pos,g397,hxi,hyj,hne,hmin,hmax,ha,hb,hlo,hhi,k0,k1,k2,hab1]
   · simp [hab1] at k1
     simp (disch:=omega) [-getElem?_pos,g397,hxi,hyj,hne,hmin,hmax,ha,hb,hlo,hhi,k0,k1,k2,hab1]
end Go.Ab.Lw
namespace Go.Ab.Lw
open Ev
def zS:List AV:=[.own [] 0,.own [] 1]
def oE (v:Sl):List AV:=[.pv (.bool v.bd),.pv (vI v.ty.kind),.pv (.str v.ty.name),.pv (vI v.ty.id),.pv (vI v.ty.home),.pv (.aD (v.ty.args.map Ty.pv)),.pv (vI v.home),.pv (.bool v.base)]
def I9 (s:dS) (q:aM):Option (bf×St):=some (.ret,⟨[(6,.az 6 0),(7,.pv (vI 13))],[(6,sC s)],[],q⟩)
theorem L_ {s:dS} {i:Nat} {t:Ty} {v:Sl} {out:List Int} {r:List Ty} (hr:Sm r):∀(n k:Nat),r.length-k=n→k≤r.length →
   (∃q,cl AP g398L0 ⟨[(1,.pv (vI i)),(3,.az 3 0),(5,.az 5 0),(6,.az 6 0),(8,.az 8 0),(9,.pv (.aD (out.map vI))),(15,.pv (.aD (r.map Ty.pv))),(16,.pv (vI k))],[(3,sC s),(5,tC t),(6,zS),(8,oE v)],[],[0,0]⟩=I9 s q) ∨
   cl AP g398L0 ⟨[(1,.pv (vI i)),(3,.az 3 0),(5,.az 5 0),(6,.az 6 0),(8,.az 8 0),(9,.pv (.aD (out.map vI))),(15,.pv (.aD (r.map Ty.pv))),(16,.pv (vI k))],[(3,sC s),(5,tC t),(6,zS),(8,oE v)],[],[0,0]⟩ =
     some (.exit 0,⟨[(1,.pv (vI i)),(3,.az 3 0),(5,.az 5 0),(6,.az 6 0),(8,.az 8 0),(9,.pv (.aD (out.map vI))),(15,.pv (.aD (r.map Ty.pv))),(16,.pv (vI r.length)),(57,.pv (.bool false))],[(3,sC s),(5,tC t),(6,zS),(8,oE v)],[],[0,0]⟩)
 | 0,k,hn,hk=>by
   have:k=r.length:=by omega
   subst this
   refine .inr ?_
   rw [g398L0e]
   simp [g398B0,sC,tC,zS,oE]
 | n+1,k,hn,hk=>by
   have hk:k<r.length:=by omega
   obtain ⟨x,hx⟩:=bn hk
   unfold Sm at hr
   by_cases hg:v.home<x.home
   · refine .inl ?_
     rw [g398L0e]
     simp (disch:=omega) [-getElem?_pos,g398B0,sC,tC,zS,oE,I9,hx,hk,hg]
   · have ih:=L_ (s:=s) (i:=i) (t:=t) (v:=v) (out:=out) hr n (k+1) (by omega) (by omega)
     have e1:cl AP g398L0 ⟨[(1,.pv (vI i)),(3,.az 3 0),(5,.az 5 0),(6,.az 6 0),(8,.az 8 0),(9,.pv (.aD (out.map vI))),(15,.pv (.aD (r.map Ty.pv))),(16,.pv (vI k))],[(3,sC s),(5,tC t),(6,zS),(8,oE v)],[],[0,0]⟩=cl AP g398L0 ⟨[(1,.pv (vI i)),(3,.az 3 0),(5,.az 5 0),(6,.az 6 0),(8,.az 8 0),(9,.pv (.aD (out.map vI))),(15,.pv (.aD (r.map Ty.pv))),(16,.pv (vI (k+1:Nat)))],[(3,sC s),(5,tC t),(6,zS),(8,oE v)],[],[0,0]⟩:=by
       conv=>lhs;rw [g398L0e]
       simp (disch:=omega) [-getElem?_pos,g398B0,sC,tC,zS,oE,hx,hk,hg,aq]
     rw [e1]
     exact ih
theorem L' {s:dS} {i:Nat} {t:Ty} {v:Sl} {out:List Int} (hr:Sm out):∀(n k:Nat),out.length-k=n→k≤out.length →
   (∃q,cl AP g398L1 ⟨[(1,.pv (vI i)),(3,.az 3 0),(5,.az 5 0),(6,.az 6 0),(8,.az 8 0),(9,.pv (.aD (out.map vI))),(17,.pv (vI k))],[(3,sC s),(5,tC t),(6,zS),(8,oE v)],[],[0,0]⟩=I9 s q) ∨
   cl AP g398L1 ⟨[(1,.pv (vI i)),(3,.az 3 0),(5,.az 5 0),(6,.az 6 0),(8,.az 8 0),(9,.pv (.aD (out.map vI))),(17,.pv (vI k))],[(3,sC s),(5,tC t),(6,zS),(8,oE v)],[],[0,0]⟩ =
     some (.exit 2,⟨[(1,.pv (vI i)),(3,.az 3 0),(5,.az 5 0),(6,.az 6 0),(8,.az 8 0),(9,.pv (.aD (out.map vI))),(17,.pv (vI out.length)),(72,.pv (.bool false))],[(3,sC s),(5,tC t),(6,zS),(8,oE v)],[],[0,0]⟩)
 | 0,k,hn,hk=>by
   have:k=out.length:=by omega
   subst this
   refine .inr ?_
   rw [g398L1e]
   simp [g398B1,sC,tC,zS,oE]
 | n+1,k,hn,hk=>by
   have hk:k<out.length:=by omega
   obtain ⟨x,hx⟩:=bn hk
   unfold Sm at hr
   by_cases hg:(s.sl.length:Int)≤x∧v.home<0
   · obtain ⟨g1,g2⟩:=hg
     refine .inl ?_
     rw [g398L1e]
     simp (disch:=omega) [-getElem?_pos,g398B1,sC,tC,zS,oE,I9,hx,hk,g1,g2]
   · have ih:=L' (s:=s) (i:=i) (t:=t) (v:=v) (out:=out) hr n (k+1) (by omega) (by omega)
     have e1:cl AP g398L1 ⟨[(1,.pv (vI i)),(3,.az 3 0),(5,.az 5 0),(6,.az 6 0),(8,.az 8 0),(9,.pv (.aD (out.map vI))),(17,.pv (vI k))],[(3,sC s),(5,tC t),(6,zS),(8,oE v)],[],[0,0]⟩=cl AP g398L1 ⟨[(1,.pv (vI i)),(3,.az 3 0),(5,.az 5 0),(6,.az 6 0),(8,.az 8 0),(9,.pv (.aD (out.map vI))),(17,.pv (vI (k+1:Nat)))],[(3,sC s),(5,tC t),(6,zS),(8,oE v)],[],[0,0]⟩:=by
       conv=>lhs;rw [g398L1e]
       by_cases g1:(s.sl.length:Int)≤x
       · have g2:¬v.home<0:=fun h=>hg ⟨g1,h⟩
         simp (disch:=omega) [-getElem?_pos,g398B1,sC,tC,zS,oE,hx,hk,g1,g2,aq]
       · simp (disch:=omega) [-getElem?_pos,g398B1,sC,tC,zS,oE,hx,hk,g1,aq]
     rw [e1]
     exact ih
structure Kp (s s':dS) (c:Nat):Prop where
 len:s'.sl.length=s.sl.length
 tr:s'.tr.length≤s.tr.length+c
 Cs:∀(k:Nat) o',s'.sl[k]?=some o'→∃o,s.sl[k]?=some o∧o'.bd=o.bd∧o'.ty=o.ty
 ub:ub s'.sl=ub s.sl
theorem Kp.FJ {s s':dS} {c:Nat} (h:Kp s s' c) {i v:Int} (e:Edge s'.sl i v):Edge s.sl i v:=by
 obtain ⟨k,x,rfl,hx,hb,ho⟩:=e
 obtain ⟨o,hk,h1,h2⟩:=h.Cs k x hx
 exact ⟨k,o,rfl,hk,by rw [←h1];exact hb,by rw [←h2];exact ho⟩
theorem Kp.set {s s':dS} {c:Nat} (h:Kp s s' c) {k:Nat} {o x:Sl} (ho:s'.sl[k]?=some o) (hb:x.bd=o.bd) (ht:x.ty=o.ty):Kp s (gD s' k o x) (c+1) where
 len:=by rw [cC,List.length_set,h.len]
 tr:=by rw [lH];have:=h.tr;omega
 Cs:=by
   intro j o' hj
   rw [cC,List.getElem?_set] at hj
   by_cases e:k=j
   · subst e
     have hl:k<s'.sl.length:=by obtain ⟨h,_⟩:=List.getElem?_eq_some_iff.1 ho;exact h
     rw [if_pos rfl,if_pos hl] at hj
     cases hj
     obtain ⟨p,h1,h2,h3⟩:=h.Cs k o ho
     exact ⟨p,h1,by rw [hb,h2],by rw [ht,h3]⟩
   · rw [if_neg e] at hj
     exact h.Cs j o' hj
 ub:=by rw [cC,p6 ho hb,h.ub]
theorem Kp.refl {s:dS}:Kp s s 0:=⟨rfl,by omega,fun k o h=>⟨o,h,rfl,rfl⟩,rfl⟩
theorem Kp.gE {s s':dS} {c d:Nat} (h:Kp s s' c) (hd:c≤d):Kp s s' d:=⟨h.len,by have:=h.tr;omega,h.Cs,h.ub⟩
end Go.Ab.Lw
namespace Go.Ab.Lw
open Ev
def mE (n:Nat) (l:List Int):Nat:=(l.filter fun w:Int=>decide (w<(n:Int))).length
theorem Ct {n:Nat} {l:List Int} (hd:l.Nodup) (h0:∀w∈l,0≤w):mE n l≤n:=by
 have h1:(l.filter fun w=>decide (w<(n:Int))).Nodup:=hd.filter _
 have h2:∀x∈(l.filter fun w=>decide (w<(n:Int))),x∈(List.range n).map (fun k:Nat=>(k:Int)):=by
   intro x hx
   simp at hx
   simp
   exact ⟨x.toNat,by have:=h0 x hx.1;omega,by have:=h0 x hx.1;omega⟩
 have:=fY h1 h2
 simpa [mE] using this
theorem Kp.JG {n M:Nat} {S:List Int} {s s':dS} {c:Nat} (I:Inv n M S s) (h:Kp s s' c) (hc:c≤n):s'.Ok n (M+n+10):=⟨by rw [h.len,I.len];omega,by have:=h.tr;have:=I.JF;have:0≤(n+2)*Lw.ub s.sl:=Nat.zero_le _;omega,by
 intro x hx
 obtain ⟨k,hk⟩:=List.mem_iff_getElem?.1 hx
 obtain ⟨o,ho,_,e⟩:=h.Cs k x hk
 rw [e]
 exact I.ok o (bo ho)⟩
theorem Cu {N M:Nat} {S:List Int} {s:dS} (I:Inv N M S s) (hN:N≤1000000) (hM:M≤100000000) {i:Nat} {t:Ty} {v:Sl} {out:List Int} (hr:Sm out) (hd:out.Nodup) (h0:∀w∈out,0≤w):∀(n k:Nat),out.length-k=n→k≤out.length→∀s':dS,Kp s s' (mE N (out.take k))→∃s2,Kp s s2 (mE N out) ∧
   cl AP g398L2 ⟨[(1,.pv (vI i)),(3,.az 3 0),(5,.az 5 0),(6,.az 6 0),(8,.az 8 0),(9,.pv (.aD (out.map vI))),(18,.pv (vI k))],[(3,sC s'),(5,tC t),(6,zS),(8,oE v)],[],[0,0]⟩ =
     some (.exit 4,⟨[(1,.pv (vI i)),(3,.az 3 0),(5,.az 5 0),(6,.az 6 0),(8,.az 8 0),(9,.pv (.aD (out.map vI))),(18,.pv (vI out.length)),(92,.pv (.bool false))],[(3,sC s2),(5,tC t),(6,zS),(8,oE v)],[],[0,0]⟩)
 | 0,k,hn,hk,s',hK=>by
   have:k=out.length:=by omega
   subst this
   refine ⟨s',by simpa using hK,?_⟩
   rw [g398L2e]
   simp [g398B2,sC,tC,zS,oE]
 | n+1,k,hn,hk,s',hK=>by
   have hk:k<out.length:=by omega
   obtain ⟨x,hx⟩:=bn hk
   have hx0:=h0 x (bo hx)
   have hl:=hK.len
   rw [I.len] at hl
   have htk:out.take (k+1)=out.take k++[x]:=by rw [List.take_add_one,hx];rfl
   have hsub:mE N (out.take k)≤N:=Ct (hd.sublist (List.take_sublist _ _)) (fun w hw=>h0 w (List.mem_of_mem_take hw))
   have hs:=hr
   unfold Sm at hr
   by_cases hg:x<(N:Int)
   · obtain ⟨j,rfl⟩:∃j:Nat,x=j:=⟨x.toNat,by omega⟩
     have hj:j<s'.sl.length:=by omega
     obtain ⟨o,ho⟩:=bn hj
     have hcnt:mE N (out.take (k+1))=mE N (out.take k)+1:=by
       rw [htk]
       simp [mE,hg]
     by_cases hh:v.home<o.home
     · have c:=c393 (hK.JG I hsub) hN (by omega) ho ⟨o.bd,o.ty,v.home,o.base⟩
       have hK2:=hK.set (x:=⟨o.bd,o.ty,v.home,o.base⟩) ho rfl rfl
       rw [←hcnt] at hK2
       obtain ⟨s2,h2,e⟩:=Cu (i:=i) (t:=t) (v:=v) I hN hM hs hd h0 n (k+1) (by omega) (by omega) _ hK2
       refine ⟨s2,h2,?_⟩
       generalize gD s' j o ⟨o.bd,o.ty,v.home,o.base⟩=s1 at *
       rw [g398L2e] at e ⊢
       simp [sC,tC,zS,oE] at e
       simp at c
       simp (disch:=omega) [-getElem?_pos,g398B2,sC,tC,zS,oE,hx,hk,hj,ho,hh,c,aq]
       rw [g398L2e]
       simp [e]
     · have hK2:Kp s s' (mE N (out.take (k+1))):=hK.gE (by omega)
       obtain ⟨s2,h2,e⟩:=Cu (i:=i) (t:=t) (v:=v) I hN hM hs hd h0 n (k+1) (by omega) (by omega) s' hK2
       refine ⟨s2,h2,?_⟩
       rw [g398L2e] at e ⊢
       simp [sC,tC,zS,oE] at e
       simp (disch:=omega) [-getElem?_pos,g398B2,sC,tC,zS,oE,hx,hk,hj,ho,hh,aq]
       rw [g398L2e]
       simp [e]
   · have hcnt:mE N (out.take (k+1))=mE N (out.take k):=by
       rw [htk]
       simp [mE,hg]
     have hK2:Kp s s' (mE N (out.take (k+1))):=by rw [hcnt];exact hK
     obtain ⟨s2,h2,e⟩:=Cu (i:=i) (t:=t) (v:=v) I hN hM hs hd h0 n (k+1) (by omega) (by omega) s' hK2
     refine ⟨s2,h2,?_⟩
     have hg':¬x<(s'.sl.length:Int):=by omega
     rw [g398L2e] at e ⊢
     simp [sC,tC,zS,oE] at e
     simp (disch:=omega) [-getElem?_pos,g398B2,sC,tC,zS,oE,hx,hk,hg',aq]
     rw [g398L2e]
     simp [e]
end Go.Ab.Lw
namespace Go.Ab.Lw
open Ev
def UR (n M:Nat) (S:List Int) (s s':dS) (e:Int):Prop:=e=0→Inv n M S s'∧(s'=s∨ub s'.sl<ub s.sl)
theorem x8 {n M:Nat} {S:List Int} {s s2:dS} (I:Inv n M S s) {i:Nat} {v:Sl} {t:Ty} (hv:s.sl[i]?=some v) (fi:¬oA s.sl (i:Int)) {c:Nat} (hK:Kp s s2 c) (hc:c≤n) {o:Sl} (ho:s2.sl[i]?=some o) (ht:t.Ok) (hwf:t.Kw) (hw:∀w,gU t w→w∈S) (hnr:¬RT s.sl t i) {x:Sl} (hb:x.bd=true) (hx:x.ty=t) :
   Inv n M S (gD s2 i o x)∧ub (gD s2 i o x).sl<ub s.sl:=by
 have hob:o.bd=false:=by
   obtain ⟨o2,h1,h2,_⟩:=hK.Cs i o ho
   rw [hv] at h1;cases h1
   rw [h2];exact vb hv fi
 have u2:=uV ho hob hb
 have hu:=hK.ub
 have hp:=I.JF
 have hl:=I.len
 refine ⟨⟨by rw [cC,List.length_set,hK.len,I.len],?_,?_,?_,?_,?_⟩,?_⟩
 · rw [lH,cC]
   have:(n+2)*ub s.sl=(n+2)*ub (s2.sl.set i x)+(n+2):=by rw [←hu,←u2,Nat.mul_add,Nat.mul_one]
   have:=hK.tr
   omega
 · intro y hy
   rw [cC] at hy
   rcases mem_set hy with rfl | hy
   · rw [hx];exact ht
   · obtain ⟨k,hk⟩:=List.mem_iff_getElem?.1 hy
     obtain ⟨p,h1,_,h3⟩:=hK.Cs k y hk
     rw [h3];exact I.ok p (bo h1)
 · intro y hy w hw2
   rw [cC] at hy
   rcases mem_set hy with rfl | hy
   · rw [hx] at hw2;exact hw w hw2
   · obtain ⟨k,hk⟩:=List.mem_iff_getElem?.1 hy
     obtain ⟨p,h1,_,h3⟩:=hK.Cs k y hk
     rw [h3] at hw2;exact I.lG p (bo h1) w hw2
 · rw [cC]
   refine xX (I.I7.of fun a b=>hK.FJ) ?_
   intro w ho2 hr
   rw [hx] at ho2
   refine hnr ⟨w,ho2,?_⟩
   have key:∀{a b:Int},Cr s2.sl a b→Cr s.sl a b:=by
     intro a b h
     induction h with
     | refl=>exact .refl _
     | step e _ ih=>exact .step (hK.FJ e) ih
   exact key hr
 · intro y hy
   rw [cC] at hy
   rcases mem_set hy with rfl | hy
   · rw [hx];exact hwf
   · obtain ⟨k,hk⟩:=List.mem_iff_getElem?.1 hy
     obtain ⟨p,h1,_,h3⟩:=hK.Cs k y hk
     rw [h3];exact I.wf p (bo h1)
 · rw [cC];omega
theorem c398 {n M:Nat} {S:List Int} {s:dS} (I:Inv n M S s) (hn:n≤1000000) (hM:M≤100000000) (hf:S.length<1099511627776) (hS0:∀w∈S,0≤w) {i:Nat} (hi:i<n) (fi:¬oA s.sl (i:Int)) {t:Ty} (ht:t.Ok) (hwf:t.Kw) (hw:∀w,gU t w→w∈S) :
   ∃s' e,(aN AP).p 398 [s.pv,vI i,t.pv]=some [s'.pv,vI e]∧UR n M S s s' e:=by
 have hl:=I.len
 have his:i<s.sl.length:=by omega
 obtain ⟨v,hv⟩:=bn his
 obtain ⟨out,k1,hc,hall⟩:=c372 (by omega) I.I7 I.ok I.lG hf ht hw
 have hsm:=hc.len
 have k2:=c95 hsm (y:=(i:Int))
 obtain ⟨a,b,ar,k3,_⟩:=c194g ht
 have hsl:Sm s.sl:=by unfold Sm;omega
 obtain ⟨u,bb,k4,hu,hun⟩:=c358 hsl I.ok ht
 obtain ⟨r,k5,hr⟩:=c59t hu hun
 have A:=L_ (s:=s) (i:=i) (t:=t) (v:=v) (out:=out) hr _ 0 rfl (by omega)
 have B:=L' (s:=s) (i:=i) (t:=t) (v:=v) (out:=out) hsm _ 0 rfl (by omega)
 have h0:∀w∈out,0≤w:=fun w hw=>hS0 w (hc.sub w hw)
 obtain ⟨s2,hK,C⟩:=Cu (i:=i) (t:=t) (v:=v) I hn hM hsm hc.nodup h0 _ 0 rfl (by omega) s (by simpa [mE] using Kp.refl)
 have hcn:mE n out≤n:=Ct hc.nodup h0
 have hi2:i<s2.sl.length:=by rw [hK.len];exact his
 obtain ⟨o,ho⟩:=bn hi2
 let x:Sl:=⟨true,t,v.home,v.base⟩
 have k6:=c393 (hK.JG I hcn) hn (by omega) ho x
 by_cases q1:(i:Int)∈out
 · rw [decide_eq_true q1] at k2
   refine ⟨s,12,?_,by intro h;cases h⟩
   rw [au (af:=g398) rfl rfl (by decide)]
   simp at k1
   simp (disch:=omega) [-getElem?_pos,g398,his,hv,k1,k2]
 · rw [decide_eq_false q1] at k2
   have hnr:¬RT s.sl t i:=fun h=>q1 (hall i h fi)
   have J:=x8 I (x:=x) hv fi hK hcn ho ht hwf hw hnr rfl rfl
   generalize gD s2 i o x=s3 at *
   simp [x] at k6
   simp at k1 k3 k4 k5
   rw [g398L0e] at A
   rw [g398L1e] at B
   rw [g398L2e] at C
   simp [sC,tC,zS,oE,I9] at A B C
   by_cases q2:ar=true∧v.base=true
   · obtain ⟨q3,q4⟩:=q2
     refine ⟨s,14,?_,by intro h;cases h⟩
     rw [au (af:=g398) rfl rfl (by decide)]
     simp (disch:=omega) [-getElem?_pos,g398,his,hv,k1,k2,k3,q3,q4]
   · rcases A with ⟨q,A⟩ | A
     · refine ⟨s,13,?_,by intro h;cases h⟩
       rw [au (af:=g398) rfl rfl (by decide)]
       cases ar with
       | true=>
         have q4:v.base=false:=by cases e:v.base with | false=>rfl | true=>exact absurd ⟨rfl,e⟩ q2
         simp [q4] at A
         simp (disch:=omega) [-getElem?_pos,g398,his,hv,k1,k2,k3,k4,k5,q4,g398L0e,A]
       | false=>simp (disch:=omega) [-getElem?_pos,g398,his,hv,k1,k2,k3,k4,k5,g398L0e,A]
     · rcases B with ⟨q,B⟩ | B
       · refine ⟨s,13,?_,by intro h;cases h⟩
         rw [au (af:=g398) rfl rfl (by decide)]
         cases ar with
         | true=>
           have q4:v.base=false:=by cases e:v.base with | false=>rfl | true=>exact absurd ⟨rfl,e⟩ q2
           simp [q4] at A B
           simp (disch:=omega) [-getElem?_pos,g398,his,hv,k1,k2,k3,k4,k5,q4,g398L0e,A,g398L1e,B]
         | false=>simp (disch:=omega) [-getElem?_pos,g398,his,hv,k1,k2,k3,k4,k5,g398L0e,A,g398L1e,B]
       · refine ⟨s3,0,?_,fun _=>⟨J.1,.inr J.2⟩⟩
         rw [au (af:=g398) rfl rfl (by decide)]
         cases ar with
         | true=>
           have q4:v.base=false:=by cases e:v.base with | false=>rfl | true=>exact absurd ⟨rfl,e⟩ q2
           simp [q4] at A B C k6
           simp (disch:=omega) [-getElem?_pos,g398,his,hv,k1,k2,k3,k4,k5,q4,g398L0e,A,g398L1e,B,g398L2e,C,k6]
         | false=>simp (disch:=omega) [-getElem?_pos,g398,his,hv,k1,k2,k3,k4,k5,g398L0e,A,g398L1e,B,g398L2e,C,k6]
end Go.Ab.Lw
namespace Go.Ab.Lw
open Ev
theorem x9 {s:List Sl} {rk:Int→Nat} (hr:∀i v,Edge s i v→rk v<rk i):∀(m:Nat) (t:Ty),hU s (wk s m t)≠none→∃(i:Nat) (l:List Nat),t.kind=1∧t.id=i∧l.length=m∧(i::l).Pairwise (fun a b:Nat=>rk (b:Int)<rk (a:Int))∧∀a∈i::l,a<s.length
 | 0,t,h=>by
   cases hb:hU s t with
   | none=>exact absurd hb h
   | some x=>
     obtain ⟨k,i,hi,hx,_⟩:=fM hb
     have hl:i<s.length:=by obtain ⟨h,_⟩:=List.getElem?_eq_some_iff.1 hx;exact h
     exact ⟨i,[],k,hi,rfl,by simp,by simpa using hl⟩
 | m+1,t,h=>by
   cases hb:hU s t with
   | none=>
     have:wk s (m+1) t=t:=by simp [wk,hb]
     rw [this] at h
     exact absurd hb h
   | some x=>
     obtain ⟨k,i,hi,hx,hbd⟩:=fM hb
     have hl:i<s.length:=by obtain ⟨h,_⟩:=List.getElem?_eq_some_iff.1 hx;exact h
     have e:wk s (m+1) t=wk s m x.ty:=by simp [wk,hb]
     rw [e] at h
     obtain ⟨j,l,k2,hj,hn,hp,ha⟩:=x9 hr m x.ty h
     have ed:Edge s (i:Int) (j:Int):=⟨i,x,rfl,hx,hbd,by rw [←hj];exact .var k2⟩
     have hlt:=hr _ _ ed
     refine ⟨i,j::l,k,hi,by simp [hn],?_,?_⟩
     · rw [List.pairwise_cons]
       refine ⟨?_,hp⟩
       intro b hb
       simp only [List.mem_cons] at hb
       rcases hb with rfl | hb
       · exact hlt
       · have:=(List.pairwise_cons.1 hp).1 b hb;omega
     · intro a hm
       simp only [List.mem_cons] at hm
       rcases hm with rfl | hm
       · exact hl
       · exact ha a (by simpa using hm)
theorem rN {s:List Sl} (h:F3 s) {t:Ty}:hU s (jY s t)=none:=by
 obtain ⟨rk,hr⟩:=h
 cases hb:hU s (jY s t) with
 | none=>rfl
 | some x=>
   exfalso
   obtain ⟨i,l,_,_,hl,hp,ha⟩:=x9 hr (s.length+1) t (by unfold jY at hb;rw [hb];simp)
   have hd:(i::l).Nodup:=hp.imp (fun {a b} h e=>by rw [e] at h;omega)
   have:=fY hd (S:=List.range s.length) (fun a h=>by simpa using ha a h)
   simp at this
   omega
theorem j8 {s:List Sl} {S:List Int} (hs:∀x∈s,∀w,gU x.ty w→w∈S):∀{m:Nat} {t:Ty},(∀w,gU t w→w∈S)→∀w,gU (wk s m t) w→w∈S
 | 0,t,h=>h
 | m+1,t,h=>by
   unfold wk
   split
   · rename_i x hx
     obtain ⟨_,i,_,hi,_⟩:=fM hx
     exact j8 hs (hs x (bo hi))
   · exact h
theorem Pq {n M:Nat} {S:List Int} {s:dS} {x y:Ty} (hx:x.Ok) (hxy:x.args.length=y.args.length)
   (H:∀s',Inv n M S s'→(s'=s∨ub s'.sl<ub s.sl)→∀(i:Nat) a b,x.args[i]?=some a→y.args[i]?=some b→∃s2 e,(aN AP).p 391 [s'.pv,a.pv,b.pv]=some [s2.pv,vI e]∧UR n M S s' s2 e) :
   ∀(m i:Nat),x.args.length-i=m→i≤x.args.length→∀(s':dS) (e:Int),UR n M S s s' e→∃(s2:dS) (e2:Int) (i2:Nat),
   cl AP g391L0 ⟨[(3,.az 3 0),(6,.az 6 0),(8,.az 8 0),(9,.az 9 0),(10,.pv (vI e)),(11,.pv (vI i))],[(3,sC s'),(6,zS),(8,tC x),(9,tC y)],[],[0,0]⟩ =
     some (.exit 1,⟨[(3,.az 3 0),(6,.az 6 0),(8,.az 8 0),(9,.az 9 0),(10,.pv (vI e2)),(11,.pv (vI i2)),(109,.pv (.bool false))],[(3,sC s2),(6,zS),(8,tC x),(9,tC y)],[],[0,0]⟩)∧UR n M S s s2 e2
 | 0,i,hm,hi,s',e,h=>by
   have:i=x.args.length:=by omega
   subst this
   refine ⟨s',e,x.args.length,?_,h⟩
   rw [g391L0e]
   simp [g391B0,sC,tC,zS]
 | m+1,i,hm,hi,s',e,h=>by
   have hi:i<x.args.length:=by omega
   obtain ⟨a,ha⟩:=bn hi
   have hiy:i<y.args.length:=by omega
   obtain ⟨b,hb⟩:=bn hiy
   have hsm:=hx.sm
   unfold Sm at hsm
   by_cases he:e=0
   · obtain ⟨I,hu⟩:=h he
     obtain ⟨s1,e1,c,h1⟩:=H s' I hu i a b ha hb
     have h2:UR n M S s s1 e1:=fun q=>by
       obtain ⟨J,ju⟩:=h1 q
       refine ⟨J,?_⟩
       rcases ju with rfl | ju
       · exact hu
       · rcases hu with rfl | hu
         · exact .inr ju
         · exact .inr (by omega)
     obtain ⟨s2,e2,i2,eq,h3⟩:=Pq hx hxy H m (i+1) (by omega) (by omega) s1 e1 h2
     refine ⟨s2,e2,i2,?_,h3⟩
     rw [g391L0e] at eq ⊢
     simp [sC,tC,zS] at eq
     simp at c
     simp (disch:=omega) [-getElem?_pos,g391B0,sC,tC,zS,hi,hiy,ha,hb,he,c,aq]
     rw [g391L0e]
     simp [eq]
   · refine ⟨s',e,i,?_,h⟩
     rw [g391L0e]
     simp (disch:=omega) [-getElem?_pos,g391B0,sC,tC,zS,hi,he]
end Go.Ab.Lw
namespace Go.Ab.Lw
open Ev
theorem mF {s:List Sl} {t:Ty} (h:lS s t=true):t.kind=1∧∃i:Nat,t.id=i∧i<s.length:=by
 simp [lS] at h
 exact ⟨h.1,t.id.toNat,by omega,by omega⟩
theorem nG {s:List Sl} (hs:∀x∈s,x.ty.Kw):∀{m:Nat} {t:Ty},t.Kw→(wk s m t).Kw
 | 0,t,h=>h
 | m+1,t,h=>by
   unfold wk
   split
   · rename_i x hx
     obtain ⟨_,i,_,hi,_⟩:=fM hx
     exact nG hs (hs x (bo hi))
   · exact h
theorem Pr {n M:Nat} {S:List Int} {s:dS} (I:Inv n M S s) (hn:n≤1000000) (hM:M≤100000000) (hf:S.length<1099511627776) (hS0:∀w∈S,0≤w) {a b:Ty} (ha:a.Ok) (hb:b.Ok) (wa:a.Kw) (wb:b.Kw) (oa:∀w,gU a w→w∈S) (ob:∀w,gU b w→w∈S) {r1:Nat} (k1:(aN AP).p 355 [s.pv,a.pv,vI (200:Nat)]=some [vI r1])
   (H:r1≤200→∀s',Inv n M S s'→(s'=s∨ub s'.sl<ub s.sl)→∀(i:Nat) x y,(jY s.sl a).args[i]?=some x→(jY s.sl b).args[i]?=some y→∃s2 e,(aN AP).p 391 [s'.pv,x.pv,y.pv]=some [s2.pv,vI e]∧UR n M S s' s2 e) :
   ∃s' e,(aN AP).p 391 [s.pv,a.pv,b.pv]=some [s'.pv,vI e]∧UR n M S s s' e:=by
 have hl:=I.len
 have hsm:Sm s.sl:=by unfold Sm;omega
 obtain ⟨r2,k2,_,_,_⟩:=c355 hsm I.ok (m:=200) (by omega) hb
 have k3:=c386 hsm (t:=a)
 have k4:=c386 hsm (t:=b)
 have xf:=rN I.I7 (t:=a)
 have yf:=rN I.I7 (t:=b)
 have xO:(jY s.sl a).Ok:=kS I.ok ha
 have yO:(jY s.sl b).Ok:=kS I.ok hb
 have xo:∀w,gU (jY s.sl a) w→w∈S:=j8 I.lG oa
 have yo:∀w,gU (jY s.sl b) w→w∈S:=j8 I.lG ob
 change (aN AP).p 386 [s.pv,a.pv]=some [(jY s.sl a).pv] at k3
 change (aN AP).p 386 [s.pv,b.pv]=some [(jY s.sl b).pv] at k4
 have xw:(jY s.sl a).Kw:=nG I.wf wa
 have yw:(jY s.sl b).Kw:=nG I.wf wb
 generalize jY s.sl a=x at *
 generalize jY s.sl b=y at *
 have k5:=c396 (s:=s) (t:=x)
 have k6:=c396 (s:=s) (t:=y)
 simp at k1 k2 k3 k4
 by_cases h1:200<r1
 · refine ⟨s,15,?_,by intro h;cases h⟩
   have h1':(200:Int)<r1:=by omega
   rw [au (af:=g391) rfl rfl (by decide)]
   simp [g391,k1,h1']
 · have h1':¬(200:Int)<r1:=by omega
   have H:=H (by omega)
   by_cases h2:200<r2
   · refine ⟨s,15,?_,by intro h;cases h⟩
     have h2':(200:Int)<r2:=by omega
     rw [au (af:=g391) rfl rfl (by decide)]
     simp [g391,k1,k2,h1',h2']
   · have h2':¬(200:Int)<r2:=by omega
     cases sx:lS s.sl x with
     | true=>
       obtain ⟨xk,i,xi,hi⟩:=mF sx
       have fi:¬oA s.sl (i:Int):=by rw [←xi];exact iT xk xf
       rw [sx] at k5
       cases sy:lS s.sl y with
       | true=>
         obtain ⟨yk,j,yj,hj⟩:=mF sy
         have fj:¬oA s.sl (j:Int):=by rw [←yj];exact iT yk yf
         rw [sy] at k6
         obtain ⟨s',c,J⟩:=c397 I hn hM xi yj (by omega) (by omega) fi fj (by rw [←xi];exact xo _ (.var xk)) (by rw [←yj];exact yo _ (.var yk))
         refine ⟨s',0,?_,fun _=>J⟩
         simp at k5 k6 c
         rw [au (af:=g391) rfl rfl (by decide)]
         simp [g391,k1,k2,k3,k4,k5,k6,h1',h2',c]
       | false=>
         rw [sy] at k6
         obtain ⟨s',e,c,J⟩:=c398 I hn hM hf hS0 (by omega) fi yO yw yo
         refine ⟨s',e,?_,J⟩
         simp [xi] at k3 k5 k6 c
         rw [au (af:=g391) rfl rfl (by decide)]
         simp [g391,k1,k2,k3,k4,k5,k6,h1',h2',xi,c]
     | false=>
       rw [sx] at k5
       cases sy:lS s.sl y with
       | true=>
         obtain ⟨yk,j,yj,hj⟩:=mF sy
         have fj:¬oA s.sl (j:Int):=by rw [←yj];exact iT yk yf
         rw [sy] at k6
         obtain ⟨s',e,c,J⟩:=c398 I hn hM hf hS0 (by omega) fj xO xw xo
         refine ⟨s',e,?_,J⟩
         simp [yj] at k4 k5 k6 c
         rw [au (af:=g391) rfl rfl (by decide)]
         simp [g391,k1,k2,k3,k4,k5,k6,h1',h2',yj,c]
       | false=>
         rw [sy] at k6
         simp at k5 k6
         by_cases q:x.kind=y.kind∧x.name=y.name∧x.id=y.id∧x.home=y.home∧x.args.length=y.args.length
         · obtain ⟨q1,q2,q3,q4,q5⟩:=q
           obtain ⟨s2,e2,i2,eq,U⟩:=Pq xO q5 H _ 0 rfl (by omega) s 0 (fun _=>⟨I,.inl rfl⟩)
           refine ⟨s2,e2,?_,U⟩
           rw [g391L0e] at eq
           simp [sC,tC,zS] at eq
           rw [au (af:=g391) rfl rfl (by decide)]
           simp [g391,k1,k2,k3,k4,k5,k6,h1',h2']
           simp only [q1,q2,q3,q4,q5] at *
           simp [g391L0e,eq]
         · refine ⟨s,11,?_,by intro h;cases h⟩
           rw [au (af:=g391) rfl rfl (by decide)]
           by_cases q1:x.kind=y.kind
           · have p1:=eq_true q1
             by_cases q2:x.name=y.name
             · have p2:=eq_true q2
               by_cases q3:x.id=y.id
               · have p3:=eq_true q3
                 by_cases q4:x.home=y.home
                 · have p4:=eq_true q4
                   have q5:¬x.args.length=y.args.length:=fun e=>q ⟨q1,q2,q3,q4,e⟩
                   have q6:¬(x.args.length:Int)=y.args.length:=by omega
                   clear q q1 q2 q3 q4
                   simp [g391,k1,k2,k3,k4,k5,k6,h1',h2',p1,p2,p3,p4,q5,q6]
                 · clear q q1 q2 q3
                   simp [g391,k1,k2,k3,k4,k5,k6,h1',h2',p1,p2,p3,q4]
               · clear q q1 q2
                 simp [g391,k1,k2,k3,k4,k5,k6,h1',h2',p1,p2,q3]
             · clear q q1
               simp [g391,k1,k2,k3,k4,k5,k6,h1',h2',p1,q2]
           · simp [g391,k1,k2,k3,k4,k5,k6,h1',h2',q1]
theorem p7 {S:List Int} {t:Ty} (hw:t.Kw) (h:∀w,gU t w→w∈S):∀z∈t.args,∀w,gU z w→w∈S:=by
 intro z hz w ho
 by_cases k:t.kind=1
 · rw [hw.var k] at hz;cases hz
 · exact h w (.arg k hz ho)
def ND (n M:Nat) (S:List Int) (s:dS):Prop:=∀a b:Ty,a.Ok→b.Ok→a.Kw→b.Kw→(∀w,gU a w→w∈S)→(∀w,gU b w→w∈S)→∃s2 e,(aN AP).p 391 [s.pv,a.pv,b.pv]=some [s2.pv,vI e]∧UR n M S s s2 e
theorem c391r {n M:Nat} {S:List Int} {s:dS} (I:Inv n M S s) (hn:n≤1000000) (hM:M≤100000000) (hf:S.length<1099511627776) (hS0:∀w∈S,0≤w)
   (IH:∀s':dS,ub s'.sl<ub s.sl→Inv n M S s'→ND n M S s') (r:Nat) :
   ∀a b:Ty,Tr s.sl a r→a.Ok→b.Ok→a.Kw→b.Kw→(∀w,gU a w→w∈S)→(∀w,gU b w→w∈S)→∃s2 e,(aN AP).p 391 [s.pv,a.pv,b.pv]=some [s2.pv,vI e]∧UR n M S s s2 e:=by
 induction r using Nat.strongRecOn with
 | ind r ih=>
   intro a b ht ha hb wa wb oa ob
   have hl:=I.len
   have hsm:Sm s.sl:=by unfold Sm;omega
   obtain ⟨r1,k1,_,_,_⟩:=c355 hsm I.ok (m:=200) (by omega) ha
   obtain ⟨ns,hT,hr⟩:=ht.inv
   have xO:(jY s.sl a).Ok:=kS I.ok ha
   have yO:(jY s.sl b).Ok:=kS I.ok hb
   have xw:(jY s.sl a).Kw:=nG I.wf wa
   have yw:(jY s.sl b).Kw:=nG I.wf wb
   have xo:=p7 xw (j8 I.lG oa:∀w,gU (jY s.sl a) w→w∈S)
   have yo:=p7 yw (j8 I.lG ob:∀w,gU (jY s.sl b) w→w∈S)
   refine Pr I hn hM hf hS0 ha hb wa wb oa ob k1 ?_
   intro _ s' I' hu i x y hx hy
   have hi:i<(jY s.sl a).args.length:=by obtain ⟨h,_⟩:=List.getElem?_eq_some_iff.1 hx;exact h
   have mx:=bo hx
   have my:=bo hy
   rcases hu with rfl | hu
   · obtain ⟨m,hm⟩:=bn (l:=ns) (i:=i) (by rw [hT.1];exact hi)
     have:=uT hm
     exact ih m (by omega) x y (hT.2 i x m hx hm) (xO.fw x mx) (yO.fw y my) (xw.fw x mx) (yw.fw y my) (xo x mx) (yo y my)
   · exact IH s' hu I' x y (xO.fw x mx) (yO.fw y my) (xw.fw x mx) (yw.fw y my) (xo x mx) (yo y my)
theorem c391 {n M:Nat} {S:List Int} (hn:n≤1000000) (hM:M≤100000000) (hf:S.length<1099511627776) (hS0:∀w∈S,0≤w) (u:Nat):∀s:dS,ub s.sl=u→Inv n M S s→ND n M S s:=by
 induction u using Nat.strongRecOn with
 | ind u IH=>
   intro s hu I a b ha hb wa wb oa ob
   have hl:=I.len
   have hsm:Sm s.sl:=by unfold Sm;omega
   have IH':∀s':dS,ub s'.sl<ub s.sl→Inv n M S s'→ND n M S s':=fun s' h I'=>IH _ (by omega) s' rfl I'
   obtain ⟨r1,k1,_,_,ht⟩:=c355 hsm I.ok (m:=200) (by omega) ha
   have xO:(jY s.sl a).Ok:=kS I.ok ha
   have yO:(jY s.sl b).Ok:=kS I.ok hb
   have xw:(jY s.sl a).Kw:=nG I.wf wa
   have yw:(jY s.sl b).Kw:=nG I.wf wb
   have xo:=p7 xw (j8 I.lG oa:∀w,gU (jY s.sl a) w→w∈S)
   have yo:=p7 yw (j8 I.lG ob:∀w,gU (jY s.sl b) w→w∈S)
   refine Pr I hn hM hf hS0 ha hb wa wb oa ob k1 ?_
   intro h200 s' I' hu i x y hx hy
   have hi:i<(jY s.sl a).args.length:=by obtain ⟨h,_⟩:=List.getElem?_eq_some_iff.1 hx;exact h
   have mx:=bo hx
   have my:=bo hy
   rcases hu with rfl | hu
   · obtain ⟨ns,hT,hr⟩:=(ht h200).inv
     obtain ⟨m,hm⟩:=bn (l:=ns) (i:=i) (by rw [hT.1];exact hi)
     exact c391r I' hn hM hf hS0 IH' m x y (hT.2 i x m hx hm) (xO.fw x mx) (yO.fw y my) (xw.fw x mx) (yw.fw y my) (xo x mx) (yo y my)
   · exact IH' s' hu I' x y (xO.fw x mx) (yO.fw y my) (xw.fw x mx) (yw.fw y my) (xo x mx) (yo y my)
end Go.Ab.Lw
namespace Go.Ab.Lw
open Ev
structure Fit (S:List Int) (t:Ty):Prop where
 ok:t.Ok
 wf:t.Kw
 lG:∀w,gU t w→w∈S
structure QG (n M:Nat) (S:List Int):Prop where
 n:n≤1000000
 m:M≤100000000
 FD:S.length<1099511627776
 nn:∀w∈S,0≤w
theorem c385 {n M:Nat} {S:List Int} (N:QG n M S) {s:dS} (I:Inv n M S s) {a b:Ty} (fa:Fit S a) (fb:Fit S b):∃s' e,(aN AP).p 385 [s.pv,a.pv,b.pv]=some [s'.pv,vI e]∧Inv n M S s':=by
 obtain ⟨s',e,c,U⟩:=c391 N.n N.m N.FD N.nn _ s rfl I a b fa.ok fb.ok fa.wf fb.wf fa.lG fb.lG
 simp at c
 by_cases he:e=0
 · refine ⟨s',0,?_,(U he).1⟩
   subst he
   rw [au (af:=g385) rfl rfl (by decide)]
   simp [g385,c]
 · refine ⟨s,e,?_,I⟩
   rw [au (af:=g385) rfl rfl (by decide)]
   simp [g385,c,he]
end Go.Ab.Lw
namespace Go.Ab.Lw
open Ev
theorem I_ {n M:Nat} {S:List Int} {s:dS} (I:Inv n M S s) {i:Nat} {o x:Sl} (ho:s.sl[i]?=some o) (hb:x.bd=o.bd) (ht:x.ty=o.ty):Inv n (M+1) S (gD s i o x) where
 len:=by rw [cC,List.length_set,I.len]
 JF:=by rw [lH,cC,p6 ho hb];have:=I.JF;omega
 ok:=by
   intro y hy
   rw [cC] at hy
   rcases mem_set hy with rfl | hy
   · rw [ht];exact I.ok o (bo ho)
   · exact I.ok y hy
 lG:=by
   intro y hy
   rw [cC] at hy
   rcases mem_set hy with rfl | hy
   · rw [ht];exact I.lG o (bo ho)
   · exact I.lG y hy
 I7:=by rw [cC];exact xW I.I7 ho hb ht
 wf:=by
   intro y hy
   rw [cC] at hy
   rcases mem_set hy with rfl | hy
   · rw [ht];exact I.wf o (bo ho)
   · exact I.wf y hy
theorem Inv.gE {n M M':Nat} {S S':List Int} {s:dS} (I:Inv n M S s) (h:M≤M') (hS:∀w∈S,w∈S'):Inv n M' S' s:=⟨I.len,by have:=I.JF;omega,I.ok,fun x hx w ho=>hS w (I.lG x hx w ho),I.I7,I.wf⟩
theorem c394 {n M:Nat} {S:List Int} (N:QG n M S) (hS:∀w∈S,w<n) {s:dS} (I:Inv n M S s) {t:Ty} (ft:Fit S t):∃s',(aN AP).p 394 [s.pv,t.pv]=some [s'.pv]∧Inv n (M+1) S s':=by
 have hl:=I.len
 have hn:=N.n
 have hM:=N.m
 have hsm:Sm s.sl:=by unfold Sm;omega
 have k3:=c386 hsm (t:=t)
 have xo:∀w,gU (wk s.sl (s.sl.length+1) t) w→w∈S:=j8 I.lG ft.lG
 generalize wk s.sl (s.sl.length+1) t=x at *
 by_cases k:x.kind=1
 · have ho:=xo _ (.var k)
   have h0:=N.nn _ ho
   have h1:=hS _ ho
   obtain ⟨i,hi⟩:∃i:Nat,x.id=i:=⟨x.id.toNat,by omega⟩
   have hil:i<s.sl.length:=by omega
   obtain ⟨o,hoo⟩:=bn hil
   have c:=c393 I.JG hn (by omega) hoo ⟨o.bd,o.ty,o.home,true⟩
   refine ⟨_,?_,I_ I hoo (x:=⟨o.bd,o.ty,o.home,true⟩) rfl rfl⟩
   generalize gD s i o ⟨o.bd,o.ty,o.home,true⟩=s1 at *
   simp [k,hi] at k3
   simp at c
   rw [au (af:=g394) rfl rfl (by decide)]
   simp (disch:=omega) [-getElem?_pos,g394,k3,hil,hoo,c]
 · refine ⟨s,?_,I.gE (by omega) (fun _ h=>h)⟩
   simp at k3
   rw [au (af:=g394) rfl rfl (by decide)]
   simp [g394,k3,k]
def ew (n:Nat):List Int:=(List.range n).map fun k:Nat=>(k:Int)
theorem eE {n:Nat} {w:Int}:w∈ew n↔0≤w∧w<n:=by
 simp only [ew,List.mem_map,List.mem_range]
 constructor
 · rintro ⟨k,h,rfl⟩;omega
 · intro h;exact ⟨w.toNat,by omega,by omega⟩
theorem NF {n M:Nat} (hn:n≤1000000) (hM:M≤100000000):QG n M (ew n):=⟨hn,hM,by simp [ew];omega,fun w h=>(eE.1 h).1⟩
theorem tv {n M:Nat} {s:dS} (I:Inv n M (ew n) s) (home:Int) (b:Bool) {M':Nat} (hM:M+ub s.sl+n+4≤M'):Inv (n+1) M' (ew (n+1)) (dq s home b) where
 len:=by simp [dq,I.len]
 JF:=by
   have:=I.JF
   have hu:ub (dq s home b).sl=ub s.sl+1:=by simp [dq,ub,List.countP_append]
   have ht:(dq s home b).tr.length=s.tr.length+1:=by simp [dq]
   rw [hu,ht]
   have:(n+1+2)*(ub s.sl+1)=(n+2)*ub s.sl+ub s.sl+n+3:=by rw [Nat.mul_add,Nat.add_right_comm n 1 2,Nat.add_mul (n+2) 1];omega
   omega
 ok:=by
   intro x hx
   simp [dq] at hx
   rcases hx with hx | rfl
   · exact I.ok x hx
   · exact cW rfl
 lG:=by
   intro x hx w ho
   simp [dq] at hx
   rcases hx with hx | rfl
   · have:=eE.1 (I.lG x hx w ho);exact eE.2 (by omega)
   · cases ho with
     | var q=>simp [bR] at q
     | arg _ ha _=>simp [bR] at ha
 I7:=IN I.I7 rfl
 wf:=by
   intro x hx
   simp [dq] at hx
   rcases hx with hx | rfl
   · exact I.wf x hx
   · exact ⟨by simp [bR],by simp [bR]⟩
end Go.Ab.Lw
namespace Go.Ab.Lw
open Ev
mutual
def Ty.lX (l:List bV):Ty→Ty
 | ⟨k,n,i,h,as⟩=>if k=5∧0≤kR l n then dm (kR l n) else ⟨k,n,i,h,Ty.Ja l as⟩
def Ty.Ja (l:List bV):List Ty→List Ty
 | []=>[]
 | a::r=>a.lX l::Ty.Ja l r
end
theorem Ty.x_ (l:List bV):∀as:List Ty,Ty.Ja l as=as.map (Ty.lX l)
 | []=>by simp [Ty.Ja]
 | a::r=>by simp [Ty.Ja,Ty.x_ l r]
theorem Ty.BL (l:List bV) (t:Ty):t.lX l=if t.kind=5∧0≤kR l t.name then dm (kR l t.name) else ⟨t.kind,t.name,t.id,t.home,t.args.map (Ty.lX l)⟩:=by
 cases t;simp only [Ty.lX,Ty.x_]
theorem Ps {l:List bV} {t:Ty} (hS:Sm t.args) (h:∀x∈t.args,(aN AP).p 198 [x.pv,.aD (l.map .str)]=some [(x.lX l).pv]):∀(n i:Nat),t.args.length-i=n→i≤t.args.length→∀acc:List Ty,acc=(t.args.take i).map (Ty.lX l) →
   cl AP g198L0 ⟨[(1,.pv (.aD (l.map .str))),(2,.az 2 0),(4,.az 4 0),(6,.az 6 0),(7,.pv (vI i))],
     [(2,K6 t),(4,[.pv (vI 0),.pv (.str []),.pv (vI 0),.pv (vI 0),.own [] 0]),(6,[.pv (vI t.kind),.pv (.str t.name),.pv (vI t.id),.pv (vI t.home),.own (acc.map Ty.pv) 1])],[],[0,acc.length]⟩ =
     some (.exit 0,⟨[(1,.pv (.aD (l.map .str))),(2,.az 2 0),(4,.az 4 0),(6,.az 6 0),(7,.pv (vI t.args.length)),(26,.pv (.bool false))],
     [(2,K6 t),(4,[.pv (vI 0),.pv (.str []),.pv (vI 0),.pv (vI 0),.own [] 0]),(6,[.pv (vI t.kind),.pv (.str t.name),.pv (vI t.id),.pv (vI t.home),.own ((t.args.map (Ty.lX l)).map Ty.pv) 1])],[],[0,t.args.length]⟩)
 | 0,i,hn,hi,acc,ha=>by
   have:i=t.args.length:=by omega
   subst this
   subst ha
   rw [g198L0e]
   simp [g198B0]
 | n+1,i,hn,hi,acc,ha=>by
   have hi:i<t.args.length:=by omega
   obtain ⟨x,hx⟩:=bn hi
   unfold Sm at hS
   have hb:(acc.length+1)*64≤140737488355328:=by subst ha;simp;omega
   have hc:=h x (bo hx)
   have ih:=Ps hS h n (i+1) (by omega) (by omega) (acc++[x.lX l]) (by rw [List.take_add_one,hx,ha];simp)
   rw [g198L0e] at ih ⊢
   simp at ih hc
   simp (disch:=omega) [-getElem?_pos,g198B0,hx,hi,hc,hb,aq]
   rw [g198L0e]
   simp [ih]
theorem c198 {l:List bV} (hl:Sm l) {t:Ty} (hO:t.Ok) (hC:t.Cw):(aN AP).p 198 [t.pv,.aD (l.map .str)]=some [(t.lX l).pv]:=by
 revert hO hC
 refine Ty.eD (p:=fun t=>t.Ok→t.Cw→(aN AP).p 198 [t.pv,.aD (l.map .str)]=some [(t.lX l).pv]) ?_ t
 intro t ih hO hC
 have k1:=c216 hl (y:=t.name)
 have k2:=c72 (n:=kR l t.name)
 have h:=Ps hO.sm (fun x hx=>ih x hx (hO.fw x hx) (hC.fw x hx)) t.args.length 0 (by omega) (by omega) [] (by simp)
 rw [au (af:=g198) rfl rfl (by decide),Ty.BL]
 rw [g198L0e] at h
 simp at k2 h
 by_cases e1:t.kind=5
 · have ea:=hC.bare (by rw [e1];decide)
   by_cases e2:0≤kR l t.name
   · simp [g198,k1,e1,e2,k2,dm]
   · simp [g198,k1,e1,e2,ea]
 · simp [g198,e1,g198L0e,h]
end Go.Ab.Lw
