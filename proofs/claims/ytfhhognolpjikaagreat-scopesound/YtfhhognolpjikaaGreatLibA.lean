import Derived.Test.YtfhhognolpjikaaGreatCodeA
import Derived.Test.YtfhhognolpjikaaGreatAbBridge
import Derived.Test.YtfhhognolpjikaaGreatAbForce
import Derived.KernelRfl
/-
  The program's data.
  The makers: what their functions Gq.
  The makers: what their functions Gq.
  The data declarations that programs are made of: what the reader makes of their text.
  The makers: data declarations, chosen by bits.
  The makers: types and substitutions off the tape.
  Types and substitutions: what replaces variables.
  Types: rebuilding with new leaves.
  Types and substitutions: the program's replacing, finding, composing.
  Substitutions: composing; equality of types and of substitutions.
  Chapter 13: the plain laws, and the law that composition composes.
  Chapter 13: equality of substitutions; the laws SubstAssociates and SubstEqual.
  Functions of package slices over any elements.
  Ranges over a slice backward.
  Which types are valid.
  Contexts: their entries; looking names up.
  slices.EqualFunc and slices.Clip over any elements.
  What the pure data of a parameter looks M3.
  Chapter 3: what its laws make; the laws TypesValid and TypesEqual.
  The variables of types, by the program and by the reference.
  The reference's variables of types; they are the program's.
  Contexts: schemes, adding, hidden entries; what law 19 makes.
  Law 19 makes contexts; the law EnvironLooks.
  The maker of types over any list of data types.
  Correct types in declarations.
  Expressions.
  The reference's store of type variables: what it looks M3, bound variables, walks.
  The reference's store: sizes and resolved types.
  The reference's store: resolving, new variables, changes.
  slices.DeleteFunc over an array of texts that may be written.
  Arrays of structs in shared memory: their cells one behind the other.
  Chapter 13: valid and idempotent substitutions.
  The reference's store: a slot is set.
  The reference's unifier: arrows, rigid constants, variables of a store, joining.
  The reference's store: acyclic stores.
  The reference's store: a finder Iz.
  The reference's store: a finder finds every variable that is reached and not bound.
  Expressions: children, the part at a path, and the names that are bound.
  Expressions: other children.
  slices.DeleteFunc over an array of texts that may be written: all of it.
  scope.Visible: one step inward.
  The names that are visible at a path.
  Chapter 9: where a constructor is.
  Scopes: to which declaration bt belong.
  Scopes: the errors of a case itself, by the reference.
  Scopes: the errors of a case itself, by the program.
  Scopes: the first error of an expression.
  Positions are numbered.
  The reference's store: the variables of a type.
  Chapter 3: opening.
  Contexts: their free variables; the law EnvironSeen.
  Types by the kinds of their nodes.
  The reference's unifier: joining two variables.
  The reference's unifier: joining two variables, the walk.
  The reference's unifier: binding a variable, the loops.
  The reference's unifier: binding a variable.
  The reference's unifier: binding a variable, the walk.
  The reference's unifier: ends of walks, the loop over the arguments.
  The reference's unifier.
  The reference's unifier, from outside; marking a variable.
  The search's reference: a variable is marked; new variables a9 a store fit.
  Chapter 9: written type variables become quantified ones.
  Chapter 9: the names of written type variables.
  Raw expressions: what the maker gives.
  The maker of raw expressions.
  Chapter 9: what its laws make.
  Chapter 9: declarations off the tape.
-/
set_option linter.unusedVariables false
set_option linter.unusedSimpArgs false
set_option maxRecDepth 100000
set_option maxHeartbeats 8000000
namespace Go.Ab.Lw
structure Ty where
 kind:Int
 name:List UInt8
 id:Int
 home:Int
 args:List Ty
 deriving Inhabited
noncomputable instance:DecidableEq Ty:=fun _ _=>Classical.propDecidable _
mutual
def Ty.pv:Ty→PV
 | ⟨k,n,i,h,as⟩=>.agg [.int .i64 k,.str n,.int .i64 i,.int .i64 h,.aD (Ty.dt as)]
def Ty.dt:List Ty→List PV
 | []=>[]
 | a::r=>a.pv::Ty.dt r
end
theorem Ty.m_:∀l:List Ty,Ty.dt l=l.map Ty.pv
 | []=>by simp [Ty.dt]
 | a::r=>by simp [Ty.dt,Ty.m_ r]
@[simp] theorem Ty.kI (t:Ty):t.pv=.agg [.int .i64 t.kind,.str t.name,.int .i64 t.id,.int .i64 t.home,.aD (t.args.map Ty.pv)]:=by
 cases t;simp only [Ty.pv,Ty.m_]
theorem Ty.eE {p:Ty→Prop} (h:∀t:Ty,(∀x∈t.args,p x)→p t):∀t,p t
 | ⟨k,n,i,hm,as⟩=>h _ (fun x _hx=>Ty.eE h x)
termination_by t=>SizeOf.sizeOf t
decreasing_by have:=_root_.List.sizeOf_lt_of_mem _hx;simp at *;omega
structure gR where
 pos:Int
 name:List UInt8
 fields:List Ty
 deriving Inhabited
structure Dt where
 pos:Int
 name:List UInt8
 params:List (List UInt8)
 cons:List gR
 deriving Inhabited
def gR.pv (c:gR):PV:=.agg [.int .i64 c.pos,.str c.name,.aD (c.fields.map Ty.pv)]
def Dt.pv (d:Dt):PV:=.agg [.int .i64 d.pos,.str d.name,.aD (d.params.map .str),.aD (d.cons.map gR.pv)]
@[simp] theorem gR.kI (c:gR):c.pv=.agg [.int .i64 c.pos,.str c.name,.aD (c.fields.map Ty.pv)]:=rfl
@[simp] theorem Dt.kI (d:Dt):d.pv=.agg [.int .i64 d.pos,.str d.name,.aD (d.params.map .str),.aD (d.cons.map gR.pv)]:=rfl
structure As where
 id:Int
 ty:Ty
 deriving Inhabited
def As.pv (a:As):PV:=.agg [.int .i64 a.id,.int .i64 a.ty.kind,.str a.ty.name,.int .i64 a.ty.id,.int .i64 a.ty.home,.aD (a.ty.args.map Ty.pv)]
@[simp] theorem As.kI (a:As):a.pv=.agg [.int .i64 a.id,.int .i64 a.ty.kind,.str a.ty.name,.int .i64 a.ty.id,.int .i64 a.ty.home,.aD (a.ty.args.map Ty.pv)]:=rfl
@[simp] theorem As.eta (t:As):As.mk t.id t.ty=t:=rfl
abbrev vI (n:Int):PV:=.int .i64 n
def tp (L:List Int) (i:Int):Sh:=[some [.pv (.aD (L.map vI)),.pv (vI i)]]
@[simp] theorem Q2 (L:List Int) (i:Int):tp L i=[some [.pv (.aD (L.map vI)),.pv (vI i)]]:=rfl
def Sm {α:Type} (l:List α):Prop:=l.length<1099511627776
def Rj {α:Type} (l:List α):Prop:=l.length≤9223372036854775807
@[simp] theorem QG (n:Nat):((n:Int)<0)↔False:=by simp
@[simp] theorem Qr (n:Nat):((n:Int)+1<0)↔False:=by simp;omega
theorem bL {α:Type} {l:List α} {i:Nat} {x:α} (h:l[i]?=some x):l.drop i=x::l.drop (i+1):=by
 obtain ⟨hi,rfl⟩:=List.getElem?_eq_some_iff.1 h
 exact List.drop_eq_getElem_cons hi
theorem bp {α:Type} {l:List α} {i:Nat} (h:i<l.length):∃x,l[i]?=some x:=⟨_,List.getElem?_eq_getElem h⟩
theorem bm {α:Type} {l:List α} {i:Nat} {x:α} (h:l[i]?=some x):x∈l:=List.mem_of_getElem? h
theorem xE {α:Type} {l:List α} {i:Nat} (h:l.length≤i):l.drop i=[]:=List.drop_eq_nil_of_le h
end Go.Ab.Lw
namespace Go.Ab.Lw
open Ev
theorem c26 {n m:Int} (h1:1≤m) (h2:m<4611686018427387904):∃r,(aP AP).p 26 [vI n,vI m]=some [vI r]∧0≤r∧r<m:=by
 rw [aq (af:=g26) rfl rfl (by decide)]
 have a1:=Int.tmod_lt_of_pos n (show 0<m by omega)
 have a2:=Int.lt_tmod_of_pos n (show 0<m by omega)
 have e1:¬m<1:=by omega
 have e2:¬m=0:=by omega
 by_cases h:n.tmod m<0
 · refine ⟨n.tmod m+m,?_,by omega,by omega⟩
   simp (disch:=omega) [g26,e1,e2,h,au]
 · refine ⟨n.tmod m,?_,by omega,by omega⟩
   simp [g26,e1,e2,h]
theorem c63 {n:Int}:(aP AP).p 63 [vI n]=some [(Ty.mk 1 [] n 0 []).pv]:=by
 rw [aq (af:=g63) rfl rfl (by decide)]
 simp [g63]
theorem c71 {n m:Int}:(aP AP).p 71 [vI n,vI m]=some [(Ty.mk 3 [] m n []).pv]:=by
 rw [aq (af:=g71) rfl rfl (by decide)]
 simp [g71]
theorem c72 {n:Int}:(aP AP).p 72 [vI n]=some [(Ty.mk 2 [] n 0 []).pv]:=by
 rw [aq (af:=g72) rfl rfl (by decide)]
 simp [g72]
theorem c62 {s:List UInt8} {l:List Ty} (h:Sm l):(aP AP).p 62 [.str s,.aD (l.map Ty.pv)]=some [(Ty.mk 4 s 0 0 l).pv]:=by
 unfold Sm at h
 rw [aq (af:=g62) rfl rfl (by decide)]
 cases l with
 | nil=>simp [g62]
 | cons a r=>
   have:(r.length+1)*64≤140737488355328:=by simp at h;omega
   simp [g62,this]
theorem c34:(aP AP).p 34 []=some [(Ty.mk 4 [73,110,116] 0 0 []).pv]:=by
 rw [aq (af:=g34) rfl rfl (by decide)]
 have h:=c62 (s:=[73,110,116]) (l:=[]) (by simp [Sm])
 simp at h
 simp [g34,h]
theorem c69 {a b:Ty}:(aP AP).p 69 [a.pv,b.pv]=some [(Ty.mk 4 [45,62] 0 0 [a,b]).pv]:=by
 rw [aq (af:=g69) rfl rfl (by decide)]
 have h:=c62 (s:=[45,62]) (l:=[a,b]) (by simp [Sm])
 simp at h
 simp [g69,h]
theorem c15 {l:List Int}:(aP AP).p 15 [.aD (l.map vI)]=some [.bool (decide (l.length≤60))]:=by
 rw [aq (af:=g15) rfl rfl (by decide)]
 simp [g15]
 omega
end Go.Ab.Lw
namespace Go.Ab.Lw
open Ev
def cd (n:Int):Ty:=⟨1,[],n,0,[]⟩
def na (h n:Int):Ty:=⟨3,[],n,h,[]⟩
def dd (n:Int):Ty:=⟨2,[],n,0,[]⟩
def br:Ty:=⟨4,[73,110,116],0,0,[]⟩
end Go.Ab.Lw
namespace Go.Ab.Lw
def OZ:List UInt8:=[100,97,116,97,32,66,111,111,108,32,61,32,84,114,117,101,32,124,32,70,97,108,115,101,59,32,100,97,116,97,32,79,112,116,105,111,110,32,97,32,61,32,78,111,110,101,32,124,32,83,111,109,101,32,97,59,32,100,97,116,97,32,76,105,115,116,32,97,32,61,32,78,105,108,32,124,32,67,111,110,115,32,97,32,40,76,105,115,116,32,97,41,59,100,97,116,97,32,80,97,105,114,32,97,32,98,32,61,32,80,97,105,114,32,97,32,98,59,32,100,97,116,97,32,78,97,116,32,61,32,90,101,114,111,32,124,32,83,117,99,99,32,78,97,116,59,32,100,97,116,97,32,70,117,110,32,97,32,98,32,61,32,70,117,110,32,40,97,32,45,62,32,98,41,59,32,100,97,116,97,32,84,119,111,32,97,32,61,32,66,111,116,104,32,97,32,97,32,124,32,79,110,101,32,40,79,112,116,105,111,110,32,97,41,59]
def L8:List PV:=[.aD [.agg [.int .i64 4,.str [100,97,116,97],.int .i64 0],.agg [.int .i64 2,.str [66,111,111,108],.int .i64 5],.agg [.int .i64 5,.str [61],.int .i64 10],.agg [.int .i64 2,.str [84,114,117,101],.int .i64 12],.agg [.int .i64 5,.str [124],.int .i64 17],.agg [.int .i64 2,.str [70,97,108,115,101],.int .i64 19],.agg [.int .i64 5,.str [59],.int .i64 24],.agg [.int .i64 4,.str [100,97,116,97],.int .i64 26],.agg [.int .i64 2,.str [79,112,116,105,111,110],.int .i64 31],.agg [.int .i64 1,.str [97],.int .i64 38],.agg [.int .i64 5,.str [61],.int .i64 40],.agg [.int .i64 2,.str [78,111,110,101],.int .i64 42],.agg [.int .i64 5,.str [124],.int .i64 47],.agg [.int .i64 2,.str [83,111,109,101],.int .i64 49],.agg [.int .i64 1,.str [97],.int .i64 54],.agg [.int .i64 5,.str [59],.int .i64 55],.agg [.int .i64 4,.str [100,97,116,97],.int .i64 57],.agg [.int .i64 2,.str [76,105,115,116],.int .i64 62],.agg [.int .i64 1,.str [97],.int .i64 67],.agg [.int .i64 5,.str [61],.int .i64 69],.agg [.int .i64 2,.str [78,105,108],.int .i64 71],.agg [.int .i64 5,.str [124],.int .i64 75],.agg [.int .i64 2,.str [67,111,110,115],.int .i64 77],.agg [.int .i64 1,.str [97],.int .i64 82],.agg [.int .i64 5,.str [40],.int .i64 84],.agg [.int .i64 2,.str [76,105,115,116],.int .i64 85],.agg [.int .i64 1,.str [97],.int .i64 90],.agg [.int .i64 5,.str [41],.int .i64 91],.agg [.int .i64 5,.str [59],.int .i64 92],.agg [.int .i64 4,.str [100,97,116,97],.int .i64 93],.agg [.int .i64 2,.str [80,97,105,114],.int .i64 98],.agg [.int .i64 1,.str [97],.int .i64 103],.agg [.int .i64 1,.str [98],.int .i64 105],.agg [.int .i64 5,.str [61],.int .i64 107],.agg [.int .i64 2,.str [80,97,105,114],.int .i64 109],.agg [.int .i64 1,.str [97],.int .i64 114],.agg [.int .i64 1,.str [98],.int .i64 116],.agg [.int .i64 5,.str [59],.int .i64 117],.agg [.int .i64 4,.str [100,97,116,97],.int .i64 119],.agg [.int .i64 2,.str [78,97,116],.int .i64 124],.agg [.int .i64 5,.str [61],.int .i64 128],.agg [.int .i64 2,.str [90,101,114,111],.int .i64 130],.agg [.int .i64 5,.str [124],.int .i64 135],.agg [.int .i64 2,.str [83,117,99,99],.int .i64 137],.agg [.int .i64 2,.str [78,97,116],.int .i64 142],.agg [.int .i64 5,.str [59],.int .i64 145],.agg [.int .i64 4,.str [100,97,116,97],.int .i64 147],.agg [.int .i64 2,.str [70,117,110],.int .i64 152],.agg [.int .i64 1,.str [97],.int .i64 156],.agg [.int .i64 1,.str [98],.int .i64 158],.agg [.int .i64 5,.str [61],.int .i64 160],.agg [.int .i64 2,.str [70,117,110],.int .i64 162],.agg [.int .i64 5,.str [40],.int .i64 166],.agg [.int .i64 1,.str [97],.int .i64 167],.agg [.int .i64 5,.str [45,62],.int .i64 169],.agg [.int .i64 1,.str [98],.int .i64 172],.agg [.int .i64 5,.str [41],.int .i64 173],.agg [.int .i64 5,.str [59],.int .i64 174],.agg [.int .i64 4,.str [100,97,116,97],.int .i64 176],.agg [.int .i64 2,.str [84,119,111],.int .i64 181],.agg [.int .i64 1,.str [97],.int .i64 185],.agg [.int .i64 5,.str [61],.int .i64 187],.agg [.int .i64 2,.str [66,111,116,104],.int .i64 189],.agg [.int .i64 1,.str [97],.int .i64 194],.agg [.int .i64 1,.str [97],.int .i64 196],.agg [.int .i64 5,.str [124],.int .i64 198],.agg [.int .i64 2,.str [79,110,101],.int .i64 200],.agg [.int .i64 5,.str [40],.int .i64 204],.agg [.int .i64 2,.str [79,112,116,105,111,110],.int .i64 205],.agg [.int .i64 1,.str [97],.int .i64 212],.agg [.int .i64 5,.str [41],.int .i64 213],.agg [.int .i64 5,.str [59],.int .i64 214]],.agg [.int .i64 0,.int .i64 0]]
def cu:List Dt:=[⟨0,[66,111,111,108],[],[⟨12,[84,114,117,101],[]⟩,⟨19,[70,97,108,115,101],[]⟩]⟩,
 ⟨26,[79,112,116,105,111,110],[[97]],[⟨42,[78,111,110,101],[]⟩,⟨49,[83,111,109,101],[⟨5,[97],0,0,[]⟩]⟩]⟩,
 ⟨57,[76,105,115,116],[[97]],[⟨71,[78,105,108],[]⟩,⟨77,[67,111,110,115],[⟨5,[97],0,0,[]⟩,⟨4,[76,105,115,116],0,0,[⟨5,[97],0,0,[]⟩]⟩]⟩]⟩,
 ⟨93,[80,97,105,114],[[97],[98]],[⟨109,[80,97,105,114],[⟨5,[97],0,0,[]⟩,⟨5,[98],0,0,[]⟩]⟩]⟩,
 ⟨119,[78,97,116],[],[⟨130,[90,101,114,111],[]⟩,⟨137,[83,117,99,99],[⟨4,[78,97,116],0,0,[]⟩]⟩]⟩,
 ⟨147,[70,117,110],[[97],[98]],[⟨162,[70,117,110],[⟨4,[45,62],0,0,[⟨5,[97],0,0,[]⟩,⟨5,[98],0,0,[]⟩]⟩]⟩]⟩,
 ⟨176,[84,119,111],[[97]],[⟨189,[66,111,116,104],[⟨5,[97],0,0,[]⟩,⟨5,[97],0,0,[]⟩]⟩,⟨200,[79,110,101],[⟨4,[79,112,116,105,111,110],0,0,[⟨5,[97],0,0,[]⟩]⟩]⟩]⟩]
theorem O0:(aP AP).p 118 [.str OZ]=some L8:=Fc.QF (k:=400) (n:=20) (by kernel_rfl)
def Q3 (g:Nat) (x:List PV):Option (List PV):=match g,x with
 | 118,[.str s]=>if s=OZ then some L8 else none
 | _,_=>none
theorem Nu:∀g x r,Q3 g x=some r→(aP AP).p g x=some r:=by
 intro g x r h
 unfold Q3 at h
 split at h
 · split at h
   · rename_i e;subst e;cases h;exact O0
   · cases h
 · cases h
theorem c79:(aP AP).p 79 []=some [.aD (cu.map Dt.pv)]:=Fc.L7 (k:=400) (n:=40) Nu (by kernel_rfl)
end Go.Ab.Lw
namespace Go.Ab.Lw
open Ev
@[simp] theorem Od {l:List Dt}:bH 4 (l.map Dt.pv)=true:=by cases l<;>simp
@[simp] theorem Oe {l:List Ty}:bH 5 (l.map Ty.pv)=true:=by cases l<;>simp
@[simp] theorem Of {l:List As}:bH 6 (l.map As.pv)=true:=by cases l<;>simp
theorem IA {n:Int} (h1:0≤n) (h2:n<18446744073709551616):IntKind.u64.wrap n=n:=by
 simp [IntKind.wrap,IntKind.bits,IntKind.signed]
 omega
def O1 (bits:Int) (ds:List Dt):Option (a6×St):=
 some (.exit 0,⟨[(0,.pv (vI bits)),(3,.pv (.aD (cu.map Dt.pv))),(4,.own (ds.map Dt.pv) 0),(5,.pv (vI 7)),(24,.pv (.bool false))],[],[],[ds.length]⟩)
theorem Qs (bits:Int):∀(n i:Nat),7-i=n→i≤7→∀acc:List Dt,(∀d∈acc,d∈cu)→acc.length≤1+i →
   ∃ds:List Dt,cl AP g32L0 ⟨[(0,.pv (vI bits)),(3,.pv (.aD (cu.map Dt.pv))),(4,.own (acc.map Dt.pv) 0),(5,.pv (vI i))],[],[],[acc.length]⟩=O1 bits ds ∧
     (∀d∈ds,d∈cu)∧ds.length≤8
 | 0,i,hn,hi,acc,ha,hl=>by
   have:i=7:=by omega
   subst this
   refine ⟨acc,?_,ha,by omega⟩
   rw [g32L0e]
   have h7:cu.length=7:=rfl
   simp [g32B0,h7,O1]
 | n+1,i,hn,hi,acc,ha,hl=>by
   have h7:cu.length=7:=rfl
   have hi:i<7:=by omega
   obtain ⟨x,hx⟩:=bp (l:=cu) (i:=i) (by omega)
   have hb:(acc.length+1)*72≤140737488355328:=by omega
   obtain ⟨d1,e1,m1,l1⟩:=Qs bits n (i+1) (by omega) (by omega) (acc++[x]) (by
     intro d hd;simp at hd;rcases hd with hd | rfl
     · exact ha d hd
     · exact bm hx) (by simp;omega)
   obtain ⟨d2,e2,m2,l2⟩:=Qs bits n (i+1) (by omega) (by omega) acc ha (by omega)
   simp at e1 e2
   have hi':(i:Int)<7:=by omega
   have key:∀S,S=cl AP g32L0 ⟨[(0,.pv (vI bits)),(3,.pv (.aD (cu.map Dt.pv))),(4,.own (acc.map Dt.pv) 0),(5,.pv (vI i))],[],[],[acc.length]⟩→S=O1 bits d1∨S=O1 bits d2:=by
     intro S hS
     rw [g32L0e] at hS
     simp (disch:=omega) [-getElem?_pos,g32B0,h7,hi',hx,au,IA,hb,e1,e2] at hS
     subst hS
     (repeat' split)<;>simp
   rcases key _ rfl with h | h
   · exact ⟨d1,h,m1,l1⟩
   · exact ⟨d2,h,m2,l2⟩
theorem c32 (bits:Int):∃ds:List Dt,(aP AP).p 32 [vI bits]=some [.aD (ds.map Dt.pv)]∧(∀d∈ds,d∈cu)∧ds.length≤8:=by
 have hp:=c79
 have h7:cu.length=7:=rfl
 obtain ⟨x,hx⟩:=bp (l:=cu) (i:=1) (by decide)
 obtain ⟨d1,e1,m1,l1⟩:=Qs bits 7 0 rfl (by omega) [x] (by intro d hd;simp at hd;subst hd;exact bm hx) (by simp)
 obtain ⟨d2,e2,m2,l2⟩:=Qs bits 7 0 rfl (by omega) [] (by simp) (by simp)
 rw [g32L0e] at e1 e2
 simp at e1 e2
 have key:∀S,S=(aP AP).p 32 [vI bits]→S=some [.aD (d1.map Dt.pv)]∨S=some [.aD (d2.map Dt.pv)]:=by
   intro S hS
   rw [aq (af:=g32) rfl rfl (by decide)] at hS
   simp [-getElem?_pos,g32,hp,g32L0e,hx,e1,e2,O1] at hS
   subst hS
   (repeat' split)<;>simp
 rcases key _ rfl with h | h
 · exact ⟨d1,h,m1,l1⟩
 · exact ⟨d2,h,m2,l2⟩
end Go.Ab.Lw
namespace Go.Ab.Lw
open Ev
inductive Made (lv:Ty→Prop):Ty→Prop
 | leaf {t:Ty}:lv t→Made lv t
 | int:Made lv br
 | gq {d:Dt} {args:List Ty}:d∈cu→args.length=d.params.length→(∀x∈args,Made lv x)→Made lv ⟨4,d.name,0,0,args⟩
 | arrow {a b:Ty}:Made lv a→Made lv b→Made lv ⟨4,[45,62],0,0,[a,b]⟩
def Ty.av (t:Ty):AV:=.agg [.pv (vI t.kind),.pv (.str t.name),.pv (vI t.id),.pv (vI t.home),.pv (.aD (t.args.map Ty.pv))]
@[simp] theorem Ty.Q4 (t:Ty):t.av=.agg [.pv (vI t.kind),.pv (.str t.name),.pv (vI t.id),.pv (vI t.home),.pv (.aD (t.args.map Ty.pv))]:=rfl
def sB (L:List Int) (ds:List Dt) (lv:List Ty) (dep:Nat):Prop:=∀i:Nat,i≤L.length→∃(t:Ty) (j:Nat),
 (aP AP).i 27 [.aX 0 0,.pv (.aD (ds.map Dt.pv)),.pv (.aD (lv.map Ty.pv)),.pv (vI dep)] (tp L i) []=some ([t.av],tp L j,[])∧Made (·∈lv) t∧j≤L.length
theorem jS {r:Int} {n:Nat} (h0:0≤r) (h1:r<n):∃m:Nat,r=m∧m<n:=⟨r.toNat,by omega,by omega⟩
end Go.Ab.Lw
namespace Go.Ab.Lw
open Ev
inductive Ty.Ok:Ty→Prop
 | mk {t:Ty}:Sm t.args→(∀x∈t.args,Ty.Ok x)→Ty.Ok t
theorem Ty.Ok.sm {t:Ty} (h:t.Ok):Sm t.args:=by cases h;assumption
theorem Ty.Ok.fM {t:Ty} (h:t.Ok):∀x∈t.args,x.Ok:=by cases h;assumption
inductive Ty.Wf:Ty→Prop
 | mk {t:Ty}:(t.kind=1→t.args=[])→(∀x∈t.args,Ty.Wf x)→Ty.Wf t
theorem Ty.Wf.var {t:Ty} (h:t.Wf):t.kind=1→t.args=[]:=by cases h;assumption
theorem Ty.Wf.fM {t:Ty} (h:t.Wf):∀x∈t.args,x.Wf:=by cases h;assumption
def ke:List As→Int→Option Ty
 | [],_=>none
 | a::r,id=>if a.id=id then some a.ty else ke r id
mutual
def Ty.sub (s:List As):Ty→Ty
 | ⟨k,n,i,h,as⟩=>if k=1 then (ke s i).getD ⟨k,n,i,h,as⟩ else ⟨k,n,i,h,Ty.IB s as⟩
def Ty.IB (s:List As):List Ty→List Ty
 | []=>[]
 | a::r=>a.sub s::Ty.IB s r
end
theorem Ty.xF (s:List As):∀l:List Ty,Ty.IB s l=l.map (Ty.sub s)
 | []=>by simp [Ty.IB]
 | a::r=>by simp [Ty.IB,Ty.xF s r]
theorem Ty.sub_eq (s:List As) (t:Ty):t.sub s=if t.kind=1 then (ke s t.id).getD t else ⟨t.kind,t.name,t.id,t.home,t.args.map (Ty.sub s)⟩:=by
 cases t;simp only [Ty.sub,Ty.xF]
def IC (s:List As) (t:Ty):Option Ty→Option (a6×St)
 | some a=>some (.ret,⟨[(4,.az 4 0)],[(4,[.pv (vI a.kind),.pv (.str a.name),.pv (vI a.id),.pv (vI a.home),.pv (.aD (a.args.map Ty.pv))])],[],[0]⟩)
 | none=>some (.exit 0,⟨[(1,.pv (.aD (s.map As.pv))),(2,.az 2 0),(4,.az 4 0),(5,.pv (vI s.length)),(14,.pv (.bool false))],
     [(2,[.pv (vI t.kind),.pv (.str t.name),.pv (vI t.id),.pv (vI t.home),.pv (.aD (t.args.map Ty.pv))]),(4,[.pv (vI 0),.pv (.str []),.pv (vI 0),.pv (vI 0),.own [] 0])],[],[0]⟩)
theorem O2 {s:List As} (hS:Sm s) (t:Ty):∀(n i:Nat),s.length-i=n→i≤s.length →
   cl AP g46L0 ⟨[(1,.pv (.aD (s.map As.pv))),(2,.az 2 0),(4,.az 4 0),(5,.pv (vI i))],
     [(2,[.pv (vI t.kind),.pv (.str t.name),.pv (vI t.id),.pv (vI t.home),.pv (.aD (t.args.map Ty.pv))]),(4,[.pv (vI 0),.pv (.str []),.pv (vI 0),.pv (vI 0),.own [] 0])],[],[0]⟩=IC s t (ke (s.drop i) t.id)
 | 0,i,hn,hi=>by
   have:i=s.length:=by omega
   subst this
   rw [g46L0e]
   simp [g46B0,ke,IC]
 | n+1,i,hn,hi=>by
   have hi:i<s.length:=by omega
   obtain ⟨x,hx⟩:=bp hi
   unfold Sm at hS
   have ih:=O2 hS t n (i+1) (by omega) (by omega)
   simp at ih
   rw [g46L0e,bL hx]
   by_cases e:x.id=t.id
   · simp (disch:=omega) [-getElem?_pos,g46B0,hx,hi,e,ke,IC]
   · simp (disch:=omega) [-getElem?_pos,g46B0,hx,hi,e,ke,au,ih]
theorem O3 {s:List As} {t:Ty} (hS:Sm t.args) (h:∀x∈t.args,(aP AP).p 46 [x.pv,.aD (s.map As.pv)]=some [(x.sub s).pv]):∀(n i:Nat),t.args.length-i=n→i≤t.args.length→∀acc:List Ty,acc=(t.args.take i).map (Ty.sub s) →
   cl AP g46L1 ⟨[(1,.pv (.aD (s.map As.pv))),(2,.az 2 0),(4,.az 4 0),(6,.az 6 0),(7,.pv (vI i))],
     [(2,[.pv (vI t.kind),.pv (.str t.name),.pv (vI t.id),.pv (vI t.home),.pv (.aD (t.args.map Ty.pv))]),(4,[.pv (vI 0),.pv (.str []),.pv (vI 0),.pv (vI 0),.own [] 0]),
       (6,[.pv (vI t.kind),.pv (.str t.name),.pv (vI t.id),.pv (vI t.home),.own (acc.map Ty.pv) 1])],[],[0,acc.length]⟩ =
     some (.exit 2,⟨[(1,.pv (.aD (s.map As.pv))),(2,.az 2 0),(4,.az 4 0),(6,.az 6 0),(7,.pv (vI t.args.length)),(37,.pv (.bool false))],
     [(2,[.pv (vI t.kind),.pv (.str t.name),.pv (vI t.id),.pv (vI t.home),.pv (.aD (t.args.map Ty.pv))]),(4,[.pv (vI 0),.pv (.str []),.pv (vI 0),.pv (vI 0),.own [] 0]),
       (6,[.pv (vI t.kind),.pv (.str t.name),.pv (vI t.id),.pv (vI t.home),.own ((t.args.map (Ty.sub s)).map Ty.pv) 1])],[],[0,t.args.length]⟩)
 | 0,i,hn,hi,acc,ha=>by
   have:i=t.args.length:=by omega
   subst this
   subst ha
   rw [g46L1e]
   simp [g46B1]
 | n+1,i,hn,hi,acc,ha=>by
   have hi:i<t.args.length:=by omega
   obtain ⟨x,hx⟩:=bp hi
   unfold Sm at hS
   have hb:(acc.length+1)*64≤140737488355328:=by subst ha;simp;omega
   have hc:=h x (bm hx)
   have ih:=O3 hS h n (i+1) (by omega) (by omega) (acc++[x.sub s]) (by rw [List.take_add_one,hx,ha];simp)
   rw [g46L1e] at ih ⊢
   simp at ih hc
   simp (disch:=omega) [-getElem?_pos,g46B1,hx,hi,hc,hb,au]
   rw [g46L1e]
   simp [ih]
theorem c46 {s:List As} (hS:Sm s) {t:Ty} (hO:t.Ok):(aP AP).p 46 [t.pv,.aD (s.map As.pv)]=some [(t.sub s).pv]:=by
 revert hO
 refine Ty.eE (p:=fun t=>t.Ok→(aP AP).p 46 [t.pv,.aD (s.map As.pv)]=some [(t.sub s).pv]) ?_ t
 intro t ih hO
 rw [aq (af:=g46) rfl rfl (by decide)]
 by_cases hk:t.kind=1
 · have h:=O2 hS t _ 0 rfl (by omega)
   rw [g46L0e] at h
   simp at h
   cases hf:ke s t.id with
   | none=>
     rw [hf] at h
     simp [IC,hk] at h
     simp [g46,hk,g46L0e,h,Ty.sub_eq,hf]
   | some a=>
     rw [hf] at h
     simp [IC,hk] at h
     simp [g46,hk,g46L0e,h,Ty.sub_eq,hf]
 · have h:=O3 (s:=s) hO.sm (fun x hx=>ih x hx (hO.fM x hx)) _ 0 rfl (by omega) [] (by simp)
   rw [g46L1e] at h
   simp at h
   simp [g46,hk,g46L1e,h,Ty.sub_eq]
end Go.Ab.Lw
namespace Go.Ab.Lw
open Ev
def a7 (sh:Sh):Prop:=∀cs,some cs∈sh→∀v∈cs,∃p,v=AV.pv p
theorem gk {aQ ts:aL}:∀{cs:List AV},(∀v∈cs,∃p,v=AV.pv p)→bz aQ ts cs=(cs,aQ,ts)
 | [],_=>rfl
 | v::r,h=>by
   obtain ⟨p,rfl⟩:=h v (by simp)
   simp only [qJ,wE,gk (cs:=r) (fun v hv=>h v (by simp [hv]))]
theorem a7.norm:∀{sh:Sh},a7 sh→∀aQ ts,bC aQ ts sh=(sh,aQ,ts)
 | [],_,_,_=>rfl
 | none::sh,h,aQ,ts=>by
   simp only [qK,a7.norm (sh:=sh) (fun cs hc=>h cs (by simp [hc]))]
 | some cs::sh,h,aQ,ts=>by
   simp only [qL,gk (h cs (by simp)),a7.norm (sh:=sh) (fun cs hc=>h cs (by simp [hc]))]
theorem n_ {n:Nat}:∀{cs:List AV},(∀v∈cs,∃p,v=AV.pv p)→cs.map (cz n)=cs
 | [],_=>rfl
 | v::r,h=>by
   obtain ⟨p,rfl⟩:=h v (by simp)
   simp only [List.map_cons,sR,n_ (cs:=r) (fun v hv=>h v (by simp [hv]))]
theorem a7.shift:∀{sh:Sh},a7 sh→∀n,eB n sh=sh
 | [],_,_=>rfl
 | none::sh,h,n=>by
   simp only [o_,a7.shift (sh:=sh) (fun cs hc=>h cs (by simp [hc]))]
 | some cs::sh,h,n=>by
   simp only [pa,n_ (h cs (by simp)),a7.shift (sh:=sh) (fun cs hc=>h cs (by simp [hc]))]
theorem a7.app {a b:Sh} (ha:a7 a) (hb:a7 b):a7 (a++b):=by
 intro cs hc
 simp only [List.mem_append] at hc
 rcases hc with hc | hc
 · exact ha cs hc
 · exact hb cs hc
theorem a7.one {cs:List AV} (h:∀v∈cs,∃p,v=AV.pv p):a7 [some cs]:=by
 intro cs' hc
 simp at hc
 subst hc
 exact h
@[simp] theorem QH {α:Type} {l:List α} {x:α}:(l++[x])[l.length]?=some x:=by simp
def Ty.cl (t:Ty):List AV:=[.pv (vI t.kind),.pv (.str t.name),.pv (vI t.id),.pv (vI t.home),.pv (.aD (t.args.map Ty.pv))]
def Qt:List AV:=[.pv (vI 0),.pv (.str []),.pv (vI 0),.pv (vI 0),.pv (.aD [])]
def jc (d:List Ty) (m:Nat):List AV:=d.flatMap Ty.cl++(List.replicate m Qt).flatten
theorem ID {d:List Ty}:(d.flatMap Ty.cl).length=d.length*5:=by
 induction d with
 | nil=>rfl
 | cons a r ih=>simp [ih,Ty.cl,Nat.add_mul]
theorem Li {m:Nat}:((List.replicate m Qt).flatten).length=m*5:=by
 simp [Qt]
theorem xG {d:List Ty} {m:Nat}:(jc d m).length=(d.length+m)*5:=by
 simp only [jc,List.length_append,ID,Li,Nat.add_mul]
theorem uM {d:List Ty} {m:Nat}:∀v∈jc d m,∃p,v=AV.pv p:=by
 intro v hv
 simp only [jc,List.mem_append,List.mem_flatMap,List.mem_flatten,List.mem_replicate] at hv
 rcases hv with ⟨t,_,hv⟩ | ⟨l,⟨_,rfl⟩,hv⟩
 · simp [Ty.cl] at hv
   rcases hv with rfl | rfl | rfl | rfl | rfl<;>exact ⟨_,rfl⟩
 · simp [Qt] at hv
   rcases hv with rfl | rfl | rfl | rfl | rfl<;>exact ⟨_,rfl⟩
theorem dh {l:List AV} (h:∀v∈l,∃p,v=.pv p):cQ l=false:=by
 cases l with
 | nil=>rfl
 | cons c r=>obtain ⟨p,rfl⟩:=h c (by simp);rfl
@[simp] theorem Og {d:List Ty} {m:Nat}:cQ (jc d m)=false:=dh uM
theorem IE {a b:List AV} {x y:List PV} (ha:eL a=some x) (hb:eL b=some y):eL (a++b)=some (x++y):=by
 induction a generalizing x with
 | nil=>simp at ha;subst ha;exact hb
 | cons v r ih=>
   simp only [nR] at ha
   simp only [List.cons_append,nR]
   cases h1:ji v with
   | none=>rw [h1] at ha;cases ha
   | some p=>
     cases h2:eL r with
     | none=>rw [h1,h2] at ha;cases ha
     | some q=>
       rw [h1,h2] at ha
       simp at ha
       subst ha
       rw [ih h2];rfl
theorem IF:∀{d:List Ty},((eL (jc d 0)).bind (eA 5 true d.length)).map PV.aD=some (.aD (d.map Ty.pv)):=by
 have key:∀d:List Ty,∃ps,eL (d.flatMap Ty.cl)=some ps∧(chunk 5 d.length ps).map PV.agg=d.map Ty.pv:=by
   intro d
   induction d with
   | nil=>exact ⟨[],rfl,rfl⟩
   | cons t r ih=>
     obtain ⟨ps,h1,h2⟩:=ih
     refine ⟨[vI t.kind,.str t.name,vI t.id,vI t.home,.aD (t.args.map Ty.pv)]++ps,?_,?_⟩
     · rw [List.flatMap_cons]
       exact IE (by simp [Ty.cl]) h1
     · simp only [List.length_cons,chunk]
       simp [h2]
 intro d
 obtain ⟨ps,h1,h2⟩:=key d
 have:jc d 0=d.flatMap Ty.cl:=by simp [jc]
 rw [this,h1]
 simp only [Option.bind_some,eA,if_true,Option.map_some,h2]
end Go.Ab.Lw
namespace Go.Ab.Lw
open Ev
theorem c22 {s:List As} (hS:Sm s) {t:Ty} (hO:t.Ok):(aP AP).p 22 [.aD (s.map As.pv),t.pv]=some [(t.sub s).pv]:=by
 have h:=c46 hS hO
 simp at h
 rw [aq (af:=g22) rfl rfl (by decide)]
 simp [g22,h]
end Go.Ab.Lw
namespace Go.Ab.Lw
open Ev
noncomputable instance:DecidableEq As:=fun _ _=>Classical.propDecidable _
theorem Q5 {as bs:List Ty} (hS:Sm as) (hl:as.length=bs.length) (h:∀x∈as,∀y,(aP AP).p 20 [x.pv,y.pv]=some [.bool (decide (x=y))]):∀(n i:Nat),as.length-i=n→i≤as.length →
   cl AP g57L0 ⟨[(0,.pv (.aD (as.map Ty.pv))),(1,.pv (.aD (bs.map Ty.pv))),(5,.pv (.int .i64 i))],[],[],[]⟩ =
     if as.drop i=bs.drop i then some (.exit 0,⟨[(0,.pv (.aD (as.map Ty.pv))),(1,.pv (.aD (bs.map Ty.pv))),(5,.pv (.int .i64 as.length)),(14,.pv (.bool false))],[],[],[]⟩)
     else some (.ret,⟨[(4,.pv (.bool false))],[],[],[]⟩)
 | 0,i,hn,hi=>by
   have:i=as.length:=by omega
   subst this
   rw [g57L0e]
   simp [g57B0,hl]
 | n+1,i,hn,hi=>by
   have hi:i<as.length:=by omega
   obtain ⟨x,hx⟩:=bp hi
   obtain ⟨y,hy⟩:=bp (hl ▸ hi)
   have hc:=h x (bm hx) y
   simp at hc
   rw [g57L0e,bL hx,bL hy]
   unfold Sm at hS
   have ih:=Q5 hS hl h n (i+1) (by omega) (by omega)
   simp at ih
   simp (disch:=omega) [-getElem?_pos,g57B0,hx,hy,hi,hc,au,ih]
   by_cases e:x=y<;>simp [e]
theorem c57 {as bs:List Ty} (hS:Sm as) (h:∀x∈as,∀y,(aP AP).p 20 [x.pv,y.pv]=some [.bool (decide (x=y))]) :
   (aP AP).p 57 [.aD (as.map Ty.pv),.aD (bs.map Ty.pv)]=some [.bool (decide (as=bs))]:=by
 rw [aq (af:=g57) rfl rfl (by decide)]
 by_cases hl:as.length=bs.length
 · have hL:=Q5 hS hl h _ 0 rfl (by omega)
   simp at hL
   simp [g57,hl,hL]
   by_cases e:as=bs<;>simp [e]
 · have:¬as=bs:=fun e=>hl (by rw [e])
   simp [g57,hl,this]
   omega
theorem c20 {a b:Ty} (hO:a.Ok):(aP AP).p 20 [a.pv,b.pv]=some [.bool (decide (a=b))]:=by
 revert b hO
 refine Ty.eE (p:=fun a=>∀{b:Ty},a.Ok→(aP AP).p 20 [a.pv,b.pv]=some [.bool (decide (a=b))]) ?_ a
 intro a ih b hO
 have h:=c57 (bs:=b.args) hO.sm (fun x hx y=>ih x hx (hO.fM x hx))
 rw [aq (af:=g20) rfl rfl (by decide)]
 simp [g20,h]
 cases a;cases b
 simp
 (repeat' split)<;>simp_all
end Go.Ab.Lw
namespace Go.Ab.Lw
open Ev
theorem ly:∀{s:List As} {id:Int} {t:Ty},ke s id=some t→∃a∈s,a.ty=t
 | a::r,id,t,h=>by
   simp only [ke] at h
   split at h
   · cases h;exact ⟨a,by simp,rfl⟩
   · obtain ⟨b,hb,e⟩:=ly h;exact ⟨b,by simp [hb],e⟩
theorem Bx {s:List As} (hs:∀a∈s,a.ty.Ok) {t:Ty} (h:t.Ok):(t.sub s).Ok:=by
 revert h
 refine Ty.eE (p:=fun t=>t.Ok→(t.sub s).Ok) ?_ t
 intro t ih h
 rw [Ty.sub_eq]
 split
 · cases hf:ke s t.id with
   | none=>simpa using h
   | some a=>obtain ⟨b,hb,rfl⟩:=ly hf;simpa using hs b hb
 · refine ⟨by have:=h.sm;unfold Sm at *;simpa using this,?_⟩
   intro x hx
   simp at hx
   obtain ⟨y,hy,rfl⟩:=hx
   exact ih y hy (h.fM y hy)
theorem uN:∀{a b:List As} {id:Int},ke (a++b) id=(ke a id).or (ke b id)
 | [],b,id=>by simp [ke]
 | x::a,b,id=>by
   simp only [List.cons_append,ke]
   split
   · rfl
   · exact uN
end Go.Ab.Lw
namespace Go.Ab.Lw
open Ev
def cA {α:Type} (p:α→Bool):List α→Option Nat
 | []=>none
 | a::r=>if p a=true then some 0 else (cA p r).map (·+1)
theorem lz {α:Type} {p:α→Bool}:∀{l:List α},cA p l=none↔∀x∈l,p x=false
 | []=>by simp [cA]
 | a::r=>by
   simp only [cA]
   by_cases h:p a=true
   · simp [h]
   · have h:p a=false:=by simpa using h
     simp [h,lz]
end Go.Ab.Lw
namespace Go.Ab.Lw
open Ev
structure El {α:Type} (f:α→PV) (sz:Nat) (ag:Bool):Prop where
 len:∀x,(bw (f x)).length=sz
 of:∀x,cK ag sz (bw (f x))=some (.pv (f x))
theorem El.head {α:Type} {f:α→PV} {sz:Nat} {ag:Bool} (h:El f sz ag) (l:List α):bH sz (l.map f)=true:=by
 cases l with
 | nil=>rfl
 | cons x r=>simp [bH,h.len x]
theorem jT:El vI 1 false:=⟨fun _=>rfl,fun _=>rfl⟩
theorem IG:El PV.str 1 false:=⟨fun _=>rfl,fun _=>rfl⟩
theorem Ce:El Ty.pv 5 true:=⟨fun x=>by simp,fun x=>by simp⟩
theorem O4:El Dt.pv 4 true:=⟨fun x=>by simp,fun x=>by simp⟩
def uO (sz:Nat) (ag:Bool):aw:=
 (.seq
  (.ae [⟨some 9,none,[.t 8,.t 7],.v (.bin .lss)⟩] [0,1,7,8,9])
  (.seq
   (.cond (.t 9)
    .skip
    (.exit 0))
   (.seq
    (.block 1
     (.seq
      (.ae [⟨some 10,none,[.t 8],.v (.mv)⟩,
        ⟨some 5,none,[.t 10],.v (.mv)⟩] [0,1,5,7,8])
      (.seq
       (.ae [⟨some 11,none,[.t 1],.v (.mv)⟩,
         ⟨some 12,none,[.t 0],.v (.mv)⟩,
         ⟨some 13,none,[.t 5],.v (.mv)⟩,
         ⟨some 14,none,[.t 12,.t 13],.v (.aE sz)⟩,
         ⟨some 15,none,[.t 14],.aZ sz ag⟩,
         ⟨some 16,none,[.t 11,.t 15],.eK⟩] [0,1,5,7,8,16])
       (.cond (.t 16)
        (.seq
         (.ae [⟨some 17,none,[.t 5],.v (.mv)⟩,
           ⟨some 4,none,[.t 17],.v (.mv)⟩] [4])
         .ret)
        .skip))))
    (.ae [⟨some 18,none,[.t 8,.c (.pv (.int .i64 1))],.v (.bin .add)⟩,
      ⟨some 8,none,[.t 18],.v (.mv)⟩] [0,1,7,8]))))
def II (sz:Nat) (ag:Bool):aw:=.loop [0,1,7,8] (uO sz ag)
theorem nb {sz:Nat} {ag:Bool} {st:St}:cl AP (II sz ag) st=after (cl AP (II sz ag)) (cl AP (uO sz ag) (norm (restrict [0,1,7,8] st))):=aF
def q_ (sz:Nat) (ag:Bool):aH:=⟨2,19,[.t 4],
 (.seq
  (.ae [⟨some 4,none,[.c (.pv (.int .i64 0))],.v (.mv)⟩] [0,1])
  (.seq
   (.seq
    (.ae [⟨some 6,none,[.t 0],.v (.mv)⟩,
      ⟨some 7,none,[.t 6],.v (.len)⟩,
      ⟨some 8,none,[.c (.pv (.int .i64 0))],.v (.mv)⟩] [0,1,7,8])
    (.block 0
     (II sz ag)))
   (.seq
    (.ae [⟨some 4,none,[.c (.pv (.int .i64 (-1)))],.v (.mv)⟩] [4])
    .ret))),none,false⟩
def Nv {α:Type} (F:AV) (sh:Sh) (f:α→PV) (p:α→Bool) (s:List α):Prop:=∀x∈s,exec (aP AP) .eK [F,.pv (f x)] none sh []=some ⟨.pv (.bool (p x)),none,sh,[]⟩
def FG {α:Type} (f:α→PV) (F:AV) (s:List α) (sh:Sh) (i:Nat):Option Nat→Option (a6×St)
 | some k=>some (.ret,⟨[(4,.pv (vI (i+k:Nat)))],[],sh,[]⟩)
 | none=>some (.exit 0,⟨[(0,.pv (.aD (s.map f))),(1,F),(7,.pv (vI s.length)),(8,.pv (vI s.length)),(9,.pv (.bool false))],[],sh,[]⟩)
theorem O5 {α:Type} {f:α→PV} {sz:Nat} {ag:Bool} (he:El f sz ag) {s:List α} (hS:Sm s) {sh:Sh} (hq:a7 sh) {g:Nat} {cap:List AV} {p:α→Bool} (hcap:bE.dQ cap=true)
   (hf:Nv (.fn g cap) sh f p s):∀(n i:Nat),s.length-i=n→i≤s.length →
   cl AP (II sz ag) ⟨[(0,.pv (.aD (s.map f))),(1,.fn g cap),(7,.pv (vI s.length)),(8,.pv (vI i))],[],sh,[]⟩=FG f (.fn g cap) s sh i (cA p (s.drop i))
 | 0,i,hn,hi=>by
   have:i=s.length:=by omega
   subst this
   rw [nb]
   simp [uO,cA,FG,hq.norm,hcap]
 | n+1,i,hn,hi=>by
   have hi:i<s.length:=by omega
   obtain ⟨x,hx⟩:=bp hi
   unfold Sm at hS
   have ih:=O5 he hS hq hcap hf n (i+1) (by omega) (by omega)
   simp at ih
   have hc:=hf x (bm hx)
   rw [nb,bL hx]
   cases e:p x with
   | true=>
     rw [e] at hc
     simp (disch:=omega) [-getElem?_pos,-eg,uO,hx,hi,e,cA,FG,hq.norm,hc,hcap,he.len,he.of]
   | false=>
     rw [e] at hc
     simp (disch:=omega) [-getElem?_pos,-eg,uO,hx,hi,e,cA,au,hq.norm,hc,ih,hcap,he.len,he.of]
     cases cA p (s.drop (i+1)) with
     | none=>rfl
     | some k=>simp [FG];omega
def jd (o:Option Nat):Int:=match o with | some k=>k | none=>-1
theorem QI {α:Type} {f:α→PV} {sz:Nat} {ag:Bool} (he:El f sz ag) {k:Nat} (hk:AP k=some (q_ sz ag)) {s:List α} (hS:Sm s) {sh:Sh} (hq:a7 sh) {g:Nat} {cap:List AV} {p:α→Bool} (hcap:bE.dQ cap=true)
   (hf:Nv (.fn g cap) sh f p s):(aP AP).i k [.pv (.aD (s.map f)),.fn g cap] sh []=some ([.pv (vI (jd (cA p s)))],sh,[]):=by
 have h:=O5 he hS hq hcap hf _ 0 rfl (by omega)
 simp at h
 rw [aK hk (by simp [q_])]
 cases hi:cA p s with
 | none=>rw [hi] at h;simp [FG] at h;simp [q_,h,hq.norm,hcap,jd]
 | some k=>rw [hi] at h;simp [FG] at h;simp [q_,h,hq.norm,hcap,jd]
theorem xH {α:Type} {p:α→Bool} {s:List α}:decide (0≤jd (cA p s))=s.any p:=by
 cases hi:cA p s with
 | none=>
   have:s.any p=false:=by rw [List.any_eq_false];intro x hx;rw [lz.1 hi x hx];simp
   rw [this];rfl
 | some k=>
   have:s.any p=true:=by
     cases e:s.any p with
     | true=>rfl
     | false=>rw [List.any_eq_false] at e;have:=lz.2 (fun x hx=>by simpa using e x hx);rw [hi] at this;cases this
   rw [this];simp [jd]
end Go.Ab.Lw
namespace Go.Ab.Lw
open Ev
def By (f:St→Option (a6×St)) (live:List Nat) (pi px sz:Nat) (ag:Bool) (env:List (Nat×AV)) (r:List (PV×Nat)):Option (a6×St)→Option (a6×St)
 | some (.normal,st')=>iy f live pi px sz ag env r st'
 | some (e,st')=>some (e,{ st' with env:=env })
 | none=>none
@[simp] theorem JU {f:St→Option (a6×St)} {live:List Nat} {pi px sz:Nat} {ag:Bool} {env:List (Nat×AV)} {r:List (PV×Nat)} {st:St}:By f live pi px sz ag env r (some (.normal,st))=iy f live pi px sz ag env r st:=rfl
@[simp] theorem Nw {f:St→Option (a6×St)} {live:List Nat} {pi px sz:Nat} {ag:Bool} {env e:List (Nat×AV)} {r:List (PV×Nat)} {mem:List (Nat×List AV)} {sh:Sh} {ah:aL}:By f live pi px sz ag env r (some (.ret,⟨e,mem,sh,ah⟩))=some (.ret,⟨env,mem,sh,ah⟩):=rfl
@[simp] theorem L9 {f:St→Option (a6×St)} {live:List Nat} {pi px sz:Nat} {ag:Bool} {env e:List (Nat×AV)} {r:List (PV×Nat)} {mem:List (Nat×List AV)} {sh:Sh} {ah:aL} {id:Nat}:By f live pi px sz ag env r (some (.exit id,⟨e,mem,sh,ah⟩))=some (.exit id,⟨env,mem,sh,ah⟩):=rfl
@[simp] theorem Oh {f:St→Option (a6×St)} {live:List Nat} {pi px sz:Nat} {ag:Bool} {env e:List (Nat×AV)} {mem:List (Nat×List AV)} {sh:Sh} {ah:aL}:iy f live pi px sz ag env [] ⟨e,mem,sh,ah⟩=some (.normal,⟨env,mem,sh,ah⟩):=rfl
def QJ (g:St→Option (a6×St)):Option (a6×St)→Option (a6×St)
 | some (.normal,st')=>g st'
 | _=>none
@[simp] theorem L_ {g:St→Option (a6×St)} {st:St}:QJ g (some (.normal,st))=g st:=rfl
end Go.Ab.Lw
namespace Go.Ab.Lw
open Ev
inductive Ty.Nm:Ty→Prop
 | mk {t:Ty}:Rj t.name→(∀x∈t.args,Ty.Nm x)→Ty.Nm t
end Go.Ab.Lw
namespace Go.Ab.Lw
open Ev
abbrev Sc:=As
structure En where
 name:List UInt8
 sc:Sc
 deriving Inhabited
def En.pv (a:En):PV:=.agg [.str a.name,.int .i64 a.sc.id,.int .i64 a.sc.ty.kind,.str a.sc.ty.name,.int .i64 a.sc.ty.id,.int .i64 a.sc.ty.home,.aD (a.sc.ty.args.map Ty.pv)]
@[simp] theorem En.kI (a:En):a.pv=.agg [.str a.name,.int .i64 a.sc.id,.int .i64 a.sc.ty.kind,.str a.sc.ty.name,.int .i64 a.sc.ty.id,.int .i64 a.sc.ty.home,.aD (a.sc.ty.args.map Ty.pv)]:=rfl
@[simp] theorem En.eta (t:En):En.mk t.name t.sc=t:=rfl
theorem O6:El En.pv 7 true:=⟨fun x=>by simp,fun x=>by simp⟩
noncomputable instance:DecidableEq En:=fun _ _=>Classical.propDecidable _
@[simp] theorem Oi {l:List En}:bH 7 (l.map En.pv)=true:=O6.head l
def mi:Sc:=⟨0,⟨0,[],0,0,[]⟩⟩
def Cf:List En→List UInt8→Option Sc
 | [],_=>none
 | a::r,s=>match Cf r s with
   | some c=>some c
   | none=>if a.name=s then some a.sc else none
theorem IJ (l:List En) (a:En) (s:List UInt8):Cf (l++[a]) s=if a.name=s then some a.sc else Cf l s:=by
 induction l with
 | nil=>simp [Cf]
 | cons b r ih=>
   simp only [List.cons_append,Cf,ih]
   by_cases h:a.name=s
   · simp [h]
   · simp [h]
def Lj (o:Option Sc):List PV:=[(o.getD mi).pv,.bool o.isSome]
theorem O7 {l:List En} (hS:Sm l) {s:List UInt8}:∀(k:Nat),k≤l.length →
   cl AP g181L0 ⟨[(0,.pv (.aD (l.map En.pv))),(1,.pv (.str s)),(4,.az 4 0),(6,.pv (vI ((k:Int)-1)))],[(4,[.pv (vI 0),.pv (vI 0),.pv (.str []),.pv (vI 0),.pv (vI 0),.own [] 0])],[],[0]⟩ =
     match Cf (l.take k) s with
     | some c=>some (.ret,⟨[(4,.az 4 0),(5,.pv (.bool true))],[(4,[.pv (vI c.id),.pv (vI c.ty.kind),.pv (.str c.ty.name),.pv (vI c.ty.id),.pv (vI c.ty.home),.pv (.aD (c.ty.args.map Ty.pv))])],[],[0]⟩)
     | none=>some (.exit 0,⟨[(0,.pv (.aD (l.map En.pv))),(1,.pv (.str s)),(4,.az 4 0),(6,.pv (vI (-1))),(11,.pv (.bool false))],[(4,[.pv (vI 0),.pv (vI 0),.pv (.str []),.pv (vI 0),.pv (vI 0),.own [] 0])],[],[0]⟩)
 | 0,_=>by
   rw [g181L0e]
   simp [g181B0,Cf]
 | k+1,hk=>by
   obtain ⟨x,hx⟩:=bp (l:=l) (i:=k) (by omega)
   have ih:=O7 hS (s:=s) k (by omega)
   unfold Sm at hS
   have e1:((k+1:Nat):Int)-1=k:=by omega
   rw [g181L0e,e1,List.take_add_one,hx]
   simp only [Option.toList_some,IJ]
   by_cases e:x.name=s
   · simp (disch:=omega) [-getElem?_pos,g181B0,hx,e]
   · simp (disch:=omega) [-getElem?_pos,g181B0,hx,e,au]
     simpa using ih
theorem c181 {l:List En} (hS:Sm l) {s:List UInt8}:(aP AP).p 181 [.aD (l.map En.pv),.str s]=some (Lj (Cf l s)):=by
 have h:=O7 hS (s:=s) l.length (Nat.le_refl _)
 unfold Sm at hS
 rw [aq (af:=g181) rfl rfl (by decide)]
 rw [List.take_length] at h
 rw [g181L0e] at h
 cases e:Cf l s with
 | none=>
   rw [e] at h
   simp at h
   simp (disch:=omega) [g181,au,g181L0e,h,Lj,mi]
 | some c=>
   rw [e] at h
   simp at h
   simp (disch:=omega) [g181,au,g181L0e,h,Lj]
end Go.Ab.Lw
namespace Go.Ab.Lw
open Ev
structure Oj {α:Type} (f:α→PV) (cs:α→List PV) (sz:Nat):Prop where
 eq:∀x,f x=.agg (cs x)
 len:∀x,(cs x).length=sz
 leaf:∀x,((cs x).map AV.pv).all bf=true
def O8 (z1 z2:List PV) (s1 s2:Nat):aw:=
 (.seq
  (.ae [⟨some 18,none,[.t 17,.t 16],.v (.bin .lss)⟩] [1,2,15,16,17,18])
  (.seq
   (.cond (.t 18)
    .skip
    (.exit 0))
   (.seq
    (.block 1
     (.seq
      (.ae [⟨some 19,none,[.t 17],.v (.mv)⟩,
        ⟨some 20,none,[.t 15,.t 17],.v (.aE s1)⟩,
        ⟨some 21,none,[.t 20],.aZ s1 true⟩,
        ⟨some 8,none,[],.alloc 8 z1⟩,
        ⟨some 7,none,[.t 19],.v (.mv)⟩,
        ⟨none,none,[.t 8,.t 21],.cT 8 0 s1⟩] [1,2,7,8,15,16,17])
      (.seq
       (.ae [⟨some 22,none,[.t 1],.v (.mv)⟩,
         ⟨some 23,none,[.t 7],.v (.mv)⟩,
         ⟨some 24,none,[.t 22,.t 23],.v (.aE s2)⟩,
         ⟨some 25,none,[.t 24],.aZ s2 true⟩,
         ⟨some 9,none,[],.alloc 9 z2⟩,
         ⟨none,none,[.t 9,.t 25],.cT 9 0 s2⟩] [1,2,8,9,15,16,17])
       (.seq
        (.ae [⟨some 26,none,[.t 2],.v (.mv)⟩,
          ⟨some 27,none,[.t 8],.bj 8 0 s1 true⟩,
          ⟨some 28,none,[.t 9],.bj 9 0 s2 true⟩,
          ⟨some 29,none,[.t 26,.t 27,.t 28],.eK⟩,
          ⟨some 30,none,[.t 29],.v (.un .not)⟩] [1,2,15,16,17,30])
        (.cond (.t 30)
         (.seq
          (.ae [⟨some 6,none,[.c (.pv (.bool false))],.v (.mv)⟩] [6])
          .ret)
         .skip)))))
    (.ae [⟨some 31,none,[.t 17,.c (.pv (.int .i64 1))],.v (.bin .add)⟩,
      ⟨some 17,none,[.t 31],.v (.mv)⟩] [1,2,15,16,17]))))
def Qu (z1 z2:List PV) (s1 s2:Nat):aw:=.loop [1,2,15,16,17] (O8 z1 z2 s1 s2)
theorem IK {z1 z2:List PV} {s1 s2:Nat} {st:St}:cl AP (Qu z1 z2 s1 s2) st=after (cl AP (Qu z1 z2 s1 s2)) (cl AP (O8 z1 z2 s1 s2) (norm (restrict [1,2,15,16,17] st))):=aF
def O9 (z1 z2:List PV) (s1 s2:Nat):aH:=⟨3,32,[.t 6],
 (.seq
  (.ae [⟨some 6,none,[.c (.pv (.bool false))],.v (.mv)⟩] [0,1,2])
  (.seq
   (.seq
    (.ae [⟨some 10,none,[.t 0],.v (.mv)⟩,
      ⟨some 11,none,[.t 10],.v (.len)⟩,
      ⟨some 12,none,[.t 1],.v (.mv)⟩,
      ⟨some 13,none,[.t 12],.v (.len)⟩,
      ⟨some 14,none,[.t 11,.t 13],.v (.bin .neq)⟩] [0,1,2,14])
    (.cond (.t 14)
     (.seq
      (.ae [⟨some 6,none,[.c (.pv (.bool false))],.v (.mv)⟩] [6])
      .ret)
     .skip))
   (.seq
    (.seq
     (.ae [⟨some 15,none,[.t 0],.v (.mv)⟩,
       ⟨some 16,none,[.t 15],.v (.len)⟩,
       ⟨some 17,none,[.c (.pv (.int .i64 0))],.v (.mv)⟩] [1,2,15,16,17])
     (.block 0
      (Qu z1 z2 s1 s2)))
    (.seq
     (.ae [⟨some 6,none,[.c (.pv (.bool true))],.v (.mv)⟩] [6])
     .ret)))),none,false⟩
def IL {α β:Type} (F:AV) (sh:Sh) (c:α→List PV) (d:β→List PV) (p:α→β→Bool) (s:List α):Prop:=
 ∀x∈s,∀y,exec (aP AP) .eK [F,.agg ((c x).map .pv),.agg ((d y).map .pv)] none sh []=some ⟨.pv (.bool (p x y)),none,sh,[]⟩
def kf {α β:Type} (p:α→β→Bool):List α→List β→Bool
 | [],[]=>true
 | x::r,y::t=>p x y && kf p r t
 | _,_=>false
theorem xI {α β:Type} {p:α→β→Bool}:∀{a:List α} {b:List β},kf p a b=true→a.length=b.length
 | [],[],_=>rfl
 | x::r,y::t,h=>by simp only [kf,Bool.and_eq_true] at h;simp [xI h.2]
 | [],_::_,h=>by simp [kf] at h
 | _::_,[],h=>by simp [kf] at h
def O_ {α β:Type} (f:α→PV) (g:β→PV) (F:AV) (a:List α) (b:List β) (sh:Sh) (t:Bool):Option (a6×St):=
 if t=true then some (.exit 0,⟨[(1,.pv (.aD (b.map g))),(2,F),(15,.pv (.aD (a.map f))),(16,.pv (vI a.length)),(17,.pv (vI a.length)),(18,.pv (.bool false))],[],sh,[]⟩)
 else some (.ret,⟨[(6,.pv (.bool false))],[],sh,[]⟩)
theorem Q6 {α β:Type} {f:α→PV} {g:β→PV} {c:α→List PV} {d:β→List PV} {s1 s2:Nat} (hf:Oj f c s1) (hg:Oj g d s2) {z1 z2:List PV} (h1:z1.length=s1) (h2:z2.length=s2) {a:List α} {b:List β} (hS:Sm a) (hl:a.length=b.length)
   {sh:Sh} (hq:a7 sh) {k:Nat} {cap:List AV} {p:α→β→Bool} (hcap:bE.dQ cap=true) (hp:IL (.fn k cap) sh c d p a):∀(n i:Nat),a.length-i=n→i≤a.length →
   cl AP (Qu z1 z2 s1 s2) ⟨[(1,.pv (.aD (b.map g))),(2,.fn k cap),(15,.pv (.aD (a.map f))),(16,.pv (vI a.length)),(17,.pv (vI i))],[],sh,[]⟩=O_ f g (.fn k cap) a b sh (kf p (a.drop i) (b.drop i))
 | 0,i,hn,hi=>by
   have:i=a.length:=by omega
   subst this
   rw [IK,xE (l:=b) (by omega),xE (l:=a) (by omega)]
   simp [O8,O_,kf,hq.norm,hcap]
 | n+1,i,hn,hi=>by
   have hi:i<a.length:=by omega
   obtain ⟨x,hx⟩:=bp hi
   obtain ⟨y,hy⟩:=bp (hl ▸ hi)
   unfold Sm at hS
   have ih:=Q6 hf hg h1 h2 hS hl hq hcap hp n (i+1) (by omega) (by omega)
   simp at ih
   have hc:=hp x (bm hx) y
   rw [IK,bL hx,bL hy]
   have u1:=hf.len x
   have u2:=hg.len y
   have e1:(z1.map bM.zeroCell).drop s1=[]:=by rw [List.drop_eq_nil_of_le];simp [h1]
   have e2:(z2.map bM.zeroCell).drop s2=[]:=by rw [List.drop_eq_nil_of_le];simp [h2]
   have t1:((c x).map AV.pv).take s1=(c x).map AV.pv:=by rw [List.take_of_length_le];simp [u1]
   have t2:((d y).map AV.pv).take s2=(d y).map AV.pv:=by rw [List.take_of_length_le];simp [u2]
   have q1:(c x).take s1=c x:=by rw [List.take_of_length_le];omega
   have q2:(d y).take s2=d y:=by rw [List.take_of_length_le];omega
   have w1:=hf.leaf x
   have w2:=hg.leaf y
   cases e:p x y with
   | true=>
     rw [e] at hc
     simp (disch:=omega) [-getElem?_pos,-eg,-List.all_map,-List.map_take,-List.map_drop,-List.map_eq_nil_iff,O8,hx,hy,hi,e,kf,au,hq.norm,hc,ih,hcap,hf.eq,hg.eq,u1,u2,h1,h2,e1,e2,t1,t2,q1,q2,w1,w2]
   | false=>
     rw [e] at hc
     simp (disch:=omega) [-getElem?_pos,-eg,-List.all_map,-List.map_take,-List.map_drop,-List.map_eq_nil_iff,O8,hx,hy,hi,e,kf,O_,hq.norm,hc,hcap,hf.eq,hg.eq,u1,u2,h1,h2,e1,e2,t1,t2,q1,q2,w1,w2]
theorem Rk {α β:Type} {f:α→PV} {g:β→PV} {c:α→List PV} {d:β→List PV} {s1 s2:Nat} (hf:Oj f c s1) (hg:Oj g d s2) {z1 z2:List PV} (h1:z1.length=s1) (h2:z2.length=s2) {m:Nat} (hm:AP m=some (O9 z1 z2 s1 s2)) {a:List α} {b:List β} (hS:Sm a)
   {sh:Sh} (hq:a7 sh) {k:Nat} {cap:List AV} {p:α→β→Bool} (hcap:bE.dQ cap=true) (hp:IL (.fn k cap) sh c d p a) :
   (aP AP).i m [.pv (.aD (a.map f)),.pv (.aD (b.map g)),.fn k cap] sh []=some ([.pv (.bool (kf p a b))],sh,[]):=by
 rw [aK hm (by simp [O9])]
 by_cases hl:a.length=b.length
 · have h:=Q6 hf hg h1 h2 hS hl hq hcap hp _ 0 rfl (by omega)
   simp at h
   cases e:kf p a b with
   | true=>rw [e] at h;simp [O_] at h;simp [O9,h,hq.norm,hcap,hl.symm]
   | false=>rw [e] at h;simp [O_] at h;simp [O9,h,hq.norm,hcap,hl.symm]
 · have e:kf p a b=false:=by
     cases e:kf p a b with
     | true=>exact absurd (xI e) hl
     | false=>rfl
   simp [O9,hq.norm,hcap,hl,e]
   omega
end Go.Ab.Lw
namespace Go.Ab.Lw
section
variable {P:Program} {n:Nat} {t e:TypeId} {p:PV}
theorem pM (hu:P.underlying t=some (.int .i64)) (h:sX P n t p):∃i,p=vI i:=by
 cases n with
 | zero=>simp [sX] at h
 | succ n=>simp only [sX,hu] at h;obtain ⟨i,rfl,_⟩:=h;exact ⟨i,rfl⟩
theorem IM {α:Type} {f:α→PV} (hu:P.underlying t=some (.slice e)) (he:∀(m:Nat) (q:PV),sX P m e q→∃x,q=f x) (h:sX P n t p):∃l:List α,p=.aD (l.map f):=by
 cases n with
 | zero=>simp [sX] at h
 | succ n=>
   simp only [sX,hu] at h
   obtain ⟨els,rfl,_,h⟩:=h
   have key:∀els:List PV,(∀q∈els,sX P n e q)→∃l:List α,els=l.map f:=by
     intro els
     induction els with
     | nil=>intro _;exact ⟨[],rfl⟩
     | cons q r ih=>
       intro h
       obtain ⟨x,rfl⟩:=he n q (h q (by simp))
       obtain ⟨l,rfl⟩:=ih (fun q hq=>h q (by simp [hq]))
       exact ⟨x::l,rfl⟩
   obtain ⟨l,rfl⟩:=key els h
   exact ⟨l,rfl⟩
theorem IN (hu:P.underlying t=some (.slice e)) (he:P.underlying e=some (.int .i64)) (h:sX P n t p):∃L:List Int,p=.aD (L.map vI):=
 IM hu (fun _ _ h=>pM he h) h
end
end Go.Ab.Lw
namespace Go.Ab.Lw
open Ev
def nc (s:List UInt8):Ty:=⟨5,s,0,0,[]⟩
theorem c106 {s:List UInt8}:(aP AP).p 106 [.str s]=some [(nc s).pv]:=by
 rw [aq (af:=g106) rfl rfl (by decide)]
 simp [g106,nc]
def kJ:List Ty:=[nc [97],nc [98],nc [99]]
theorem c67:(aP AP).p 67 []=some [.aD (kJ.map Ty.pv)]:=by
 have h1:=c106 (s:=[97]);have h2:=c106 (s:=[98]);have h3:=c106 (s:=[99])
 simp at h1 h2 h3
 rw [aq (af:=g67) rfl rfl (by decide)]
 simp [g67,h1,h2,h3,kJ]
end Go.Ab.Lw
namespace Go.Ab.Lw
open Ev
def O':aw:=
 (.seq
  (.ae [⟨some 9,none,[.t 8,.t 7],.v (.bin .lss)⟩] [0,1,7,8,9])
  (.seq
   (.cond (.t 9)
    .skip
    (.exit 0))
   (.seq
    (.block 1
     (.seq
      (.ae [⟨some 10,none,[.t 8],.v (.mv)⟩,
        ⟨some 5,none,[.t 10],.v (.mv)⟩] [0,1,5,7,8])
      (.seq
       (.ae [⟨some 11,none,[.t 1],.v (.mv)⟩,
         ⟨some 12,none,[.t 0],.v (.mv)⟩,
         ⟨some 13,none,[.t 5],.v (.mv)⟩,
         ⟨some 14,none,[.t 12,.t 13],.v (.aE 1)⟩,
         ⟨some 15,none,[.t 14],.v (.aN 1 false)⟩,
         ⟨some 16,none,[.t 11,.t 15],.v (.bin .eql)⟩] [0,1,5,7,8,16])
       (.cond (.t 16)
        (.seq
         (.ae [⟨some 17,none,[.t 5],.v (.mv)⟩,
           ⟨some 4,none,[.t 17],.v (.mv)⟩] [4])
         .ret)
        .skip))))
    (.ae [⟨some 18,none,[.t 8,.c (.pv (.int .i64 1))],.v (.bin .add)⟩,
      ⟨some 8,none,[.t 18],.v (.mv)⟩] [0,1,7,8]))))
def Qv:aw:=.loop [0,1,7,8] O'
theorem IP {st:St}:cl AP Qv st=after (cl AP Qv) (cl AP O' (norm (restrict [0,1,7,8] st))):=aF
def Pa:aH:=⟨2,19,[.t 4],
 (.seq
  (.ae [⟨some 4,none,[.c (.pv (.int .i64 0))],.v (.mv)⟩] [0,1])
  (.seq
   (.seq
    (.ae [⟨some 6,none,[.t 0],.v (.mv)⟩,
      ⟨some 7,none,[.t 6],.v (.len)⟩,
      ⟨some 8,none,[.c (.pv (.int .i64 0))],.v (.mv)⟩] [0,1,7,8])
    (.block 0
     Qv))
   (.seq
    (.ae [⟨some 4,none,[.c (.pv (.int .i64 (-1)))],.v (.mv)⟩] [4])
    .ret))),none,false⟩
def QK (g:Nat):aH:=⟨2,9,[.t 4],
 (.seq
  (.ae [⟨some 4,none,[.c (.pv (.bool false))],.v (.mv)⟩] [0,1])
  (.seq
   (.ae [⟨some 5,none,[.t 0],.v (.mv)⟩,
     ⟨some 6,none,[.t 1],.v (.mv)⟩,
     ⟨some 7,none,[.t 5,.t 6],.aB g⟩,
     ⟨some 8,none,[.t 7,.c (.pv (.int .i64 0))],.v (.bin .geq)⟩,
     ⟨some 4,none,[.t 8],.v (.mv)⟩] [4])
   .ret)),none,false⟩
structure Pb {α:Type} [DecidableEq α] (f:α→PV):Prop where
 el:El f 1 false
 eq:∀x y,bM (.bin .eql) [.pv (f x),.pv (f y)]=some (.pv (.bool (decide (x=y))))
theorem eqs_int:Pb vI:=⟨jT,fun x y=>by simp;rw [Bool.eq_iff_iff];simp⟩
theorem Ll:Pb PV.str:=⟨IG,fun x y=>by simp;rw [Bool.eq_iff_iff];simp⟩
def Ol {α:Type} (f:α→PV) (s:List α) (y:α) (i:Nat):Option Nat→Option (a6×St)
 | some k=>some (.ret,⟨[(4,.pv (vI (i+k:Nat)))],[],[],[]⟩)
 | none=>some (.exit 0,⟨[(0,.pv (.aD (s.map f))),(1,.pv (f y)),(7,.pv (vI s.length)),(8,.pv (vI s.length)),(9,.pv (.bool false))],[],[],[]⟩)
theorem Q7 {α:Type} [DecidableEq α] {f:α→PV} (he:Pb f) {s:List α} (hS:Sm s) (y:α):∀(n i:Nat),s.length-i=n→i≤s.length →
   cl AP Qv ⟨[(0,.pv (.aD (s.map f))),(1,.pv (f y)),(7,.pv (vI s.length)),(8,.pv (vI i))],[],[],[]⟩=Ol f s y i (cA (fun x=>decide (y=x)) (s.drop i))
 | 0,i,hn,hi=>by
   have:i=s.length:=by omega
   subst this
   rw [IP]
   simp [O',cA,Ol]
 | n+1,i,hn,hi=>by
   have hi:i<s.length:=by omega
   obtain ⟨x,hx⟩:=bp hi
   unfold Sm at hS
   have ih:=Q7 he hS y n (i+1) (by omega) (by omega)
   simp at ih
   have h1:=he.el.len x
   have h2:=he.el.of x
   have h3:=he.eq y x
   rw [IP,bL hx]
   by_cases e:y=x
   · rw [decide_eq_true e] at h3
     simp (disch:=omega) [-getElem?_pos,O',hx,hi,e,cA,Ol,h1,h2]
     rw [←e] at h3 ⊢
     simp [h3]
   · rw [decide_eq_false e] at h3
     simp (disch:=omega) [-getElem?_pos,O',hx,hi,e,cA,au,ih,h1,h2,h3]
     cases cA (fun x=>decide (y=x)) (s.drop (i+1)) with
     | none=>rfl
     | some k=>simp [Ol];omega
theorem Rl {α:Type} [DecidableEq α] {f:α→PV} (he:Pb f) {k:Nat} (hk:AP k=some Pa) {s:List α} (hS:Sm s) {y:α}:(aP AP).p k [.aD (s.map f),f y]=some [vI (jd (cA (fun x=>decide (y=x)) s))]:=by
 have h:=Q7 he hS y _ 0 rfl (by omega)
 simp at h
 rw [aq hk rfl (by simp [Pa])]
 cases hi:cA (fun x=>decide (y=x)) s with
 | none=>rw [hi] at h;simp [Ol] at h;simp [Pa,h,jd]
 | some k=>rw [hi] at h;simp [Ol] at h;simp [Pa,h,jd]
theorem Lm {α:Type} [DecidableEq α] {s:List α} {y:α}:(s.any fun x=>decide (y=x))=decide (y∈s):=by
 rw [Bool.eq_iff_iff];simp
theorem Q8 {α:Type} [DecidableEq α] {f:α→PV} (he:Pb f) {m k:Nat} (hm:AP m=some (QK k)) (hk:AP k=some Pa) {s:List α} (hS:Sm s) {y:α}:(aP AP).p m [.aD (s.map f),f y]=some [.bool (decide (y∈s))]:=by
 have h:=Rl he hk hS (y:=y)
 rw [aq hm rfl (by simp [QK]),←Lm,←xH]
 simp [QK,h]
theorem c98 {s:List Int} (hS:Sm s) {y:Int}:(aP AP).p 98 [.aD (s.map vI),vI y]=some [.bool (decide (y∈s))]:=Q8 eqs_int (k:=116) rfl rfl hS
theorem Q9 {s:List Int} (hS:Sm s) (y:Int):∀(n i:Nat),s.length-i=n→i≤s.length →
   cl AP g95L0 ⟨[(0,.pv (.aD (s.map vI))),(1,.pv (vI y)),(5,.pv (vI i))],[],[],[]⟩ =
     if y∈s.drop i then some (.ret,⟨[(4,.pv (.bool true))],[],[],[]⟩) else some (.exit 0,⟨[(0,.pv (.aD (s.map vI))),(1,.pv (vI y)),(5,.pv (vI s.length)),(9,.pv (.bool false))],[],[],[]⟩)
 | 0,i,hn,hi=>by
   have:i=s.length:=by omega
   subst this
   rw [g95L0e]
   simp [g95B0]
 | n+1,i,hn,hi=>by
   have hi:i<s.length:=by omega
   obtain ⟨x,hx⟩:=bp hi
   unfold Sm at hS
   have ih:=Q9 hS y n (i+1) (by omega) (by omega)
   simp at ih
   rw [g95L0e,bL hx]
   by_cases e:x=y
   · simp (disch:=omega) [-getElem?_pos,g95B0,hx,hi,e]
   · have e':¬y=x:=fun h=>e h.symm
     simp (disch:=omega) [-getElem?_pos,g95B0,hx,hi,e,e',au,ih]
theorem c95 {s:List Int} (hS:Sm s) {y:Int}:(aP AP).p 95 [.aD (s.map vI),vI y]=some [.bool (decide (y∈s))]:=by
 have h:=Q9 hS y _ 0 rfl (by omega)
 simp at h
 rw [aq (af:=g95) rfl rfl (by decide)]
 by_cases e:y∈s<;>simp [g95,h,e]
mutual
def Ty.nodes:Ty→List Ty
 | ⟨k,n,i,h,as⟩=>⟨k,n,i,h,as⟩::Ty.rb as
def Ty.rb:List Ty→List Ty
 | []=>[]
 | a::r=>a.nodes++Ty.rb r
end
theorem Ty.s8:∀l:List Ty,Ty.rb l=l.flatMap Ty.nodes
 | []=>by simp [Ty.rb]
 | a::r=>by simp [Ty.rb,Ty.s8 r]
theorem Ty.bl (t:Ty):t.nodes=t::t.args.flatMap Ty.nodes:=by cases t;simp only [Ty.nodes,Ty.s8]
theorem fK {α:Type} [DecidableEq α]:∀{l S:List α},l.Nodup→(∀x∈l,x∈S)→l.length≤S.length
 | [],_,_,_=>by simp
 | x::r,S,hn,h=>by
   have hx:=h x (by simp)
   have hr:=fK (l:=r) (S:=S.erase x) (List.nodup_cons.1 hn).2 (fun y hy=>by
     rw [List.mem_erase_of_ne]
     · exact h y (by simp [hy])
     · rintro rfl;exact (List.nodup_cons.1 hn).1 hy)
   have:=List.length_erase_of_mem hx
   have:0<S.length:=List.length_pos_of_mem hx
   simp;omega
def cY (out:List Int) (x:Ty):List Int:=if x.kind=1∧x.id∉out then out++[x.id] else out
structure iu (S out:List Int):Prop where
 nodup:out.Nodup
 sub:∀x∈out,x∈S
 FH:S.length<1099511627776
theorem iu.len {S out:List Int} (h:iu S out):Sm out:=by
 have:=fK h.nodup h.sub
 have:=h.FH
 unfold Sm;omega
theorem iu.add {S out:List Int} (h:iu S out) {x:Ty} (hx:x.kind=1→x.id∈S):iu S (cY out x):=by
 unfold cY
 split
 · rename_i e
   refine ⟨?_,?_,h.FH⟩
   · rw [List.nodup_append]
     refine ⟨h.nodup,by simp,?_⟩
     intro a ha b hb
     simp at hb;subst hb
     rintro rfl;exact e.2 ha
   · intro y hy
     simp at hy
     rcases hy with hy | rfl
     · exact h.sub y hy
     · exact hx e.1
 · exact h
theorem iu.fold {S:List Int}:∀{l:List Ty} {out:List Int},iu S out→(∀x∈l,x.kind=1→x.id∈S)→iu S (l.foldl cY out)
 | [],_,h,_=>h
 | x::r,out,h,hx=>by
   simp only [List.foldl_cons]
   exact iu.fold (h.add (hx x (by simp))) (fun y hy=>hx y (by simp [hy]))
def shO (out:List Int):Sh:=[some [.own (out.map vI) 0]]
theorem c97 {S out:List Int} (h:iu S out) (x:Ty):(aP AP).i 97 [.pv x.pv,.aX 0 0] (shO out) [out.length]=some ([],shO (cY out x),[(cY out x).length]):=by
 have hl:=h.len
 have k:=c98 hl (y:=x.id)
 unfold Sm at hl
 have hb:(out.length+1)*8≤140737488355328:=by omega
 have hh:bH 1 (out.map vI)=true:=jT.head out
 rw [aK (af:=g97) rfl (by simp [g97])]
 by_cases e1:x.kind=1
 · by_cases e2:x.id∈out
   · rw [decide_eq_true e2] at k
     simp [g97,shO,cY,e1,e2,k,hh]
   · rw [decide_eq_false e2] at k
     simp [g97,shO,cY,e1,e2,k,hb,hh]
 · simp [g97,shO,cY,e1]
theorem L96 {S:List Int} {t:Ty} (hS:Sm t.args) (h:∀x∈t.args,∀out,iu S out→(aP AP).i 96 [.pv x.pv,.fn 97 [.aX 0 0]] (shO out) [out.length]=some ([],shO (x.nodes.foldl cY out),[(x.nodes.foldl cY out).length]))
   (hk:∀x∈t.args.flatMap Ty.nodes,x.kind=1→x.id∈S):∀(n i:Nat),t.args.length-i=n→i≤t.args.length→∀out,iu S out →
   cl AP g96L0 ⟨[(1,.fn 97 [.aX 0 0]),(10,.pv (.aD (t.args.map Ty.pv))),(11,.pv (vI t.args.length)),(12,.pv (vI i))],[],shO out,[out.length]⟩ =
     some (.exit 0,⟨[(1,.fn 97 [.aX 0 0]),(10,.pv (.aD (t.args.map Ty.pv))),(11,.pv (vI t.args.length)),(12,.pv (vI t.args.length)),(13,.pv (.bool false))],[],shO (((t.args.drop i).flatMap Ty.nodes).foldl cY out),[(((t.args.drop i).flatMap Ty.nodes).foldl cY out).length]⟩)
 | 0,i,hn,hi,out,hc=>by
   have:i=t.args.length:=by omega
   subst this
   rw [g96L0e]
   simp [g96B0,shO]
 | n+1,i,hn,hi,out,hc=>by
   have hi:i<t.args.length:=by omega
   obtain ⟨x,hx⟩:=bp hi
   unfold Sm at hS
   have hkx:∀y∈x.nodes,y.kind=1→y.id∈S:=fun y hy=>hk y (by simp only [List.mem_flatMap];exact ⟨x,bm hx,hy⟩)
   have k:=h x (bm hx) out hc
   have ih:=L96 hS h hk n (i+1) (by omega) (by omega) _ (hc.fold hkx)
   rw [g96L0e] at ih ⊢
   rw [bL hx]
   simp [shO] at k ih
   simp (disch:=omega) [-getElem?_pos,g96B0,shO,hx,hi,k,au]
   rw [g96L0e]
   simp [ih]
theorem c96 {S:List Int} {t:Ty} (hO:t.Ok) (hk:∀x∈t.nodes,x.kind=1→x.id∈S):∀out,iu S out →
   (aP AP).i 96 [.pv t.pv,.fn 97 [.aX 0 0]] (shO out) [out.length]=some ([],shO (t.nodes.foldl cY out),[(t.nodes.foldl cY out).length]):=by
 revert hO hk
 refine Ty.eE (p:=fun t=>t.Ok→(∀x∈t.nodes,x.kind=1→x.id∈S)→∀out,iu S out →
   (aP AP).i 96 [.pv t.pv,.fn 97 [.aX 0 0]] (shO out) [out.length]=some ([],shO (t.nodes.foldl cY out),[(t.nodes.foldl cY out).length])) ?_ t
 intro t ih hO hk out hc
 rw [Ty.bl] at hk ⊢
 have k:=c97 hc t
 have h:=L96 (S:=S) hO.sm (fun x hx out hc=>ih x hx (hO.fM x hx) (fun y hy=>hk y (by simp only [List.mem_cons,List.mem_flatMap];exact .inr ⟨x,hx,hy⟩)) out hc) (fun x hx=>hk x (by simp only [List.mem_cons];exact .inr hx)) _ 0 rfl (by omega) _ (hc.add (hk t (by simp)))
 rw [aK (af:=g96) rfl (by simp [g96])]
 rw [g96L0e] at h
 simp [shO] at k h
 simp [g96,g96L0e,shO,k,h]
def vars (l:List Ty):List Int:=(l.flatMap Ty.nodes).foldl cY []
theorem L55 {S:List Int} {l:List Ty} (hS:Sm l) (hO:∀t∈l,t.Ok) (hk:∀x∈l.flatMap Ty.nodes,x.kind=1→x.id∈S):∀(n i:Nat),l.length-i=n→i≤l.length→∀out,iu S out →
   cl AP g55L0 ⟨[(3,.aX 0 0),(6,.pv (.aD (l.map Ty.pv))),(7,.pv (vI l.length)),(8,.pv (vI i))],[],shO out,[out.length]⟩ =
     some (.exit 0,⟨[(3,.aX 0 0),(6,.pv (.aD (l.map Ty.pv))),(7,.pv (vI l.length)),(8,.pv (vI l.length)),(9,.pv (.bool false))],[],shO (((l.drop i).flatMap Ty.nodes).foldl cY out),[(((l.drop i).flatMap Ty.nodes).foldl cY out).length]⟩)
 | 0,i,hn,hi,out,hc=>by
   have:i=l.length:=by omega
   subst this
   rw [g55L0e]
   simp [g55B0,shO]
 | n+1,i,hn,hi,out,hc=>by
   have hi:i<l.length:=by omega
   obtain ⟨x,hx⟩:=bp hi
   unfold Sm at hS
   have hkx:∀y∈x.nodes,y.kind=1→y.id∈S:=fun y hy=>hk y (by simp only [List.mem_flatMap];exact ⟨x,bm hx,hy⟩)
   have k:=c96 (hO x (bm hx)) hkx out hc
   have ih:=L55 hS hO hk n (i+1) (by omega) (by omega) _ (hc.fold hkx)
   rw [g55L0e] at ih ⊢
   rw [bL hx]
   simp [shO] at k ih
   simp (disch:=omega) [-getElem?_pos,g55B0,shO,hx,hi,k,au]
   rw [g55L0e]
   simp [ih]
theorem nd {S:List Int} (h:S.length<1099511627776):iu S []:=⟨by simp,by simp,h⟩
theorem c55 {S:List Int} (hf:S.length<1099511627776) {l:List Ty} (hS:Sm l) (hO:∀t∈l,t.Ok) (hk:∀x∈l.flatMap Ty.nodes,x.kind=1→x.id∈S):(aP AP).p 55 [.aD (l.map Ty.pv)]=some [.aD ((vars l).map vI)]:=by
 have h:=L55 hS hO hk _ 0 rfl (by omega) [] (nd hf)
 rw [aq (af:=g55) rfl rfl (by decide)]
 rw [g55L0e] at h
 simp [shO] at h
 simp [g55,g55L0e,h,vars]
end Go.Ab.Lw
namespace Go.Ab.Lw
open Ev
mutual
def Ty.eJ (k:Int):Ty→List Ty
 | ⟨kd,n,i,h,as⟩=>if kd=k∧as.length=0 then [⟨kd,n,i,h,as⟩] else Ty.IQ k as
def Ty.IQ (k:Int):List Ty→List Ty
 | []=>[]
 | a::r=>a.eJ k++Ty.IQ k r
end
theorem Ty.Cg (k:Int):∀l:List Ty,Ty.IQ k l=l.flatMap (Ty.eJ k)
 | []=>by simp [Ty.IQ]
 | a::r=>by simp [Ty.IQ,Ty.Cg k r]
theorem Ty.kK (k:Int) (t:Ty):t.eJ k=if t.kind=k∧t.args.length=0 then [t] else t.args.flatMap (Ty.eJ k):=by cases t;simp only [Ty.eJ,Ty.Cg]
noncomputable def gv (out:List Ty) (x:Ty):List Ty:=if x∈out then out else out++[x]
structure fu (S out:List Ty):Prop where
 nodup:out.Nodup
 sub:∀x∈out,x∈S
 FH:S.length<1099511627776
 ok:∀x∈S,x.Ok
theorem fu.len {S out:List Ty} (h:fu S out):Sm out:=by
 have:=fK h.nodup h.sub
 have:=h.FH
 unfold Sm;omega
theorem fu.add {S out:List Ty} (h:fu S out) {x:Ty} (hx:x∈S):fu S (gv out x):=by
 unfold gv
 split
 · exact h
 · rename_i e
   refine ⟨?_,?_,h.FH,h.ok⟩
   · rw [List.nodup_append]
     refine ⟨h.nodup,by simp,?_⟩
     intro a ha b hb
     simp at hb;subst hb
     rintro rfl;exact e ha
   · intro y hy
     simp at hy
     rcases hy with hy | rfl
     · exact h.sub y hy
     · exact hx
theorem fu.fold {S:List Ty}:∀{l:List Ty} {out:List Ty},fu S out→(∀x∈l,x∈S)→fu S (l.foldl gv out)
 | [],_,h,_=>h
 | x::r,out,h,hx=>by
   simp only [List.foldl_cons]
   exact fu.fold (h.add (hx x (by simp))) (fun y hy=>hx y (by simp [hy]))
theorem Pc {S out:List Ty} (h:fu S out) (t:Ty):∀(n i:Nat),out.length-i=n→i≤out.length →
   cl AP g99L0 ⟨[(0,.own (out.map Ty.pv) 0),(4,.az 4 0),(7,.pv (vI i))],[(4,[.pv (vI t.kind),.pv (.str t.name),.pv (vI t.id),.pv (vI t.home),.pv (.aD (t.args.map Ty.pv))])],[],[out.length]⟩ =
     if t∈out.drop i then some (.ret,⟨[(6,.own (out.map Ty.pv) 0)],[],[],[out.length]⟩)
     else some (.exit 0,⟨[(0,.own (out.map Ty.pv) 0),(4,.az 4 0),(7,.pv (vI out.length)),(22,.pv (.bool false))],[(4,[.pv (vI t.kind),.pv (.str t.name),.pv (vI t.id),.pv (vI t.home),.pv (.aD (t.args.map Ty.pv))])],[],[out.length]⟩)
 | 0,i,hn,hi=>by
   have:i=out.length:=by omega
   subst this
   rw [g99L0e]
   simp [g99B0]
 | n+1,i,hn,hi=>by
   have hi:i<out.length:=by omega
   obtain ⟨x,hx⟩:=bp hi
   have hS:=h.len
   unfold Sm at hS
   have k:=c20 (b:=t) (h.ok x (h.sub x (bm hx)))
   have ih:=Pc h t n (i+1) (by omega) (by omega)
   rw [g99L0e] at ih ⊢
   rw [bL hx]
   simp at ih k
   by_cases e:x=t
   · subst e
     rw [decide_eq_true rfl] at k
     simp (disch:=omega) [-getElem?_pos,g99B0,hx,hi,k]
   · have e':¬t=x:=fun h=>e h.symm
     rw [decide_eq_false e] at k
     simp (disch:=omega) [-getElem?_pos,g99B0,hx,hi,k,e',au]
     rw [g99L0e]
     simp [ih]
theorem Pd {S:List Ty} {kd:Int} {t:Ty} (hS:Sm t.args) (h:∀x∈t.args,∀out,fu S out→(aP AP).i 99 [.own (out.map Ty.pv) 0,.pv x.pv,.pv (vI kd)] [] [out.length]=some ([.own (((x.eJ kd).foldl gv out).map Ty.pv) 0],[],[((x.eJ kd).foldl gv out).length]))
   (hk:∀x∈t.args.flatMap (Ty.eJ kd),x∈S):∀(n i:Nat),t.args.length-i=n→i≤t.args.length→∀out,fu S out →
   cl AP g99L1 ⟨[(0,.own (out.map Ty.pv) 0),(2,.pv (vI kd)),(4,.az 4 0),(8,.pv (vI i))],[(4,[.pv (vI t.kind),.pv (.str t.name),.pv (vI t.id),.pv (vI t.home),.pv (.aD (t.args.map Ty.pv))])],[],[out.length]⟩ =
     some (.exit 2,⟨[(0,.own ((((t.args.drop i).flatMap (Ty.eJ kd)).foldl gv out).map Ty.pv) 0),(2,.pv (vI kd)),(4,.az 4 0),(8,.pv (vI t.args.length)),(40,.pv (.bool false))],[(4,[.pv (vI t.kind),.pv (.str t.name),.pv (vI t.id),.pv (vI t.home),.pv (.aD (t.args.map Ty.pv))])],[],[(((t.args.drop i).flatMap (Ty.eJ kd)).foldl gv out).length]⟩)
 | 0,i,hn,hi,out,hc=>by
   have:i=t.args.length:=by omega
   subst this
   rw [g99L1e]
   simp [g99B1]
 | n+1,i,hn,hi,out,hc=>by
   have hi:i<t.args.length:=by omega
   obtain ⟨x,hx⟩:=bp hi
   unfold Sm at hS
   have hkx:∀y∈x.eJ kd,y∈S:=fun y hy=>hk y (by simp only [List.mem_flatMap];exact ⟨x,bm hx,hy⟩)
   have k:=h x (bm hx) out hc
   have ih:=Pd hS h hk n (i+1) (by omega) (by omega) _ (hc.fold hkx)
   rw [g99L1e] at ih ⊢
   rw [bL hx]
   simp at k ih
   simp (disch:=omega) [-getElem?_pos,g99B1,hx,hi,k,au]
   rw [g99L1e]
   simp [ih]
theorem c99 {S:List Ty} {kd:Int} {t:Ty} (hO:t.Ok) (hk:∀x∈t.eJ kd,x∈S):∀out,fu S out →
   (aP AP).i 99 [.own (out.map Ty.pv) 0,.pv t.pv,.pv (vI kd)] [] [out.length]=some ([.own (((t.eJ kd).foldl gv out).map Ty.pv) 0],[],[((t.eJ kd).foldl gv out).length]):=by
 revert hO hk
 refine Ty.eE (p:=fun t=>t.Ok→(∀x∈t.eJ kd,x∈S)→∀out,fu S out →
   (aP AP).i 99 [.own (out.map Ty.pv) 0,.pv t.pv,.pv (vI kd)] [] [out.length]=some ([.own (((t.eJ kd).foldl gv out).map Ty.pv) 0],[],[((t.eJ kd).foldl gv out).length])) ?_ t
 intro t ih hO hk out hc
 rw [Ty.kK] at hk ⊢
 have hl:=hc.len
 unfold Sm at hl
 have hb:(out.length+1)*64≤140737488355328:=by omega
 rw [aK (af:=g99) rfl (by simp [g99])]
 by_cases e:t.kind=kd∧t.args.length=0
 · rw [if_pos e] at hk ⊢
   obtain ⟨e1,e2⟩:=e
   subst e1
   have e3:t.args=[]:=by simpa using e2
   have h:=Pc hc t _ 0 rfl (by omega)
   rw [g99L0e] at h
   simp [e3] at h
   by_cases em:t∈out
   · simp [em] at h
     have ea:gv out t=out:=by simp [gv,em]
     simp [g99,e3,g99L0e,h,ea]
   · simp [em] at h
     have ea:gv out t=out++[t]:=by simp [gv,em]
     simp [g99,e3,g99L0e,h,ea,hb]
 · rw [if_neg e] at hk ⊢
   have h:=Pd (S:=S) (kd:=kd) hO.sm (fun x hx out hc=>ih x hx (hO.fM x hx) (fun y hy=>hk y (by simp only [List.mem_flatMap];exact ⟨x,hx,hy⟩)) out hc) hk _ 0 rfl (by omega) out hc
   rw [g99L1e] at h
   simp at h
   by_cases e1:t.kind=kd
   · have e2:¬t.args.length=0:=fun h=>e ⟨e1,h⟩
     have e3:¬t.args=[]:=by simpa using e2
     subst e1
     simp [g99,e2,e3,g99L1e,h]
   · simp [g99,e1,g99L1e,h]
def oe (out:List Int) (x:Ty):List Int:=if x.id∈out then out else out++[x.id]
noncomputable def lA (l:List Ty):List Int:=((l.flatMap (Ty.eJ 1)).foldl gv []).foldl oe []
theorem Pe {S:List Ty} {l:List Ty} (hS:Sm l) (hO:∀t∈l,t.Ok) (hk:∀x∈l.flatMap (Ty.eJ 1),x∈S):∀(n i:Nat),l.length-i=n→i≤l.length→∀out,fu S out →
   cl AP g56L0 ⟨[(0,.pv (.aD (l.map Ty.pv))),(3,.own (out.map Ty.pv) 0),(4,.pv (vI i))],[],[],[out.length]⟩ =
     some (.exit 0,⟨[(0,.pv (.aD (l.map Ty.pv))),(3,.own ((((l.drop i).flatMap (Ty.eJ 1)).foldl gv out).map Ty.pv) 0),(4,.pv (vI l.length)),(10,.pv (.bool false))],[],[],[(((l.drop i).flatMap (Ty.eJ 1)).foldl gv out).length]⟩)
 | 0,i,hn,hi,out,hc=>by
   have:i=l.length:=by omega
   subst this
   rw [g56L0e]
   simp [g56B0]
 | n+1,i,hn,hi,out,hc=>by
   have hi:i<l.length:=by omega
   obtain ⟨x,hx⟩:=bp hi
   unfold Sm at hS
   have hkx:∀y∈x.eJ 1,y∈S:=fun y hy=>hk y (by simp only [List.mem_flatMap];exact ⟨x,bm hx,hy⟩)
   have k:=c99 (kd:=1) (hO x (bm hx)) hkx out hc
   have ih:=Pe hS hO hk n (i+1) (by omega) (by omega) _ (hc.fold hkx)
   rw [g56L0e] at ih ⊢
   rw [bL hx]
   simp at k ih
   simp (disch:=omega) [-getElem?_pos,g56B0,hx,hi,k,au]
   rw [g56L0e]
   simp [ih]
theorem IS {l:List Ty} {out:List Int}:(l.foldl oe out).length≤out.length+l.length:=by
 induction l generalizing out with
 | nil=>simp
 | cons x r ih=>
   simp only [List.foldl_cons,List.length_cons]
   have:=ih (out:=oe out x)
   have h2:(oe out x).length≤out.length+1:=by unfold oe;split<;>simp
   omega
theorem Nx {S l:List Ty} (hc:fu S l):∀(n i:Nat),l.length-i=n→i≤l.length→∀out:List Int,out.length≤i →
   cl AP g56L1 ⟨[(3,.own (l.map Ty.pv) 0),(5,.own (out.map vI) 1),(6,.pv (vI i))],[],[],[l.length,out.length]⟩ =
     some (.exit 2,⟨[(3,.own (l.map Ty.pv) 0),(5,.own (((l.drop i).foldl oe out).map vI) 1),(6,.pv (vI l.length)),(22,.pv (.bool false))],[],[],[l.length,((l.drop i).foldl oe out).length]⟩)
 | 0,i,hn,hi,out,ho=>by
   have:i=l.length:=by omega
   subst this
   rw [g56L1e]
   simp [g56B1]
 | n+1,i,hn,hi,out,ho=>by
   have hi:i<l.length:=by omega
   obtain ⟨x,hx⟩:=bp hi
   have hS:=hc.len
   unfold Sm at hS
   have k:=c95 (s:=out) (by unfold Sm;omega) (y:=x.id)
   have hb:(out.length+1)*8≤140737488355328:=by omega
   have hh:bH 1 (out.map vI)=true:=jT.head out
   rw [bL hx]
   by_cases e:x.id∈out
   · have ih:=Nx hc n (i+1) (by omega) (by omega) out (by omega)
     have ea:oe out x=out:=by simp [oe,e]
     rw [g56L1e] at ih ⊢
     rw [decide_eq_true e] at k
     simp at ih
     simp (disch:=omega) [-getElem?_pos,g56B1,hx,hi,k,au]
     rw [g56L1e]
     simp [ih,ea]
   · have ih:=Nx hc n (i+1) (by omega) (by omega) (out++[x.id]) (by simp;omega)
     have ea:oe out x=out++[x.id]:=by simp [oe,e]
     rw [g56L1e] at ih ⊢
     rw [decide_eq_false e] at k
     simp at ih
     simp (disch:=omega) [-getElem?_pos,g56B1,hx,hi,k,au,hb,hh]
     rw [g56L1e]
     simp [ih,ea]
theorem c56 {S:List Ty} (hf:S.length<1099511627776) (hSo:∀x∈S,x.Ok) {l:List Ty} (hS:Sm l) (hO:∀t∈l,t.Ok) (hk:∀x∈l.flatMap (Ty.eJ 1),x∈S):(aP AP).p 56 [.aD (l.map Ty.pv)]=some [.aD ((lA l).map vI)]:=by
 have c0:fu S []:=⟨by simp,by simp,hf,hSo⟩
 have h1:=Pe hS hO hk _ 0 rfl (by omega) [] c0
 have h2:=Nx (c0.fold (l:=l.flatMap (Ty.eJ 1)) hk) _ 0 rfl (by omega) [] (by simp)
 rw [aq (af:=g56) rfl rfl (by decide)]
 rw [g56L0e] at h1
 rw [g56L1e] at h2
 simp at h1 h2
 simp [g56,g56L0e,h1,g56L1e,h2,lA]
theorem FI {t:Ty} (hW:t.Wf):∀out,t.nodes.foldl cY out=(t.eJ 1).foldl cY out:=by
 revert hW
 refine Ty.eE (p:=fun t=>t.Wf→∀out,t.nodes.foldl cY out=(t.eJ 1).foldl cY out) ?_ t
 intro t ih hW out
 have flat:∀(as:List Ty),(∀x∈as,x∈t.args)→∀out,(as.flatMap Ty.nodes).foldl cY out=(as.flatMap (Ty.eJ 1)).foldl cY out:=by
   intro as
   induction as with
   | nil=>intro _ _;rfl
   | cons a r ihr=>
     intro h out
     simp only [List.flatMap_cons,List.foldl_append]
     rw [ih a (h a (by simp)) (hW.fM a (h a (by simp))),ihr (fun x hx=>h x (by simp [hx]))]
 rw [Ty.bl,Ty.kK]
 by_cases e:t.kind=1
 · have ea:=hW.var e
   simp [e,ea]
 · have:cY out t=out:=by simp [cY,e]
   simp only [List.foldl_cons,this]
   rw [if_neg (fun h=>e h.1)]
   exact flat t.args (fun _ h=>h) out
theorem IT {k:Int} {t x:Ty} (h:x∈t.eJ k):x.kind=k∧x.args=[]:=by
 revert h
 refine Ty.eE (p:=fun t=>x∈t.eJ k→x.kind=k∧x.args=[]) ?_ t
 intro t ih h
 rw [Ty.kK] at h
 split at h
 · rename_i e;simp at h;subst h;exact ⟨e.1,by simpa using e.2⟩
 · simp only [List.mem_flatMap] at h
   obtain ⟨y,hy,hx⟩:=h
   exact ih y hy hx
theorem IU {l:List Ty} {out:List Int} {x:Ty} (hk:x.kind=1) (h:x∈l):x.id∈l.foldl cY out:=by
 have mono:∀(l:List Ty) (out:List Int) (i:Int),i∈out→i∈l.foldl cY out:=by
   intro l
   induction l with
   | nil=>intro out i h;exact h
   | cons y r ih=>
     intro out i h
     simp only [List.foldl_cons]
     refine ih _ _ ?_
     unfold cY;split<;>simp [h]
 induction l generalizing out with
 | nil=>simp at h
 | cons y r ih=>
   simp only [List.foldl_cons]
   simp at h
   rcases h with rfl | h
   · refine mono _ _ _ ?_
     unfold cY
     split
     · simp
     · rename_i e;simp [hk] at e;exact e
   · exact ih h
theorem FJ (l:List Ty) (hk:∀x∈l,x.kind=1):∀acc:List Ty,(l.foldl gv acc).foldl cY []=l.foldl cY (acc.foldl cY []):=by
 induction l with
 | nil=>intro acc;rfl
 | cons x r ih=>
   intro acc
   simp only [List.foldl_cons]
   rw [ih (fun y hy=>hk y (by simp [hy]))]
   congr 1
   unfold gv
   split
   · rename_i e
     have:=IU (out:=[]) (hk x (by simp)) e
     simp [cY,this]
   · simp
theorem FK (l:List Ty) (hk:∀x∈l,x.kind=1):∀out,l.foldl oe out=l.foldl cY out:=by
 induction l with
 | nil=>intro out;rfl
 | cons x r ih=>
   intro out
   simp only [List.foldl_cons]
   rw [ih (fun y hy=>hk y (by simp [hy]))]
   congr 1
   unfold oe cY
   have:=hk x (by simp)
   by_cases e:x.id∈out<;>simp [e,this]
theorem IV {l acc:List Ty} {x:Ty} (h:x∈l.foldl gv acc):x∈acc∨x∈l:=by
 induction l generalizing acc with
 | nil=>exact .inl h
 | cons y r ih=>
   simp only [List.foldl_cons] at h
   rcases ih h with h | h
   · unfold gv at h
     split at h
     · exact .inl h
     · simp at h
       rcases h with h | rfl
       · exact .inl h
       · right;simp
   · right;simp [h]
theorem re {l:List Ty} (hW:∀t∈l,t.Wf):lA l=vars l:=by
 have hk:∀x∈l.flatMap (Ty.eJ 1),x.kind=1:=fun x hx=>by
   simp only [List.mem_flatMap] at hx;obtain ⟨t,_,h⟩:=hx;exact (IT h).1
 unfold lA vars
 rw [FK _ (fun x hx=>by rcases IV hx with h | h;simp at h;exact hk x h),FJ _ hk]
 have:∀(l:List Ty),(∀t∈l,t.Wf)→∀out,(l.flatMap (Ty.eJ 1)).foldl cY out=(l.flatMap Ty.nodes).foldl cY out:=by
   intro l
   induction l with
   | nil=>intro _ _;rfl
   | cons a r ih=>
     intro h out
     simp only [List.flatMap_cons,List.foldl_append]
     rw [FI (h a (by simp)),ih (fun t ht=>h t (by simp [ht]))]
 exact this l hW []
end Go.Ab.Lw
namespace Go.Ab.Lw
open Ev
theorem c176 {t:Ty}:(aP AP).p 176 [t.pv]=some [(As.mk 0 t).pv]:=by
 rw [aq (af:=g176) rfl rfl (by decide)]
 simp [g176]
theorem c179 {l:List En} (hS:Sm l) {n:List UInt8} {c:Sc}:(aP AP).p 179 [.aD (l.map En.pv),.str n,c.pv]=some [.aD ((l++[En.mk n c]).map En.pv)]:=by
 unfold Sm at hS
 have hb:(l.length+1)*88≤140737488355328:=by omega
 have hb':l.length*88≤140737488355328:=by omega
 rw [aq (af:=g179) rfl rfl (by decide)]
 cases l with
 | nil=>simp [g179]
 | cons a r=>
   simp at hb hb'
   simp [g179,hb,hb']
def dr:List En→List En
 | []=>[]
 | a::r=>if (r.any fun x=>decide (x.name=a.name))=true then dr r else a::dr r
theorem QL {sz:Nat} {l:List PV} {k:IntKind} {h:Int} (h0:0≤h) (h1:h≤l.length) (hs:bH sz l=true):cI false sz true false false [.pv (.aD l),.pv (.int k h)]=some (.pv (.aD (l.drop h.toNat))):=by
 simp [cI,dS,dG,h0,h1,hs]
theorem any_none {r:List En} {a:En}:(r.any fun x=>decide (x.name=a.name))=true↔∃c,Cf r a.name=some c:=by
 induction r with
 | nil=>simp [Cf]
 | cons b r ih=>
   simp only [List.any_cons,Bool.or_eq_true,ih,Cf,decide_eq_true_eq]
   cases h:Cf r a.name with
   | some c=>simp
   | none=>by_cases e:b.name=a.name<;>simp [e]
theorem rf (l:List En):∀x∈dr l,x∈l:=by
 induction l with
 | nil=>simp [dr]
 | cons a r ih=>
   intro x hx
   simp only [dr] at hx
   split at hx
   · simp [ih x hx]
   · simp at hx;rcases hx with rfl | hx
     · simp
     · simp [ih x hx]
theorem rh (l:List En):(dr l).length≤l.length:=by
 induction l with
 | nil=>simp [dr]
 | cons a r ih=>
   simp only [dr]
   split<;>simp<;>omega
def varNames:List (List UInt8):=[[120],[121],[122],[102],[103],[118,49],[118,50],[105,100]]
def cR (ids:List Int):List Int→List As→List As
 | [],acc=>acc
 | v::r,acc=>cR ids r (if v∈ids then acc++[⟨v,dd acc.length⟩] else acc)
def nf (ids:List Int) (t:Ty) (vs:List Int):Sc:=⟨(cR ids vs []).length,t.sub (cR ids vs [])⟩
theorem Ny {t:Ty} {ids vs:List Int} (hS:Sm vs) (hi:Sm ids):∀(n i:Nat),vs.length-i=n→i≤vs.length→∀acc:List As,acc.length≤i →
   cl AP g208L0 ⟨[(1,.pv (.aD (ids.map vI))),(2,.az 2 0),(4,.az 4 0),(5,.pv (.aD (vs.map vI))),(6,.own (acc.map As.pv) 0),(7,.pv (vI i))],[(2,[.pv (vI t.kind),.pv (.str t.name),.pv (vI t.id),.pv (vI t.home),.pv (.aD (t.args.map Ty.pv))]),(4,[.pv (vI 0),.pv (vI 0),.pv (.str []),.pv (vI 0),.pv (vI 0),.own [] 1])],[],[acc.length,0]⟩ =
     some (.exit 0,⟨[(1,.pv (.aD (ids.map vI))),(2,.az 2 0),(4,.az 4 0),(5,.pv (.aD (vs.map vI))),(6,.own ((cR ids (vs.drop i) acc).map As.pv) 0),(7,.pv (vI vs.length)),(14,.pv (.bool false))],[(2,[.pv (vI t.kind),.pv (.str t.name),.pv (vI t.id),.pv (vI t.home),.pv (.aD (t.args.map Ty.pv))]),(4,[.pv (vI 0),.pv (vI 0),.pv (.str []),.pv (vI 0),.pv (vI 0),.own [] 1])],[],[(cR ids (vs.drop i) acc).length,0]⟩)
 | 0,i,hn,hi',acc,ha=>by
   have:i=vs.length:=by omega
   subst this
   rw [g208L0e]
   simp [g208B0,cR]
 | n+1,i,hn,hi',acc,ha=>by
   have hi':i<vs.length:=by omega
   obtain ⟨x,hx⟩:=bp hi'
   unfold Sm at hS
   have k:=c95 hi (y:=x)
   have k2:=c72 (n:=acc.length)
   have hb:(acc.length+1)*72≤140737488355328:=by omega
   rw [bL hx]
   by_cases e:x∈ids
   · have ih:=Ny (t:=t) hS hi n (i+1) (by omega) (by omega) (acc++[⟨x,dd acc.length⟩]) (by simp;omega)
     have ea:cR ids (x::vs.drop (i+1)) acc=cR ids (vs.drop (i+1)) (acc++[⟨x,dd acc.length⟩]):=by simp [cR,e]
     rw [ea]
     rw [g208L0e] at ih ⊢
     rw [decide_eq_true e] at k
     simp [dd] at ih k2
     simp (disch:=omega) [-getElem?_pos,g208B0,hx,hi',k,k2,au,hb,dd]
     rw [g208L0e]
     simp [ih,dd]
   · have ih:=Ny (t:=t) hS hi n (i+1) (by omega) (by omega) acc (by omega)
     have ea:cR ids (x::vs.drop (i+1)) acc=cR ids (vs.drop (i+1)) acc:=by simp [cR,e]
     rw [ea]
     rw [g208L0e] at ih ⊢
     rw [decide_eq_false e] at k
     simp at ih
     simp (disch:=omega) [-getElem?_pos,g208B0,hx,hi',k,au]
     rw [g208L0e]
     simp [ih]
theorem ri {ids:List Int}:∀(vs:List Int) (acc:List As),(cR ids vs acc).length≤acc.length+vs.length
 | [],acc=>by simp [cR]
 | v::r,acc=>by
   simp only [cR]
   have:=ri (ids:=ids) r (if v∈ids then acc++[⟨v,dd acc.length⟩] else acc)
   split at this<;>simp at this ⊢<;>(split<;>simp_all<;>omega)
structure Pf (t:Ty):Prop where
 ok:t.Ok
 wf:t.Wf
 FH:∃S:List Ty,S.length<1099511627776∧(∀x∈S,x.Ok)∧∀x∈t.eJ 1,x∈S
theorem rj {t:Ty} (h:Pf t):Sm (lA [t]):=by
 obtain ⟨S,hf,hSo,hk⟩:=h.FH
 have c0:fu S []:=⟨by simp,by simp,hf,hSo⟩
 have:=(c0.fold (l:=[t].flatMap (Ty.eJ 1)) (by simpa using hk)).len
 unfold Sm at *
 have h2:=IS (l:=([t].flatMap (Ty.eJ 1)).foldl gv []) (out:=[])
 unfold lA
 simp at this h2 ⊢
 omega
theorem c208 {t:Ty} (h:Pf t) {ids:List Int} (hi:Sm ids):(aP AP).p 208 [t.pv,.aD (ids.map vI)]=some [(nf ids t (vars [t])).pv]:=by
 obtain ⟨S,hf,hSo,hk⟩:=h.FH
 have k1:=c56 hf hSo (l:=[t]) (by simp [Sm]) (by simpa using h.ok) (by simpa using hk)
 have hv:=rj h
 rw [re (by simpa using h.wf)] at k1 hv
 have k2:=Ny (t:=t) hv hi _ 0 rfl (by omega) [] (by simp)
 have hl:=ri (ids:=ids) (vars [t]) []
 have k3:=c46 (s:=cR ids (vars [t]) []) (by unfold Sm at hv ⊢;simp at hl;omega) h.ok
 rw [aq (af:=g208) rfl rfl (by decide)]
 rw [g208L0e] at k2
 simp at k1 k2 k3
 simp [g208,k1,g208L0e,k2,k3,nf]
end Go.Ab.Lw
namespace Go.Ab.Lw
open Ev
theorem cO {t:Ty} (h:t.args=[]):t.Ok:=⟨by rw [h];simp [Sm],by rw [h];simp⟩
theorem s9 {ids:List Int}:∀(vs:List Int) (acc:List As),(∀a∈acc,a.ty.Ok)→∀a∈cR ids vs acc,a.ty.Ok
 | [],acc,h=>by simpa [cR] using h
 | v::r,acc,h=>by
   simp only [cR]
   refine s9 r _ ?_
   split
   · intro a ha
     simp at ha
     rcases ha with ha | rfl
     · exact h a ha
     · exact cO rfl
   · exact h
theorem Bz {ids vs:List Int} {t:Ty} (h:t.Ok):(nf ids t vs).ty.Ok:=Bx (s9 vs [] (by simp)) h
end Go.Ab.Lw
namespace Go.Ab.Lw
open Ev
inductive gm (D:Dt→Prop) (lv:List Ty):Nat→Ty→Prop
 | leaf {n:Nat} {t:Ty}:t∈lv→gm D lv n t
 | int {n:Nat}:gm D lv n br
 | gq {n:Nat} {d:Dt} {args:List Ty}:D d→args.length=d.params.length→(∀x∈args,gm D lv n x)→gm D lv (n+1) ⟨4,d.name,0,0,args⟩
 | arrow {n:Nat} {a b:Ty}:gm D lv n a→gm D lv n b→gm D lv (n+1) ⟨4,[45,62],0,0,[a,b]⟩
theorem gm.ok {D:Dt→Prop} (hD:∀d,D d→d.params.length≤8) {lv:List Ty} (h:∀t∈lv,t.args=[]) {n:Nat} {t:Ty} (m:gm D lv n t):t.Ok:=by
 induction m with
 | leaf hl=>exact cO (h _ hl)
 | int=>exact cO rfl
 | gq hd hl _ ih=>exact ⟨by have:=hD _ hd;unfold Sm;simp;omega,ih⟩
 | arrow _ _ ha hb=>exact ⟨by simp [Sm],by intro x hx;simp at hx;rcases hx with rfl | rfl<;>assumption⟩
theorem IW {f:Ty→List Ty} {b:Nat}:∀{l:List Ty},(∀x∈l,(f x).length≤b)→(l.flatMap f).length≤l.length*b
 | [],_=>by simp
 | a::r,h=>by
   have h1:=h a (by simp)
   have h2:=IW (f:=f) (b:=b) (l:=r) (fun x hx=>h x (by simp [hx]))
   simp only [List.flatMap_cons,List.length_append,List.length_cons,Nat.add_mul]
   omega
theorem gm.small {D:Dt→Prop} (hD:∀d,D d→d.params.length≤8) {lv:List Ty} (h:∀t∈lv,t.args=[]) {n:Nat} {t:Ty} (m:gm D lv n t):t.nodes.length≤9 ^ n:=by
 have one:∀n:Nat,1≤9 ^ n:=fun n=>Nat.one_le_pow n 9 (by decide)
 induction m with
 | leaf hl=>rw [Ty.bl,h _ hl];simpa using one _
 | int=>rw [Ty.bl];simpa [br] using one _
 | @gq n d args hd hl _ ih=>
   rw [Ty.bl]
   have h1:=IW (f:=Ty.nodes) (l:=args) ih
   have h2:=hD _ hd
   have h3:=one n
   have h4:args.length*9 ^ n≤8*9 ^ n:=Nat.mul_le_mul_right _ (by omega)
   simp only [List.length_cons,Nat.pow_succ]
   omega
 | @arrow n a b _ _ ha hb=>
   rw [Ty.bl]
   have h3:=one n
   simp only [List.length_cons,List.flatMap_cons,List.flatMap_nil,List.append_nil,List.length_append,Nat.pow_succ]
   omega
end Go.Ab.Lw
namespace Go.Ab.Lw
open Ev
abbrev bS:=List UInt8
theorem c214 {s:List bS} (hS:Sm s) {y:bS}:(aP AP).p 214 [.aD (s.map .str),.str y]=some [.bool (decide (y∈s))]:=by
 rw [Q8 Ll (m:=214) (k:=223) rfl rfl hS]
 simp only [Option.some.injEq,List.cons.injEq,PV.bool.injEq,and_true]
 rw [Bool.eq_iff_iff];simp
theorem Pg {s:List bS} (hS:Sm s) (y:bS):∀(n i:Nat),s.length-i=n→i≤s.length →
   cl AP g216L0 ⟨[(0,.pv (.aD (s.map .str))),(1,.pv (.str y)),(5,.pv (vI i))],[],[],[]⟩ =
     match cA (fun x=>decide (x=y)) (s.drop i) with
     | some k=>some (.ret,⟨[(4,.pv (vI (i+k:Nat)))],[],[],[]⟩)
     | none=>some (.exit 0,⟨[(0,.pv (.aD (s.map .str))),(1,.pv (.str y)),(5,.pv (vI s.length)),(9,.pv (.bool false))],[],[],[]⟩)
 | 0,i,hn,hi=>by
   have:i=s.length:=by omega
   subst this
   rw [g216L0e]
   simp [g216B0,cA]
 | n+1,i,hn,hi=>by
   have hi:i<s.length:=by omega
   obtain ⟨x,hx⟩:=bp hi
   unfold Sm at hS
   have ih:=Pg hS y n (i+1) (by omega) (by omega)
   simp at ih
   rw [g216L0e,bL hx]
   by_cases e:x=y
   · simp (disch:=omega) [-getElem?_pos,g216B0,hx,hi,e,cA]
   · simp (disch:=omega) [-getElem?_pos,g216B0,hx,hi,e,cA,au,ih]
     cases cA (fun x=>decide (x=y)) (s.drop (i+1)) with
     | none=>rfl
     | some k=>simp;omega
def ng (s:List bS) (y:bS):Int:=jd (cA (fun x=>decide (x=y)) s)
theorem c216 {s:List bS} (hS:Sm s) {y:bS}:(aP AP).p 216 [.aD (s.map .str),.str y]=some [vI (ng s y)]:=by
 unfold ng
 have h:=Pg hS y _ 0 rfl (by omega)
 simp at h
 rw [aq (af:=g216) rfl rfl (by decide)]
 cases hi:cA (fun x=>decide (x=y)) s with
 | none=>rw [hi] at h;simp at h;simp [g216,h,jd]
 | some k=>rw [hi] at h;simp at h;simp [g216,h,jd]
theorem IX {s:List bS} {y:bS}:ng s y<0↔y∉s:=by
 unfold ng
 have h:=xH (p:=fun x=>decide (x=y)) (s:=s)
 have e:s.any (fun x=>decide (x=y))=decide (y∈s):=by rw [Bool.eq_iff_iff];simp
 rw [e] at h
 by_cases hy:y∈s
 · rw [decide_eq_true hy] at h
   have h:=of_decide_eq_true h
   exact ⟨fun h'=>absurd h (Int.not_le.2 h'),fun h'=>absurd hy h'⟩
 · rw [decide_eq_false hy] at h
   have h:=of_decide_eq_false h
   exact ⟨fun _=>hy,fun _=>Int.not_le.1 h⟩
def Nz:List Dt→bS→Option Dt
 | [],_=>none
 | d::r,s=>if d.name=s then some d else Nz r s
def Ln (ds:List Dt) (s:bS):Option Nat:=if s=[73,110,116] then some 0 else if s=[45,62] then some 2 else (Nz ds s).map (·.params.length)
def rA:Option Nat→List PV
 | some n=>[vI n,.bool true]
 | none=>[vI 0,.bool false]
theorem Ph {ds:List Dt} (hS:Sm ds) (s:bS):∀(n i:Nat),ds.length-i=n→i≤ds.length →
   cl AP g215L0 ⟨[(1,.pv (.str s)),(13,.pv (.aD (ds.map Dt.pv))),(14,.pv (vI ds.length)),(15,.pv (vI i))],[],[],[]⟩ =
     match Nz (ds.drop i) s with
     | some d=>some (.ret,⟨[(4,.pv (vI d.params.length)),(5,.pv (.bool true))],[],[],[]⟩)
     | none=>some (.exit 1,⟨[(1,.pv (.str s)),(13,.pv (.aD (ds.map Dt.pv))),(14,.pv (vI ds.length)),(15,.pv (vI ds.length)),(16,.pv (.bool false))],[],[],[]⟩)
 | 0,i,hn,hi=>by
   have:i=ds.length:=by omega
   subst this
   rw [g215L0e]
   simp [g215B0,Nz]
 | n+1,i,hn,hi=>by
   have hi:i<ds.length:=by omega
   obtain ⟨x,hx⟩:=bp hi
   unfold Sm at hS
   have ih:=Ph hS s n (i+1) (by omega) (by omega)
   rw [g215L0e] at ih ⊢
   rw [bL hx]
   simp at ih
   by_cases e:x.name=s
   · simp (disch:=omega) [-getElem?_pos,g215B0,hx,hi,e,Nz]
   · simp (disch:=omega) [-getElem?_pos,g215B0,hx,hi,e,Nz,au]
     rw [g215L0e]
     simp [ih]
theorem c215 {ds:List Dt} (hS:Sm ds) {s:bS}:(aP AP).p 215 [.aD (ds.map Dt.pv),.str s]=some (rA (Ln ds s)):=by
 have h:=Ph hS s _ 0 rfl (by omega)
 rw [aq (af:=g215) rfl rfl (by decide)]
 rw [g215L0e] at h
 simp at h
 unfold Ln
 by_cases e1:s=[73,110,116]
 · simp [g215,e1,rA]
 · by_cases e2:s=[45,62]
   · simp [g215,e2,rA]
   · cases hl:Nz ds s with
     | none=>rw [hl] at h;simp at h;simp [g215,e1,e2,g215L0e,h,rA]
     | some d=>rw [hl] at h;simp at h;simp [g215,e1,e2,g215L0e,h,rA]
def js (ds:List Dt) (l:List bS) (t:Ty):Int:=
 if t.kind=5 then (if t.name∈l then 0 else 7)
 else if t.kind=4 then (match Ln ds t.name with | none=>7 | some n=>if n=t.args.length then 0 else 8) else 0
mutual
def Ty.formed (ds:List Dt) (l:List bS):Ty→Int
 | ⟨k,n,i,h,as⟩=>if js ds l ⟨k,n,i,h,as⟩≠0 then js ds l ⟨k,n,i,h,as⟩ else Ty.dJ ds l as
def Ty.dJ (ds:List Dt) (l:List bS):List Ty→Int
 | []=>0
 | a::r=>if a.formed ds l≠0 then a.formed ds l else Ty.dJ ds l r
end
theorem Ty.FL (ds:List Dt) (l:List bS) (t:Ty):t.formed ds l=if js ds l t≠0 then js ds l t else Ty.dJ ds l t.args:=by
 cases t;simp only [Ty.formed]
theorem Pj {ds:List Dt} {l:List bS} {t:Ty} (hS:Sm t.args) (h:∀x∈t.args,(aP AP).p 185 [.aD (ds.map Dt.pv),x.pv,.aD (l.map .str)]=some [vI (x.formed ds l)]):∀(n i:Nat),t.args.length-i=n→i≤t.args.length →
   cl AP g185L0 ⟨[(0,.pv (.aD (ds.map Dt.pv))),(2,.pv (.aD (l.map .str))),(38,.pv (.aD (t.args.map Ty.pv))),(39,.pv (vI t.args.length)),(40,.pv (vI i))],[],[],[]⟩ =
     if Ty.dJ ds l (t.args.drop i)≠0 then some (.ret,⟨[(6,.pv (vI (Ty.dJ ds l (t.args.drop i))))],[],[],[]⟩)
     else some (.exit 1,⟨[(0,.pv (.aD (ds.map Dt.pv))),(2,.pv (.aD (l.map .str))),(38,.pv (.aD (t.args.map Ty.pv))),(39,.pv (vI t.args.length)),(40,.pv (vI t.args.length)),(41,.pv (.bool false))],[],[],[]⟩)
 | 0,i,hn,hi=>by
   have:i=t.args.length:=by omega
   subst this
   rw [g185L0e]
   simp [g185B0,Ty.dJ]
 | n+1,i,hn,hi=>by
   have hi:i<t.args.length:=by omega
   obtain ⟨x,hx⟩:=bp hi
   unfold Sm at hS
   have k:=h x (bm hx)
   have ih:=Pj hS h n (i+1) (by omega) (by omega)
   rw [g185L0e] at ih ⊢
   rw [bL hx]
   simp at ih k
   by_cases e:x.formed ds l=0
   · rw [e] at k
     simp (disch:=omega) [-getElem?_pos,g185B0,hx,hi,k,Ty.dJ,e,au]
     rw [g185L0e]
     simp [ih]
   · simp (disch:=omega) [-getElem?_pos,g185B0,hx,hi,k,Ty.dJ,e,au]
theorem c185 {ds:List Dt} (hd:Sm ds) {l:List bS} (hl:Sm l) {t:Ty} (hO:t.Ok):(aP AP).p 185 [.aD (ds.map Dt.pv),t.pv,.aD (l.map .str)]=some [vI (t.formed ds l)]:=by
 revert hO
 refine Ty.eE (p:=fun t=>t.Ok→(aP AP).p 185 [.aD (ds.map Dt.pv),t.pv,.aD (l.map .str)]=some [vI (t.formed ds l)]) ?_ t
 intro t ih hO
 have h:=Pj (ds:=ds) (l:=l) hO.sm (fun x hx=>ih x hx (hO.fM x hx)) _ 0 rfl (by omega)
 have k1:=c214 hl (y:=t.name)
 have k2:=c215 hd (s:=t.name)
 rw [aq (af:=g185) rfl rfl (by decide),Ty.FL]
 rw [g185L0e] at h
 simp at h
 by_cases e1:t.kind=5
 · by_cases e2:t.name∈l
   · rw [decide_eq_true e2] at k1
     by_cases e3:Ty.dJ ds l t.args=0
     · simp [e3] at h
       simp [g185,e1,e2,e3,k1,js,g185L0e,h]
     · simp [e3] at h
       simp [g185,e1,e2,e3,k1,js,g185L0e,h]
   · rw [decide_eq_false e2] at k1
     simp [g185,e1,e2,k1,js]
 · by_cases e4:t.kind=4
   · cases hc:Ln ds t.name with
     | none=>
       rw [hc] at k2
       simp [rA] at k2
       simp [g185,e1,e4,k2,js,hc]
     | some m=>
       rw [hc] at k2
       simp [rA] at k2
       by_cases e5:m=t.args.length
       · by_cases e3:Ty.dJ ds l t.args=0
         · simp [e3] at h
           simp [g185,e4,e5,e3,k2,js,hc,g185L0e,h]
         · simp [e3] at h
           simp [g185,e4,e5,e3,k2,js,hc,g185L0e,h]
       · have e5':¬(m:Int)=t.args.length:=by omega
         simp [g185,e4,e5,e5',k2,js,hc]
   · by_cases e3:Ty.dJ ds l t.args=0
     · simp [e3] at h
       simp [g185,e1,e4,e3,js,g185L0e,h]
     · simp [e3] at h
       simp [g185,e1,e4,e3,js,g185L0e,h]
def NA (t:Ty):List AV:=[.pv (vI t.kind),.pv (.str t.name),.pv (vI t.id),.pv (vI t.home),.pv (.aD (t.args.map Ty.pv))]
@[simp] theorem QM (t:Ty):NA t=[.pv (vI t.kind),.pv (.str t.name),.pv (vI t.id),.pv (vI t.home),.pv (.aD (t.args.map Ty.pv))]:=rfl
inductive Ty.Cw:Ty→Prop
 | mk {t:Ty}:(t.kind≠4→t.args=[])→(∀x∈t.args,Ty.Cw x)→Ty.Cw t
theorem Ty.Cw.bare {t:Ty} (h:t.Cw):t.kind≠4→t.args=[]:=by cases h;assumption
theorem Ty.Cw.fM {t:Ty} (h:t.Cw):∀x∈t.args,x.Cw:=by cases h;assumption
end Go.Ab.Lw
namespace Go.Ab.Lw
structure fe (E:Type) where
 pos:Int
 gq:List UInt8
 vars:List (List UInt8)
 body:E
structure Ex where
 kind:Int
 pos:Int
 name:List UInt8
 num:Int
 kids:List Ex
 bt:List (fe Ex)
 ty:Ty
abbrev Ar:=fe Ex
def bN:Ty:=⟨0,[],0,0,[]⟩
instance:Inhabited Ex:=⟨⟨0,0,[],0,[],[],bN⟩⟩
instance:Inhabited Ar:=⟨⟨0,[],[],default⟩⟩
def Ty.cells (t:Ty):List PV:=[.int .i64 t.kind,.str t.name,.int .i64 t.id,.int .i64 t.home,.aD (t.args.map Ty.pv)]
mutual
def Ex.cells:Ex→List PV
 | ⟨k,p,n,m,ks,as,t⟩=>.int .i64 k::.int .i64 p::.str n::.int .i64 m::.aD (Ex.dt ks)::.aD (Ex.Pk as)::t.cells
def Ex.dt:List Ex→List PV
 | []=>[]
 | e::r=>.agg (Ex.cells e)::Ex.dt r
def Ex.Pk:List (fe Ex)→List PV
 | []=>[]
 | ⟨p,c,v,b⟩::r=>.agg (.int .i64 p::.str c::.aD (v.map .str)::Ex.cells b)::Ex.Pk r
end
def Ex.pv (e:Ex):PV:=.agg e.cells
def Ar.pv (a:Ar):PV:=.agg (.int .i64 a.pos::.str a.gq::.aD (a.vars.map .str)::a.body.cells)
theorem Ex.m_:∀l:List Ex,Ex.dt l=l.map Ex.pv
 | []=>by simp [Ex.dt]
 | e::r=>by simp [Ex.dt,Ex.m_ r,Ex.pv]
theorem Ex.Ci:∀l:List Ar,Ex.Pk l=l.map Ar.pv
 | []=>by simp [Ex.Pk]
 | ⟨p,c,v,b⟩::r=>by simp [Ex.Pk,Ex.Ci r,Ar.pv]
theorem Ex.bA (e:Ex):e.cells=[.int .i64 e.kind,.int .i64 e.pos,.str e.name,.int .i64 e.num,.aD (e.kids.map Ex.pv),.aD (e.bt.map Ar.pv),.int .i64 e.ty.kind,.str e.ty.name,.int .i64 e.ty.id,.int .i64 e.ty.home,.aD (e.ty.args.map Ty.pv)]:=by
 cases e;simp only [Ex.cells,Ex.m_,Ex.Ci,Ty.cells]
@[simp] theorem Ex.kI (e:Ex):e.pv=.agg [.int .i64 e.kind,.int .i64 e.pos,.str e.name,.int .i64 e.num,.aD (e.kids.map Ex.pv),.aD (e.bt.map Ar.pv),.int .i64 e.ty.kind,.str e.ty.name,.int .i64 e.ty.id,.int .i64 e.ty.home,.aD (e.ty.args.map Ty.pv)]:=by
 rw [Ex.pv,Ex.bA]
@[simp] theorem Ar.kI (a:Ar):a.pv=.agg [.int .i64 a.pos,.str a.gq,.aD (a.vars.map .str),.int .i64 a.body.kind,.int .i64 a.body.pos,.str a.body.name,.int .i64 a.body.num,.aD (a.body.kids.map Ex.pv),.aD (a.body.bt.map Ar.pv),.int .i64 a.body.ty.kind,.str a.body.ty.name,.int .i64 a.body.ty.id,.int .i64 a.body.ty.home,.aD (a.body.ty.args.map Ty.pv)]:=by
 rw [Ar.pv,Ex.bA]
theorem IY:El Ex.pv 11 true:=⟨fun x=>by simp,fun x=>by simp⟩
theorem NB:El Ar.pv 14 true:=⟨fun x=>by simp,fun x=>by simp⟩
@[simp] theorem Om {l:List Ex}:bH 11 (l.map Ex.pv)=true:=IY.head l
@[simp] theorem On {l:List Ar}:bH 14 (l.map Ar.pv)=true:=NB.head l
@[simp] theorem NC {l:List (List UInt8)}:bH 1 (l.map PV.str)=true:=IG.head l
@[simp] theorem Oo {l:List Int}:bH 1 (l.map vI)=true:=jT.head l
def Ex.ch (e:Ex):List Ex:=e.kids++e.bt.map fe.body
theorem fe.s_ (a:Ar):SizeOf.sizeOf a.body<SizeOf.sizeOf a:=by cases a;simp;omega
theorem Ex.eE {p:Ex→Prop} (h:∀e:Ex,(∀x∈e.kids,p x)→(∀a∈e.bt,p a.body)→p e):∀e,p e
 | ⟨k,ps,n,m,ks,as,t⟩=>h _ (fun x _hx=>Ex.eE h x) (fun a _ha=>Ex.eE h a.body)
termination_by e=>SizeOf.sizeOf e
decreasing_by
 · have:=_root_.List.sizeOf_lt_of_mem _hx;simp at *;omega
 · have:=_root_.List.sizeOf_lt_of_mem _ha;have:=fe.s_ a;simp at *;omega
theorem Ex.recC {p:Ex→Prop} (h:∀e:Ex,(∀x∈e.ch,p x)→p e):∀e,p e:=Ex.eE fun e h1 h2=>h e fun x hx=>by
 rw [Ex.ch,List.mem_append,List.mem_map] at hx
 rcases hx with hx | ⟨a,ha,rfl⟩
 · exact h1 x hx
 · exact h2 a ha
end Go.Ab.Lw
namespace Go.Ab.Lw
open Ev
structure Sl where
 bd:Bool
 ty:Ty
 home:Int
 base:Bool
def Sl.pv (x:Sl):PV:=.agg [.bool x.bd,vI x.ty.kind,.str x.ty.name,vI x.ty.id,vI x.ty.home,.aD (x.ty.args.map Ty.pv),vI x.home,.bool x.base]
@[simp] theorem Sl.kI (x:Sl):x.pv=.agg [.bool x.bd,.int .i64 x.ty.kind,.str x.ty.name,.int .i64 x.ty.id,.int .i64 x.ty.home,.aD (x.ty.args.map Ty.pv),.int .i64 x.home,.bool x.base]:=rfl
structure Ch where
 id:Int
 aQ:Sl
 nw:Bool
def Ch.pv (x:Ch):PV:=.agg [vI x.id,.bool x.aQ.bd,vI x.aQ.ty.kind,.str x.aQ.ty.name,vI x.aQ.ty.id,vI x.aQ.ty.home,.aD (x.aQ.ty.args.map Ty.pv),vI x.aQ.home,.bool x.aQ.base,.bool x.nw]
@[simp] theorem Ch.kI (x:Ch):x.pv=.agg [.int .i64 x.id,.bool x.aQ.bd,.int .i64 x.aQ.ty.kind,.str x.aQ.ty.name,.int .i64 x.aQ.ty.id,.int .i64 x.aQ.ty.home,.aD (x.aQ.ty.args.map Ty.pv),.int .i64 x.aQ.home,.bool x.aQ.base,.bool x.nw]:=rfl
structure dK where
 sl:List Sl
 tr:List Ch
def dK.pv (s:dK):PV:=.agg [.aD (s.sl.map Sl.pv),.aD (s.tr.map Ch.pv)]
@[simp] theorem dK.kI (s:dK):s.pv=.agg [.aD (s.sl.map Sl.pv),.aD (s.tr.map Ch.pv)]:=rfl
structure dK.Ok (s:dK) (n m:Nat):Prop where
 sl:s.sl.length≤n
 tr:s.tr.length≤m
 ty:∀x∈s.sl,x.ty.Ok
theorem L':El Sl.pv 8 true:=⟨fun _=>rfl,fun _=>rfl⟩
theorem IZ:El Ch.pv 10 true:=⟨fun _=>rfl,fun _=>rfl⟩
def gZ (s:List Sl) (t:Ty):Option Sl:=if t.kind=1∧0≤t.id then (match s[t.id.toNat]? with | some x=>if x.bd then some x else none | none=>none) else none
theorem fG {s:List Sl} {t:Ty} {x:Sl} (h:gZ s t=some x):t.kind=1∧∃i:Nat,t.id=i∧s[i]?=some x∧x.bd=true:=by
 unfold gZ at h
 split at h
 · rename_i q
   refine ⟨q.1,t.id.toNat,by omega,?_⟩
   split at h
   · rename_i y hy
     split at h
     · rename_i hb;cases h;exact ⟨hy,hb⟩
     · cases h
   · cases h
 · cases h
theorem c392 {s:dK} {t:Ty}:(aP AP).p 392 [s.pv,t.pv]=some [.bool (gZ s.sl t).isSome]:=by
 rw [aq (af:=g392) rfl rfl (by decide)]
 unfold gZ
 by_cases k:t.kind=1
 · by_cases h0:0≤t.id
   · obtain ⟨i,hi⟩:∃i:Nat,t.id=i:=⟨t.id.toNat,by omega⟩
     by_cases hl:i<s.sl.length
     · obtain ⟨x,hx⟩:=bp hl
       simp (disch:=omega) [-getElem?_pos,g392,k,hi,hl,hx]
       cases x.bd<;>rfl
     · have hx:s.sl[i]?=none:=by simp;omega
       simp (disch:=omega) [-getElem?_pos,g392,k,hi,hl,hx]
   · simp (disch:=omega) [g392,k,h0]
 · simp (disch:=omega) [g392,k]
def wk (s:List Sl):Nat→Ty→Ty
 | 0,t=>t
 | n+1,t=>match gZ s t with | some x=>wk s n x.ty | none=>t
theorem kL {s:List Sl} (hs:∀x∈s,x.ty.Ok):∀{n:Nat} {t:Ty},t.Ok→(wk s n t).Ok
 | 0,t,h=>h
 | n+1,t,h=>by
   unfold wk
   split
   · rename_i x hx
     obtain ⟨_,i,_,hi,_⟩:=fG hx
     exact kL hs (hs x (bm hi))
   · exact h
def tC (t:Ty):List AV:=[.pv (vI t.kind),.pv (.str t.name),.pv (vI t.id),.pv (vI t.home),.pv (.aD (t.args.map Ty.pv))]
def sC (s:dK):List AV:=[.pv (.aD (s.sl.map Sl.pv)),.pv (.aD (s.tr.map Ch.pv))]
def zC (k:Nat):List AV:=[.pv (vI 0),.pv (.str []),.pv (vI 0),.pv (vI 0),.own [] k]
theorem Pl {s:dK} (hs:Sm s.sl):∀(n i:Nat),s.sl.length+1-i=n→i≤s.sl.length+1→∀t:Ty,∃(i':Nat),
   cl AP g386L0 ⟨[(2,.az 2 0),(3,.az 3 0),(4,.az 4 0),(5,.pv (vI i))],[(2,sC s),(3,tC t),(4,zC 0)],[],[0]⟩ =
     some (.exit 0,⟨[(2,.az 2 0),(3,.az 3 0),(4,.az 4 0),(5,.pv (vI i')),(15,.pv (.bool false))],[(2,sC s),(3,tC (wk s.sl n t)),(4,zC 0)],[],[0]⟩)
 | 0,i,hn,hi,t=>by
   refine ⟨i,?_⟩
   have h1:¬(i:Int)≤s.sl.length:=by omega
   rw [g386L0e]
   simp [g386B0,sC,tC,zC,wk,h1]
 | n+1,i,hn,hi,t=>by
   have h1:(i:Int)≤s.sl.length:=by omega
   have k:=c392 (s:=s) (t:=t)
   unfold Sm at hs
   rw [g386L0e]
   cases hb:gZ s.sl t with
   | none=>
     refine ⟨i,?_⟩
     rw [hb] at k
     simp at k
     simp [g386B0,sC,tC,zC,wk,h1,hb,k]
   | some x=>
     obtain ⟨_,j,hj,hx,_⟩:=fG hb
     obtain ⟨i',e⟩:=Pl hs n (i+1) (by omega) (by omega) x.ty
     refine ⟨i',?_⟩
     rw [hb] at k
     have hl:j<s.sl.length:=by obtain ⟨h,_⟩:=List.getElem?_eq_some_iff.1 hx;exact h
     rw [g386L0e] at e
     simp [hj] at k
     simp [sC,tC,zC] at e
     simp (disch:=omega) [-getElem?_pos,g386B0,sC,tC,zC,wk,h1,hb,k,hj,hx,hl,au]
     rw [g386L0e]
     simp [e]
theorem c386 {s:dK} (hs:Sm s.sl) {t:Ty}:(aP AP).p 386 [s.pv,t.pv]=some [(wk s.sl (s.sl.length+1) t).pv]:=by
 obtain ⟨i',h⟩:=Pl hs _ 0 rfl (by omega) t
 rw [aq (af:=g386) rfl rfl (by decide)]
 rw [g386L0e] at h
 simp [sC,tC,zC] at h
 simp [g386,g386L0e,h]
end Go.Ab.Lw
namespace Go.Ab.Lw
open Ev
def jU (s:List Sl) (t:Ty):Ty:=wk s (s.length+1) t
inductive Tr (s:List Sl):Ty→Nat→Prop
 | mk {t:Ty} (ns:List Nat):ns.length=(jU s t).args.length→(∀(i:Nat) a n,(jU s t).args[i]?=some a→ns[i]?=some n→Tr s a n)→Tr s t (ns.sum+1)
def JV (s:List Sl) (l:List Ty) (ns:List Nat):Prop:=ns.length=l.length∧∀(i:Nat) a n,l[i]?=some a→ns[i]?=some n→Tr s a n
theorem JV.nil {s:List Sl}:JV s [] []:=⟨rfl,by intro i a n h;simp at h⟩
theorem JV.snoc {s:List Sl} {l:List Ty} {ns:List Nat} (h:JV s l ns) {a:Ty} {n:Nat} (ha:Tr s a n):JV s (l++[a]) (ns++[n]):=by
 refine ⟨by simp [h.1],?_⟩
 intro i b m hb hm
 have hl:=h.1
 by_cases hi:i<l.length
 · rw [List.getElem?_append_left hi] at hb
   rw [List.getElem?_append_left (by omega)] at hm
   exact h.2 i b m hb hm
 · rw [List.getElem?_append_right (by omega)] at hb
   rw [List.getElem?_append_right (by omega),hl] at hm
   by_cases e:i-l.length=0
   · rw [e] at hb hm
     simp at hb hm
     rw [←hb,←hm];exact ha
   · have h1:1≤i-l.length:=by omega
     have:([a]:List Ty)[i-l.length]?=none:=by simp;omega
     rw [this] at hb;cases hb
theorem Tr.inv {s:List Sl} {t:Ty} {r:Nat} (h:Tr s t r):∃ns,JV s (jU s t).args ns∧r=ns.sum+1:=by
 cases h with
 | mk ns h1 h2=>exact ⟨ns,⟨h1,h2⟩,rfl⟩
theorem uP:∀{ns:List Nat} {i n:Nat},ns[i]?=some n→n≤ns.sum
 | a::r,0,n,h=>by simp at h;subst h;simp
 | a::r,i+1,n,h=>by simp at h;have:=uP h;simp;omega
theorem Pm {s:dK} (hs:Sm s.sl) (hO:∀x∈s.sl,x.ty.Ok) {m:Nat} (hm:m<1000000) (IH:∀m':Nat,m'<m→∀t,t.Ok→∃r:Nat,(aP AP).p 371 [s.pv,t.pv,vI m']=some [vI r]∧1≤r∧r≤m'+1∧(r≤m'→Tr s.sl t r))
   {x:Ty} (hx:x.Ok):∀(k i n:Nat),x.args.length-i=k→i≤x.args.length→1≤n→n≤m+1→(n≤m→∃ns,JV s.sl (x.args.take i) ns∧n=ns.sum+1)→∃i' n':Nat,
   cl AP g371L0 ⟨[(2,.pv (vI m)),(3,.az 3 0),(4,.az 4 0),(7,.pv (vI n)),(8,.pv (vI i))],[(3,sC s),(4,tC x)],[],[]⟩ =
     some (.exit 0,⟨[(2,.pv (vI m)),(3,.az 3 0),(4,.az 4 0),(7,.pv (vI n')),(8,.pv (vI i')),(21,.pv (.bool false))],[(3,sC s),(4,tC x)],[],[]⟩)∧1≤n'∧n'≤m+1∧(n'≤m→∃ns,JV s.sl x.args ns∧n'=ns.sum+1)
 | 0,i,n,hk,hi,h1,h2,h3=>by
   have:i=x.args.length:=by omega
   subst this
   refine ⟨x.args.length,n,?_,h1,h2,by simpa using h3⟩
   rw [g371L0e]
   simp [g371B0,sC,tC]
 | k+1,i,n,hk,hi,h1,h2,h3=>by
   have hi:i<x.args.length:=by omega
   obtain ⟨a,ha⟩:=bp hi
   have hsm:=hx.sm
   unfold Sm at hsm
   by_cases hn:n≤m
   · have g0:m-n<m:=by clear h3;omega
     obtain ⟨r,e,r1,r2,r3⟩:=IH (m-n) g0 a (hx.fM a (bm ha))
     have hsub:((m:Int)-n)=((m-n:Nat):Int):=by clear h3 r3;omega
     have g5:n+r≤m→∃ns,JV s.sl (x.args.take (i+1)) ns∧n+r=ns.sum+1:=by
       intro h
       obtain ⟨ns,q,e2⟩:=h3 hn
       refine ⟨ns++[r],?_,by rw [List.sum_append,e2];simp;omega⟩
       rw [List.take_add_one,ha]
       have hr:r≤m-n:=by clear h3;omega
       exact q.snoc (r3 hr)
     clear h3
     have g1:x.args.length-(i+1)=k:=by clear g5 r3;omega
     have g2:1≤n+r:=by clear g5 r3;omega
     have g3:n+r≤m+1:=by clear g5 r3;omega
     obtain ⟨i',n',e',q1,q2,q3⟩:=Pm hs hO hm IH hx k (i+1) (n+r) g1 hi g2 g3 g5
     refine ⟨i',n',?_,q1,q2,q3⟩
     have hnm:(n:Int)≤m:=by omega
     rw [g371L0e] at e' ⊢
     simp at e
     simp [sC,tC] at e'
     simp (disch:=omega) [-getElem?_pos,g371B0,sC,tC,hi,ha,hnm,au,hsub,e]
     rw [g371L0e]
     simp [e']
   · refine ⟨i,n,?_,h1,h2,fun h=>absurd h hn⟩
     clear h3
     have hnm:¬(n:Int)≤m:=by omega
     rw [g371L0e]
     simp (disch:=omega) [-getElem?_pos,g371B0,sC,tC,hi,hnm]
theorem c371 {s:dK} (hs:Sm s.sl) (hO:∀x∈s.sl,x.ty.Ok) (m:Nat) (hm:m<1000000):∀t:Ty,t.Ok→∃r:Nat,(aP AP).p 371 [s.pv,t.pv,vI m]=some [vI r]∧1≤r∧r≤m+1∧(r≤m→Tr s.sl t r):=by
 induction m using Nat.strongRecOn with
 | ind m ih=>
   intro t ht
   have k:=c386 hs (t:=t)
   have hw:(wk s.sl (s.sl.length+1) t).Ok:=kL hO ht
   obtain ⟨i',n',e,q1,q2,q3⟩:=Pm hs hO hm (fun m' h t ht=>ih m' h (by omega) t ht) hw _ 0 1 rfl (by omega) (by omega) (by omega) (fun _=>⟨[],by simpa using JV.nil,rfl⟩)
   refine ⟨min n' (m+1),?_,by clear q3;omega,by clear q3;omega,?_⟩
   · rw [aq (af:=g371) rfl rfl (by decide)]
     rw [g371L0e] at e
     have hmin:min (n':Int) ((m:Int)+1)=((min n' (m+1):Nat):Int):=by omega
     generalize wk s.sl (s.sl.length+1) t=x at *
     simp at k
     simp [sC,tC] at e
     simp (disch:=omega) [g371,k,g371L0e,e,au,hmin]
     omega
   · intro h
     have hq:n'≤m:=by clear q3;omega
     obtain ⟨ns,a,b⟩:=q3 hq
     have:min n' (m+1)=ns.sum+1:=by omega
     rw [this]
     exact .mk ns a.1 a.2
end Go.Ab.Lw
namespace Go.Ab.Lw
open Ev
def uC (x:Ty) (acc:List Ty) (k:Nat):List AV:=[.pv (vI x.kind),.pv (.str x.name),.pv (vI x.id),.pv (vI x.home),.own (acc.map Ty.pv) k]
theorem Pn {s:dK} {x:Ty} (hx:x.Ok) {ns:List Nat} (hns:ns.length=x.args.length) (IH:∀(i:Nat) a n,x.args[i]?=some a→ns[i]?=some n→∃u:Ty,(aP AP).p 373 [s.pv,a.pv]=some [u.pv]∧u.Ok∧u.nodes.length=n):∀(k i:Nat),x.args.length-i=k→i≤x.args.length→∀acc:List Ty,acc.length=i→(∀u∈acc,u.Ok)→(acc.flatMap Ty.nodes).length=(ns.take i).sum→∃us:List Ty,
   cl AP g373L0 ⟨[(2,.az 2 0),(3,.az 3 0),(4,.az 4 0),(5,.az 5 0),(6,.pv (vI i))],[(2,sC s),(3,tC x),(4,zC 0),(5,uC x acc 1)],[],[0,acc.length]⟩ =
     some (.exit 0,⟨[(2,.az 2 0),(3,.az 3 0),(4,.az 4 0),(5,.az 5 0),(6,.pv (vI x.args.length)),(16,.pv (.bool false))],[(2,sC s),(3,tC x),(4,zC 0),(5,uC x us 1)],[],[0,us.length]⟩)∧us.length=x.args.length∧(∀u∈us,u.Ok)∧(us.flatMap Ty.nodes).length=ns.sum
 | 0,i,hk,hi,acc,ha,hu,hc=>by
   have:i=x.args.length:=by omega
   subst this
   refine ⟨acc,?_,ha,hu,by rw [hc,←hns,List.take_length]⟩
   rw [g373L0e]
   simp [g373B0,sC,tC,zC,uC]
 | k+1,i,hk,hi,acc,ha,hu,hc=>by
   have hi:i<x.args.length:=by omega
   obtain ⟨a,hax⟩:=bp hi
   obtain ⟨n,hn⟩:=bp (l:=ns) (i:=i) (by omega)
   have hsm:=hx.sm
   unfold Sm at hsm
   obtain ⟨u,e,hO,hnn⟩:=IH i a n hax hn
   obtain ⟨us,e',h1,h2,h3⟩:=Pn hx hns IH k (i+1) (by omega) (by omega) (acc++[u]) (by simp;omega) (by
     intro y hy;simp at hy;rcases hy with hy | rfl
     · exact hu y hy
     · exact hO) (by rw [List.take_add_one,hn,List.flatMap_append,List.length_append,hc];simp [hnn])
   refine ⟨us,?_,h1,h2,h3⟩
   have hb:(acc.length+1)*64≤140737488355328:=by omega
   rw [g373L0e] at e' ⊢
   simp at e
   simp [sC,tC,zC,uC] at e'
   simp (disch:=omega) [-getElem?_pos,g373B0,sC,tC,zC,uC,hi,hax,au,e,hb]
   rw [g373L0e]
   simp [e']
theorem c373 {s:dK} (hs:Sm s.sl) (hO:∀x∈s.sl,x.ty.Ok) (r:Nat):∀t:Ty,Tr s.sl t r→t.Ok→∃u:Ty,(aP AP).p 373 [s.pv,t.pv]=some [u.pv]∧u.Ok∧u.nodes.length=r:=by
 induction r using Nat.strongRecOn with
 | ind r ih=>
   intro t ht hto
   have k:=c386 hs (t:=t)
   have hw:(wk s.sl (s.sl.length+1) t).Ok:=kL hO hto
   obtain ⟨ns,hn,hr⟩:=ht.inv
   unfold jU at hn
   obtain ⟨us,e,h1,h2,h3⟩:=Pn (s:=s) hw hn.1 (fun i a n hi hni=>by
     have:=uP hni
     exact ih n (by omega) a (hn.2 i a n hi hni) (hw.fM a (bm hi))) _ 0 rfl (by omega) [] rfl (by simp) rfl
   refine ⟨⟨(wk s.sl (s.sl.length+1) t).kind,(wk s.sl (s.sl.length+1) t).name,(wk s.sl (s.sl.length+1) t).id,(wk s.sl (s.sl.length+1) t).home,us⟩,?_,⟨by have:=hw.sm;unfold Sm at *;simp only;omega,h2⟩,by rw [Ty.bl];simp only [List.length_cons];omega⟩
   rw [aq (af:=g373) rfl rfl (by decide)]
   rw [g373L0e] at e
   generalize wk s.sl (s.sl.length+1) t=x at *
   simp at k
   simp [sC,tC,zC,uC] at e
   simp [g373,k,g373L0e,e]
theorem c355 {s:dK} (hs:Sm s.sl) (hO:∀x∈s.sl,x.ty.Ok) {m:Nat} (hm:m<1000000) {t:Ty} (ht:t.Ok):∃r:Nat,(aP AP).p 355 [s.pv,t.pv,vI m]=some [vI r]∧1≤r∧r≤m+1∧(r≤m→Tr s.sl t r):=by
 obtain ⟨r,e,h⟩:=c371 hs hO m hm t ht
 refine ⟨r,?_,h⟩
 rw [aq (af:=g355) rfl rfl (by decide)]
 simp at e
 have hmx:max (m:Int) 0=m:=by omega
 simp [g355,hmx,e]
theorem c358 {s:dK} (hs:Sm s.sl) (hO:∀x∈s.sl,x.ty.Ok) {t:Ty} (ht:t.Ok):∃(u:Ty) (b:Bool),(aP AP).p 358 [s.pv,t.pv]=some [u.pv,.bool b]∧u.Ok∧u.nodes.length≤4000:=by
 obtain ⟨r,e,h1,h2,h3⟩:=c355 hs hO (m:=4000) (by omega) ht
 simp at e
 by_cases hr:r≤4000
 · obtain ⟨u,e2,hu,hnu⟩:=c373 hs hO r t (h3 hr) ht
   refine ⟨u,true,?_,hu,by omega⟩
   simp at e2
   have hr':¬(4000:Int)<r:=by omega
   rw [aq (af:=g358) rfl rfl (by decide)]
   simp [g358,e,hr',e2]
 · refine ⟨bN,false,?_,cO rfl,by rw [Ty.bl];simp [bN]⟩
   have hr':(4000:Int)<r:=by omega
   rw [aq (af:=g358) rfl rfl (by decide)]
   simp [g358,e,hr',bN]
theorem c388:(aP AP).p 388 []=some [(dK.mk [] []).pv]:=by
 rw [aq (af:=g388) rfl rfl (by decide)]
 simp [g388]
def di (s:dK) (home:Int) (b:Bool):dK:=⟨s.sl++[⟨false,bN,home,b⟩],s.tr++[⟨s.sl.length,⟨false,bN,0,false⟩,true⟩]⟩
theorem c381 {s:dK} {n m:Nat} (hs:s.Ok n m) (hn:n≤1000000) (hm:m≤1000000000) (home:Int) (b:Bool):(aP AP).p 381 [s.pv,vI home,.bool b]=some [(di s home b).pv,(cd s.sl.length).pv]:=by
 have k:=c63 (n:=s.sl.length)
 have h1:=hs.sl
 have h2:=hs.tr
 have b1:s.sl.length*88≤140737488355328:=by omega
 have b2:(s.sl.length+1)*88≤140737488355328:=by omega
 have b3:s.tr.length*104≤140737488355328:=by omega
 have b4:(s.tr.length+1)*104≤140737488355328:=by omega
 have e1:=L'.head s.sl
 have e2:=IZ.head s.tr
 simp at k e1 e2
 rw [aq (af:=g381) rfl rfl (by decide)]
 simp (disch:=omega) [g381,di,bN,cd,k,b1,b2,b3,b4,e1,e2]
 (repeat' split)<;>simp_all
end Go.Ab.Lw
namespace Go.Ab.Lw
open Ev
def tx (l:List (List UInt8)):List AV:=l.map fun s=>AV.pv (.str s)
def SA (X:Sh) (l:List (List UInt8)) (t:List UInt8):Sh:=X++[some (tx l),some [.pv (.str t)]]
theorem gH {l:List (List UInt8)}:∀v∈tx l,∃p,v=AV.pv p:=by
 intro v hv
 simp only [tx,List.mem_map] at hv
 obtain ⟨s,_,rfl⟩:=hv
 exact ⟨_,rfl⟩
theorem eW {X:Sh} (hX:a7 X) {l:List (List UInt8)} {t:List UInt8}:a7 (SA X l t):=by
 refine hX.app fun cs hc=>?_
 simp at hc
 rcases hc with rfl | rfl
 · exact gH
 · intro v hv;simp at hv;exact ⟨_,hv⟩
theorem BA {X:Sh} {l:List (List UInt8)} {t:List UInt8}:(SA X l t)[X.length]?=some (some (tx l)):=by simp [SA]
theorem I0 {X:Sh} {l:List (List UInt8)} {t:List UInt8}:(SA X l t)[X.length+1]?=some (some [.pv (.str t)]):=by simp [SA]
theorem I2 {X:Sh} {l l':List (List UInt8)} {t:List UInt8}:(SA X l t).set X.length (some (tx l'))=SA X l' t:=by simp [SA]
theorem uQ {X:Sh} {l:List (List UInt8)} {t:List UInt8}:(SA X l t).length=X.length+2:=by simp [SA]
theorem I6 {l:List (List UInt8)} {i:Nat} {s:List UInt8} (h:l[i]?=some s):(tx l)[i]?=some (.pv (.str s)):=by simp [tx,h]
theorem kM {l:List (List UInt8)}:(tx l).length=l.length:=by simp [tx]
theorem ND {l:List (List UInt8)} {i:Nat} (h:i<l.length) {s:List UInt8}:bu (tx l) i [.pv (.str s)]=tx (l.set i s):=by
 rw [List.set_eq_take_append_cons_drop,if_pos h]
 simp [aJ,tx,List.map_take,List.map_drop]
theorem c413 {SH:Sh} (hn:∀aQ ts,bC aQ ts SH=(SH,aQ,ts)) {c:Nat} {t x:List UInt8} (hb:SH[c]?=some (some [.pv (.str t)])) (hc:c<SH.length) :
   (aP AP).i 413 [.pv (.str x),.aX c 0] SH []=some ([.pv (.bool (decide (x=t)))],SH,[]):=by
 rw [aK (af:=g413) rfl (by simp [g413])]
 simp [-getElem?_pos,g413,hb,hn]
 by_cases e:x=t<;>simp [e]
theorem I7 {SH:Sh} (hn:∀aQ ts,bC aQ ts SH=(SH,aQ,ts)) (hs:∀n,eB n SH=SH) {c:Nat} {t x:List UInt8} (hb:SH[c]?=some (some [.pv (.str t)])) (hc:c<SH.length) :
   exec (aP AP) .eK [.fn 413 [.aX c 0],.pv (.str x)] none SH []=some ⟨.pv (.bool (decide (x=t))),none,SH,[]⟩:=by
 have k:=c413 hn hb hc (x:=x)
 simp [hn,k,hs]
theorem Po {SH:Sh} (hn:∀aQ ts,bC aQ ts SH=(SH,aQ,ts)) (hs:∀n,eB n SH=SH) {b c:Nat} {t:List UInt8} {l:List (List UInt8)} (hS:Sm l) (ha:SH[b]?=some (some (tx l))) (hb:SH[c]?=some (some [.pv (.str t)])) (hc:c<SH.length) :
   ∀(n i:Nat),l.length-i=n→i≤l.length →
   cl AP (II 1 false) ⟨[(0,.bq b 1 l.length false),(1,.fn 413 [.aX c 0]),(7,.pv (vI l.length)),(8,.pv (vI i))],[],SH,[]⟩ =
     match cA (fun x=>decide (x=t)) (l.drop i) with
     | some k=>some (.ret,⟨[(4,.pv (vI (i+k:Nat)))],[],SH,[]⟩)
     | none=>some (.exit 0,⟨[(0,.bq b 1 l.length false),(1,.fn 413 [.aX c 0]),(7,.pv (vI l.length)),(8,.pv (vI l.length)),(9,.pv (.bool false))],[],SH,[]⟩)
 | 0,i,hk,hi=>by
   have:i=l.length:=by omega
   subst this
   rw [nb]
   simp [uO,cA,hn]
 | n+1,i,hk,hi=>by
   have hi:i<l.length:=by omega
   obtain ⟨x,hx⟩:=bp hi
   unfold Sm at hS
   have ih:=Po hn hs hS ha hb hc n (i+1) (by omega) (by omega)
   have hg:=I6 hx
   have hB:cQ (tx l)=false:=dh gH
   have hle:i+1≤(tx l).length:=by rw [kM];omega
   have q:=I7 hn hs hb hc (x:=x)
   simp at ih
   rw [nb,bL hx]
   by_cases e:x=t
   · rw [decide_eq_true e] at q
     subst e
     simp (disch:=omega) [-getElem?_pos,-eg,uO,hx,hi,ha,hg,hB,hle,cA,hn,q]
   · rw [decide_eq_false e] at q
     simp (disch:=omega) [-getElem?_pos,-eg,uO,hx,hi,ha,hg,hB,hle,e,cA,au,hn,q,ih]
     cases cA (fun x=>decide (x=t)) (l.drop (i+1)) with
     | none=>rfl
     | some k=>simp;omega
end Go.Ab.Lw
namespace Go.Ab.Lw
open Ev
structure Row {α:Type} (f:α→List PV) (sz:Nat):Prop where
 pos:0<sz
 len:∀x,(f x).length=sz
section
variable {α:Type} {f:α→List PV} {sz:Nat}
def bI (f:α→List PV) (l:List α):List AV:=l.flatMap fun x=>(f x).map .pv
theorem Lo:bI f []=[]:=rfl
theorem jt {x:α} {l:List α}:bI f (x::l)=(f x).map .pv++bI f l:=rfl
theorem uR {l m:List α}:bI f (l++m)=bI f l++bI f m:=by simp [bI]
theorem d3 (h:Row f sz):∀{l:List α},(bI f l).length=l.length*sz
 | []=>by simp [bI]
 | x::r=>by rw [jt,List.length_append,List.length_map,h.len,d3 h,List.length_cons,Nat.add_mul];omega
theorem cP {l:List α}:∀v∈bI f l,∃p,v=AV.pv p:=by
 intro v hv
 simp only [bI,List.mem_flatMap,List.mem_map] at hv
 obtain ⟨x,_,p,_,rfl⟩:=hv
 exact ⟨p,rfl⟩
theorem rm (h:Row f sz):∀{l:List α} {i:Nat} {x:α},l[i]?=some x→(bI f l).drop (i*sz)=(f x).map .pv++bI f (l.drop (i+1))
 | x::r,0,y,e=>by simp at e;subst e;simp [bI]
 | x::r,i+1,y,e=>by
   have ih:=rm h (l:=r) (i:=i) (x:=y) (by simpa using e)
   rw [jt,List.drop_append,List.drop_eq_nil_of_le (by rw [List.length_map,h.len,Nat.add_mul];omega),List.length_map,h.len,show (i+1)*sz-sz=i*sz from by rw [Nat.add_mul];omega,ih]
   simp
 | [],_,_,e=>by simp at e
theorem xJ (h:Row f sz):∀{l:List α} {i:Nat},i≤l.length→(bI f l).take (i*sz)=bI f (l.take i)
 | l,0,_=>by simp [bI]
 | x::r,i+1,e=>by
   have ih:=xJ h (l:=r) (i:=i) (by simpa using e)
   rw [jt,List.take_append,List.take_of_length_le (by rw [List.length_map,h.len,Nat.add_mul];omega),List.length_map,h.len,show (i+1)*sz-sz=i*sz from by rw [Nat.add_mul];omega,ih]
   simp [jt]
 | [],i+1,e=>by simp at e
theorem pN (h:Row f sz) {l:List α} {i:Nat} {x:α} (e:l[i]?=some x) {o k:Nat} (hk:o+k≤sz):((bI f l).drop (i*sz+o)).take k=(((f x).drop o).take k).map .pv:=by
 rw [←List.drop_drop,rm h e,List.drop_append,List.take_append,List.length_drop,List.length_map,h.len]
 have e1:k-(sz-o)=0:=by omega
 rw [e1,List.take_zero,List.append_nil,←List.map_drop,←List.map_take]
theorem NF (h:Row f sz) {l:List α} {i:Nat} (hi:i<l.length) {o k:Nat} (hk:o+k≤sz):i*sz+o+k≤(bI f l).length:=by
 rw [d3 h]
 have:(i+1)*sz≤l.length*sz:=Nat.mul_le_mul_right _ hi
 rw [Nat.add_mul] at this
 omega
theorem pO (h:Row f sz) {l:List α} {i:Nat} {x y:α} (e:l[i]?=some x) {o:Nat} {vs:List PV} (hk:o+vs.length≤sz) (hy:f y=(f x).take o++vs++(f x).drop (o+vs.length)):bu (bI f l) (i*sz+o) (vs.map .pv)=bI f (l.set i y):=by
 have hi:=(List.getElem?_eq_some_iff.1 e).1
 have e3:l.set i y=l.take i++y::l.drop (i+1):=by rw [List.set_eq_take_append_cons_drop,if_pos hi]
 have e1:=rm h e
 have e2:=xJ h (l:=l) (i:=i) (by omega)
 rw [e3,aJ,uR,jt,←e2,hy]
 have e4:(bI f l).drop (i*sz+o+(vs.map AV.pv).length)=((f x).drop (o+vs.length)).map .pv++bI f (l.drop (i+1)):=by
   rw [List.length_map,Nat.add_assoc,←List.drop_drop,e1,List.drop_append,List.length_map,h.len,show o+vs.length-sz=0 from by omega]
   simp
 have e5:(bI f l).take (i*sz+o)=(bI f l).take (i*sz)++((f x).take o).map .pv:=by
   rw [List.take_add,e1,List.take_append,List.length_map,h.len,show o-sz=0 from by omega]
   simp
 rw [e4,e5]
 simp
theorem Cj (h:Row f sz):∀{l:List α},∃ps,eL (bI f l)=some ps∧(chunk sz l.length ps).map PV.agg=l.map fun x=>.agg (f x)
 | []=>⟨[],rfl,rfl⟩
 | x::r=>by
   obtain ⟨ps,h1,h2⟩:=Cj h (l:=r)
   have key:∀(a:List PV) (b:List AV),eL b=some ps→eL (a.map AV.pv++b)=some (a++ps):=by
     intro a b hb
     induction a with
     | nil=>simpa using hb
     | cons c a ih=>simp only [List.map_cons,List.cons_append,eL,ji,ih]
   refine ⟨f x++ps,key _ _ h1,?_⟩
   simp only [List.length_cons,chunk,List.map_cons]
   rw [List.take_left' (h.len x),List.drop_left' (h.len x),h2]
theorem pP (h:Row f sz) {l:List α}:((eL (bI f l)).bind (eA sz true l.length)).map PV.aD=some (.aD (l.map fun x=>.agg (f x))):=by
 obtain ⟨ps,h1,h2⟩:=Cj h (l:=l)
 rw [h1]
 simp only [Option.bind_some,eA,if_true,Option.map_some,h2]
theorem pQ (h:Row f sz) {l:List α}:((l.map fun x=>PV.agg (f x)).flatMap bw).map AV.pv=bI f l:=by
 induction l with
 | nil=>rfl
 | cons x r ih=>simp only [List.map_cons,List.flatMap_cons,List.map_append,ih,jt,bw]
end
abbrev nn (k:Nat):Sh:=List.replicate k none
theorem fw (k:Nat):a7 (nn k):=by
 intro cs hc
 simp [nn,List.mem_replicate] at hc
end Go.Ab.Lw
namespace Go.Ab.Lw
open Ev
theorem Pp {sz:Nat} {l:List PV} {k:IntKind} {h:Int} (h0:0≤h) (h1:h≤l.length):cI false sz false true false [.pv (.aD l),.pv (.int k h)]=some (.pv (.aD (l.take h.toNat))):=by
 simp [cI,dS,dG,h0,h1]
theorem Pq {sz τ:Nat} {l:List PV} {k:IntKind} {h:Int} (h0:0≤h) (h1:h≤l.length):cI false sz false true false [.own l τ,.pv (.int k h)]=some (.pv (.aD (l.take h.toNat))):=by
 simp [cI,dS,dG,h0,h1]
end Go.Ab.Lw
namespace Go.Ab.Lw
open Ev
def Sl.cells (x:Sl):List PV:=[.bool x.bd,vI x.ty.kind,.str x.ty.name,vI x.ty.id,vI x.ty.home,.aD (x.ty.args.map Ty.pv),vI x.home,.bool x.base]
theorem mj:Row Sl.cells 8:=⟨by omega,fun _=>rfl⟩
theorem NG {l:List Sl}:((eL (bI Sl.cells l)).bind (eA 8 true l.length)).map PV.aD=some (.aD (l.map Sl.pv)):=pP mj
theorem NH {l:List Sl}:((l.map Sl.pv).flatMap bw).map AV.pv=bI Sl.cells l:=pQ mj
def gw (s:dK) (i:Nat) (o x:Sl):dK:=⟨s.sl.set i x,s.tr++[⟨i,o,false⟩]⟩
theorem c393 {s:dK} {n m:Nat} (hs:s.Ok n m) (hn:n≤1000000) (hm:m≤1000000000) {i:Nat} {o:Sl} (hi:s.sl[i]?=some o) (x:Sl):(aP AP).p 393 [s.pv,vI i,x.pv]=some [(gw s i o x).pv,.bool true]:=by
 have h1:=hs.sl
 have h2:=hs.tr
 have hl:i<s.sl.length:=by obtain ⟨h,_⟩:=List.getElem?_eq_some_iff.1 hi;exact h
 have b1:s.sl.length*88≤140737488355328:=by omega
 have b3:s.tr.length*104≤140737488355328:=by omega
 have b4:(s.tr.length+1)*104≤140737488355328:=by omega
 have hge:¬s.sl.length≤i:=by omega
 have hle8:i*8+8≤s.sl.length*8:=by omega
 have hf:∀S:Sh,de S (.az 8 0)=none:=fun _=>rfl
 have e1:=L'.head s.sl
 have e2:=IZ.head s.tr
 have hne:¬s.sl=[]:=by intro h;rw [h] at hl;simp at hl
 have hmp:=NH (l:=s.sl)
 have hB:cQ (bI Sl.cells s.sl)=false:=dh cP
 have hB2:cQ (bI Sl.cells (s.sl.set i x))=false:=dh cP
 have hlen:(bI Sl.cells s.sl).length=s.sl.length*8:=d3 mj
 have hlen2:(bI Sl.cells (s.sl.set i x)).length=s.sl.length*8:=by rw [d3 mj];simp
 have hle:=NF mj hl (o:=0) (k:=8) (by omega)
 have hset:=pO mj hi (y:=x) (o:=0) (vs:=x.cells) (by rw [mj.len];omega) (by
   simp [Sl.cells])
 have hq:∀aQ ts,bC aQ ts [some (bI Sl.cells s.sl)]=([some (bI Sl.cells s.sl)],aQ,ts):=(a7.one cP).norm
 have hq2:∀aQ ts,bC aQ ts [some (bI Sl.cells (s.sl.set i x))]=([some (bI Sl.cells (s.sl.set i x))],aQ,ts):=(a7.one cP).norm
 have hlst:=NG (l:=s.sl.set i x)
 rw [List.length_set] at hlst
 simp only [Nat.add_zero] at hset hle
 generalize bI Sl.cells (s.sl.set i x)=T1 at *
 generalize bI Sl.cells s.sl=T at *
 simp [Sl.cells] at hset
 simp at hlst hmp e1 e2
 rw [aq (af:=g393) rfl rfl (by decide)]
 simp (disch:=omega) [-getElem?_pos,g393,hi,hl,b1,b3,b4,e1,e2,hne,hmp,hB,hB2,hlen,hlen2,hset,hq,hq2,hlst,gw,hge,hle8,hf]
end Go.Ab.Lw
namespace Go.Ab.Lw
open Ev
theorem c194g {t:Ty} (ht:t.Ok):∃(a b:Ty) (c:Bool),(aP AP).p 194 [t.pv]=some [a.pv,b.pv,.bool c]∧a.Ok∧b.Ok∧(c=true→t=⟨4,[45,62],t.id,t.home,[a,b]⟩):=by
 by_cases h:t.kind=4∧t.name=[45,62]∧t.args.length=2
 · obtain ⟨h1,h2,h3⟩:=h
   match e:t.args,h3 with
   | [a,b],_=>
     refine ⟨a,b,true,?_,ht.fM a (by simp [e]),ht.fM b (by simp [e]),?_⟩
     · rw [aq (af:=g194) rfl rfl (by decide)]
       simp [g194,h1,h2,e]
     · intro _
       cases t
       simp at h1 h2 e ⊢
       simp [h1,h2,e]
 · refine ⟨bN,bN,false,?_,cO rfl,cO rfl,by simp⟩
   rw [aq (af:=g194) rfl rfl (by decide)]
   by_cases h1:t.kind=4
   · by_cases h2:t.name=[45,62]
     · have h3:¬(t.args.length:Int)=2:=by
         intro q;exact h ⟨h1,h2,by omega⟩
       simp [g194,h1,h2,h3,bN]
     · simp [g194,h1,h2,bN]
   · simp [g194,h1,bN]
theorem QN {S:List Ty} {l:List Ty} (hS:Sm l) (hO:∀t∈l,t.Ok) (hk:∀x∈l.flatMap (Ty.eJ 3),x∈S):∀(n i:Nat),l.length-i=n→i≤l.length→∀out,fu S out →
   cl AP g59L0 ⟨[(0,.pv (.aD (l.map Ty.pv))),(3,.own (out.map Ty.pv) 0),(4,.pv (vI i))],[],[],[out.length]⟩ =
     some (.exit 0,⟨[(0,.pv (.aD (l.map Ty.pv))),(3,.own ((((l.drop i).flatMap (Ty.eJ 3)).foldl gv out).map Ty.pv) 0),(4,.pv (vI l.length)),(8,.pv (.bool false))],[],[],[(((l.drop i).flatMap (Ty.eJ 3)).foldl gv out).length]⟩)
 | 0,i,hn,hi,out,hc=>by
   have:i=l.length:=by omega
   subst this
   rw [g59L0e]
   simp [g59B0]
 | n+1,i,hn,hi,out,hc=>by
   have hi:i<l.length:=by omega
   obtain ⟨x,hx⟩:=bp hi
   unfold Sm at hS
   have hkx:∀y∈x.eJ 3,y∈S:=fun y hy=>hk y (by simp only [List.mem_flatMap];exact ⟨x,bm hx,hy⟩)
   have k:=c99 (kd:=3) (hO x (bm hx)) hkx out hc
   have ih:=QN hS hO hk n (i+1) (by omega) (by omega) _ (hc.fold hkx)
   rw [g59L0e] at ih ⊢
   rw [bL hx]
   simp at k ih
   simp (disch:=omega) [-getElem?_pos,g59B0,hx,hi,k,au]
   rw [g59L0e]
   simp [ih]
theorem c59 {S:List Ty} (hf:S.length<1099511627776) (hSo:∀x∈S,x.Ok) {l:List Ty} (hS:Sm l) (hO:∀t∈l,t.Ok) (hk:∀x∈l.flatMap (Ty.eJ 3),x∈S):∃r:List Ty,(aP AP).p 59 [.aD (l.map Ty.pv)]=some [.aD (r.map Ty.pv)]∧Sm r∧∀x∈r,x∈S:=by
 have c0:fu S []:=⟨by simp,by simp,hf,hSo⟩
 have h:=QN hS hO hk _ 0 rfl (by omega) [] c0
 have hc:=c0.fold hk
 refine ⟨_,?_,hc.len,hc.sub⟩
 rw [aq (af:=g59) rfl rfl (by decide)]
 rw [g59L0e] at h
 simp at h
 simp [g59,g59L0e,h]
def lQ (s:List Sl) (t:Ty):Bool:=decide (t.kind=1∧0≤t.id∧t.id<s.length)
theorem c396 {s:dK} {t:Ty}:(aP AP).p 396 [s.pv,t.pv]=some [.bool (lQ s.sl t)]:=by
 rw [aq (af:=g396) rfl rfl (by decide)]
 by_cases h1:t.kind=1
 · by_cases h2:0≤t.id
   · by_cases h3:t.id<s.sl.length
     · simp [g396,lQ,h1,h2,h3]
     · simp [g396,lQ,h1,h2,h3]
   · simp [g396,lQ,h1,h2]
 · simp [g396,lQ,h1]
end Go.Ab.Lw
namespace Go.Ab.Lw
open Ev
inductive gS:Ty→Int→Prop
 | var {t:Ty}:t.kind=1→gS t t.id
 | arg {t a:Ty} {v:Int}:t.kind≠1→a∈t.args→gS a v→gS t v
def Edge (s:List Sl) (i v:Int):Prop:=∃(k:Nat) (x:Sl),i=k∧s[k]?=some x∧x.bd=true∧gS x.ty v
inductive Ck (s:List Sl):Int→Int→Prop
 | refl (i:Int):Ck s i i
 | step {i j k:Int}:Edge s i j→Ck s j k→Ck s i k
def Ge (s:List Sl):Prop:=∃rk:Int→Nat,∀i v,Edge s i v→rk v<rk i
theorem Ge.of {s s':List Sl} (h:Ge s) (he:∀i v,Edge s' i v→Edge s i v):Ge s':=by
 obtain ⟨rk,hr⟩:=h
 exact ⟨rk,fun i v e=>hr i v (he i v e)⟩
theorem gS.bound (rk:Int→Nat) (t:Ty):∃M,∀v,gS t v→rk v<M:=by
 refine Ty.eE (p:=fun t=>∃M,∀v,gS t v→rk v<M) ?_ t
 intro t ih
 by_cases k:t.kind=1
 · refine ⟨rk t.id+1,?_⟩
   intro v h
   cases h with
   | var _=>omega
   | arg q _ _=>exact absurd k q
 · have key:∀l:List Ty,(∀a∈l,∃M,∀v,gS a v→rk v<M)→∃M,∀a∈l,∀v,gS a v→rk v<M:=by
     intro l
     induction l with
     | nil=>intro _;exact ⟨0,by simp⟩
     | cons a r ihr=>
       intro h
       obtain ⟨M,hM⟩:=h a (by simp)
       obtain ⟨N,hN⟩:=ihr fun b hb=>h b (by simp [hb])
       refine ⟨M+N,?_⟩
       intro b hb v hv
       simp at hb
       rcases hb with rfl | hb
       · have:=hM v hv;omega
       · have:=hN b hb v hv;omega
   obtain ⟨M,hM⟩:=key t.args ih
   refine ⟨M,?_⟩
   intro v h
   cases h with
   | var q=>exact absurd q k
   | arg _ ha h=>exact hM _ ha v h
theorem xK {s:List Sl} {k:Nat} {x:Sl} {i v:Int} (h:Edge (s.set k x) i v):(i=k∧x.bd=true∧gS x.ty v)∨(i≠k∧Edge s i v):=by
 obtain ⟨j,y,rfl,hy,hb,ho⟩:=h
 rw [List.getElem?_set] at hy
 by_cases e:k=j
 · subst e
   by_cases hl:k<s.length
   · simp [hl] at hy
     subst hy
     exact .inl ⟨rfl,hb,ho⟩
   · simp [hl] at hy
 · simp [e] at hy
   exact .inr ⟨by omega,j,y,rfl,hy,hb,ho⟩
theorem xL {s:List Sl} {k:Nat} {o x:Sl} (h:Ge s) (hk:s[k]?=some o) (hb:x.bd=o.bd) (ht:x.ty=o.ty):Ge (s.set k x):=by
 refine h.of ?_
 intro i v e
 rcases xK e with ⟨rfl,b,oc⟩ | ⟨_,e⟩
 · exact ⟨k,o,rfl,hk,by rw [←hb];exact b,by rw [←ht];exact oc⟩
 · exact e
theorem xM {s:List Sl} {k:Nat} {x:Sl} (h:Ge s) (hn:∀v,gS x.ty v→¬Ck s v k):Ge (s.set k x):=by
 classical
 obtain ⟨rk,hr⟩:=h
 obtain ⟨M,hM⟩:=gS.bound rk x.ty
 refine ⟨fun j=>if Ck s j k then rk j+M else rk j,?_⟩
 intro i v e
 show (if Ck s v k then rk v+M else rk v)<(if Ck s i k then rk i+M else rk i)
 rcases xK e with ⟨rfl,b,oc⟩ | ⟨_,e⟩
 · have h1:=hM v oc
   rw [if_neg (hn v oc),if_pos (.refl _)]
   omega
 · have h1:=hr i v e
   by_cases q:Ck s v k
   · rw [if_pos q,if_pos (.step e q)];omega
   · rw [if_neg q]
     split<;>omega
theorem I8 {s:List Sl} {x:Sl} (h:Ge s) (hb:x.bd=false):Ge (s++[x]):=by
 refine h.of ?_
 rintro i v ⟨k,y,rfl,hy,b,o⟩
 by_cases hl:k<s.length
 · rw [List.getElem?_append_left hl] at hy
   exact ⟨k,y,rfl,hy,b,o⟩
 · rw [List.getElem?_append_right (by omega)] at hy
   by_cases e:k-s.length=0
   · rw [e] at hy
     simp at hy
     subst hy
     rw [hb] at b;cases b
   · have:([x]:List Sl)[k-s.length]?=none:=by simp;omega
     rw [this] at hy;cases hy
def ub (s:List Sl):Nat:=s.countP fun x=>!x.bd
theorem pR:∀{s:List Sl} {k:Nat} {o x:Sl},s[k]?=some o→x.bd=o.bd→ub (s.set k x)=ub s
 | [],k,o,x,h,_=>by simp at h
 | a::r,0,o,x,h,hb=>by simp at h;subst h;simp [ub,List.countP_cons,hb]
 | a::r,k+1,o,x,h,hb=>by
   simp at h
   have:=pR h hb
   simp only [ub] at this
   simp [ub,List.countP_cons,this]
theorem uS:∀{s:List Sl} {k:Nat} {o x:Sl},s[k]?=some o→o.bd=false→x.bd=true→ub (s.set k x)+1=ub s
 | [],k,o,x,h,_,_=>by simp at h
 | a::r,0,o,x,h,hb,hx=>by simp at h;subst h;simp [ub,List.countP_cons,hb,hx]
 | a::r,k+1,o,x,h,hb,hx=>by
   simp at h
   have:=uS h hb hx
   simp only [ub] at this
   simp [ub,List.countP_cons]
   omega
end Go.Ab.Lw
namespace Go.Ab.Lw
open Ev
def bT (dn:List Bool):List AV:=dn.map fun b=>.pv (.bool b)
def fX (s:dK) (T:List AV) (n:Nat) (out:List Int):Sh:=[some T,some [.pv (.aD (s.sl.map Sl.pv)),.pv (.aD (s.tr.map Ch.pv)),.own (out.map vI) 0,.bq 0 1 n false]]
structure Ma (T:List AV):Prop where
 norm:∀aQ ts,bz aQ ts T=(T,aQ,ts)
 mp:cQ T=false
 sh:∀k,T.map (cz k)=T
theorem Pr {s:dK} {S out:List Int} {t:Ty} (hk:t.kind=1) (hb:gZ s.sl t=none) (hc:iu S out) {T:List AV} (hT:Ma T) {n:Nat} :
   (aP AP).i 387 [.aX 1 0,.pv t.pv] (fX s T n out) [out.length]=some ([],fX s T n (if t.id∈out then out else out++[t.id]),[(if t.id∈out then out else out++[t.id]).length]):=by
 have k1:=c392 (s:=s) (t:=t)
 have hl:=hc.len
 have k2:=c95 hl (y:=t.id)
 unfold Sm at hl
 have hbb:(out.length+1)*8≤140737488355328:=by omega
 have hh:bH 1 (out.map vI)=true:=jT.head out
 have hn:=hT.norm
 rw [hb] at k1
 simp [hk] at k1
 rw [aK (af:=g387) rfl (by simp [g387])]
 by_cases e2:t.id∈out
 · rw [decide_eq_true e2] at k2
   simp [g387,fX,hk,k1,k2,e2,hn]
 · rw [decide_eq_false e2] at k2
   simp [g387,fX,hk,k1,k2,e2,hn,hbb,hh]
theorem Ps {s:dK} {out:List Int} {t:Ty} {x:Sl} {i:Nat} (hi:t.id=i) (hk:t.kind=1) (hx:s.sl[i]?=some x) (hb:gZ s.sl t=some x) {T:List AV} (hT:Ma T) {n:Nat} (hn:T.length=n) (hin:i<n) (hd:T[i]?=some (.pv (.bool true))) :
   (aP AP).i 387 [.aX 1 0,.pv t.pv] (fX s T n out) [out.length]=some ([],fX s T n out,[out.length]):=by
 have k1:=c392 (s:=s) (t:=t)
 have hnm:=hT.norm
 have hmp:=hT.mp
 have hsh:=hT.sh
 have hle:i+1≤T.length:=by omega
 rw [hb] at k1
 simp [hk,hi] at k1
 rw [aK (af:=g387) rfl (by simp [g387])]
 simp (disch:=omega) [-getElem?_pos,g387,fX,hk,hi,k1,hnm,hin,hd,hmp,hle,b_]
theorem Pt {s:dK} {out out':List Int} {t:Ty} {x:Sl} {i:Nat} (hi:t.id=i) (hk:t.kind=1) (hx:s.sl[i]?=some x) (hb:gZ s.sl t=some x) {T T1 T2:List AV} (hT:Ma T) (hT1:Ma T1) (hT2:Ma T2) {n:Nat} (hn:T.length=n) (hin:i<n) (hd:T[i]?=some (.pv (.bool false)))
   (hs:bu T i [.pv (.bool true)]=T1) (e:(aP AP).i 387 [.aX 1 0,.pv x.ty.pv] (fX s T1 n out) [out.length]=some ([],fX s T2 n out',[out'.length])) :
   (aP AP).i 387 [.aX 1 0,.pv t.pv] (fX s T n out) [out.length]=some ([],fX s T2 n out',[out'.length]):=by
 have k1:=c392 (s:=s) (t:=t)
 have hnm:=hT.norm
 have hnm1:=hT1.norm
 have hnm2:=hT2.norm
 have hsh1:=hT1.sh
 have hsh2:=hT2.sh
 have hmp:=hT.mp
 have hsh:=hT.sh
 have hl:i<s.sl.length:=by obtain ⟨h,_⟩:=List.getElem?_eq_some_iff.1 hx;exact h
 have hle:i+1≤T.length:=by omega
 rw [hb] at k1
 simp [hk,hi] at k1
 simp [fX] at e
 simp at hs
 rw [aK (af:=g387) rfl (by simp [g387])]
 simp (disch:=omega) [-getElem?_pos,g387,fX,hk,hi,k1,hnm,hnm1,hnm2,hin,hd,hx,hl,hmp,hs,hle,e,b_,hsh,hsh1,hsh2]
def NI (s:dK) (n:Nat) (t:Ty) (T:List AV) (out:List Int) (T':List AV) (out':List Int):Prop:=(aP AP).i 387 [.aX 1 0,.pv t.pv] (fX s T n out) [out.length]=some ([],fX s T' n out',[out'.length])
theorem Pu {s:dK} {n:Nat} {t:Ty} (ht:t.Ok) (J:Nat→List AV→List Int→Prop) (hP:∀i T out,J i T out→Ma T)
   (hJ:∀i a,t.args[i]?=some a→∀T out,J i T out→∃T' out',NI s n a T out T' out'∧J (i+1) T' out'):∀(k i:Nat),t.args.length-i=k→i≤t.args.length→∀T out,J i T out→∃T' out',
   cl AP g387L0 ⟨[(0,.aX 1 0),(3,.az 3 0),(4,.pv (vI i))],[(3,tC t)],fX s T n out,[out.length]⟩ =
     some (.exit 1,⟨[(0,.aX 1 0),(3,.az 3 0),(4,.pv (vI t.args.length)),(68,.pv (.bool false))],[(3,tC t)],fX s T' n out',[out'.length]⟩)∧J t.args.length T' out'
 | 0,i,hk,hi,T,out,h=>by
   have:i=t.args.length:=by omega
   subst this
   refine ⟨T,out,?_,h⟩
   have hn:=(hP _ _ _ h).norm
   rw [g387L0e]
   simp [g387B0,tC,fX,hn]
 | k+1,i,hk,hi,T,out,h=>by
   have hi:i<t.args.length:=by omega
   obtain ⟨a,ha⟩:=bp hi
   have hsm:=ht.sm
   unfold Sm at hsm
   obtain ⟨T1,out1,e,h1⟩:=hJ i a ha T out h
   obtain ⟨T',out',e',h2⟩:=Pu ht J hP hJ k (i+1) (by omega) (by omega) T1 out1 h1
   refine ⟨T',out',?_,h2⟩
   have hn:=(hP _ _ _ h).norm
   have hn1:=(hP _ _ _ h1).norm
   have hs:=(hP _ _ _ h).sh
   have hs1:=(hP _ _ _ h1).sh
   unfold NI at e
   rw [g387L0e] at e' ⊢
   simp [fX] at e
   simp [tC,fX,hn1] at e'
   simp (disch:=omega) [-getElem?_pos,g387B0,tC,fX,hi,ha,hn,hn1,hs,hs1,au,e]
   rw [g387L0e]
   simp [e',hn1]
theorem Pv {s:dK} {n:Nat} {t:Ty} (ht:t.Ok) (hk:t.kind≠1) (J:Nat→List AV→List Int→Prop) (hP:∀i T out,J i T out→Ma T)
   (hJ:∀i a,t.args[i]?=some a→∀T out,J i T out→∃T' out',NI s n a T out T' out'∧J (i+1) T' out') {T:List AV} {out:List Int} (h:J 0 T out):∃T' out',NI s n t T out T' out'∧J t.args.length T' out':=by
 obtain ⟨T',out',e,h1⟩:=Pu (s:=s) (n:=n) ht J hP hJ _ 0 rfl (by omega) T out h
 refine ⟨T',out',?_,h1⟩
 have hn:=(hP _ _ _ h).norm
 have hn1:=(hP _ _ _ h1).norm
 have hs1:=(hP _ _ _ h1).sh
 unfold NI
 rw [aK (af:=g387) rfl (by simp [g387])]
 rw [g387L0e] at e
 simp [tC,fX,hn] at e
 simp [g387,fX,hk,hn,hn1,hs1,g387L0e,e]
end Go.Ab.Lw
namespace Go.Ab.Lw
open Ev
def og (s:List Sl) (v:Int):Prop:=∃(k:Nat) (x:Sl),v=k∧s[k]?=some x∧x.bd=true
theorem iO {s:List Sl} {t:Ty} (hk:t.kind=1) (h:gZ s t=none):¬og s t.id:=by
 rintro ⟨k,x,e,hx,hb⟩
 unfold gZ at h
 have:0≤t.id:=by omega
 rw [if_pos ⟨hk,this⟩] at h
 have hn:t.id.toNat=k:=by omega
 rw [hn,hx] at h
 simp [hb] at h
theorem I9 {s:List Sl} {i v:Int} (h:Edge s i v):og s i:=by
 obtain ⟨k,x,e,hx,hb,_⟩:=h
 exact ⟨k,x,e,hx,hb⟩
theorem rn {s:List Sl} {i v:Int} (h:Ck s i v) (hb:¬og s i):v=i:=by
 cases h with
 | refl=>rfl
 | step e _=>exact absurd (I9 e) hb
theorem i_ {t:Ty} {w:Int} (hk:t.kind=1) (h:gS t w):w=t.id:=by
 cases h with
 | var _=>rfl
 | arg q _ _=>exact absurd hk q
theorem NJ {s:List Sl} {rk:Int→Nat} (hr:∀i v,Edge s i v→rk v<rk i) {i v:Int} (h:Ck s i v):rk v≤rk i:=by
 induction h with
 | refl=>omega
 | step e _ ih=>have:=hr _ _ e;omega
def Mb (s:List Sl) (j:Int) (out:List Int):Prop:=∀v,Ck s j v→¬og s v→v∈out
def RT (s:List Sl) (t:Ty) (v:Int):Prop:=∃w,gS t w∧Ck s w v
theorem Mb.mono {s:List Sl} {j:Int} {out out':List Int} (h:Mb s j out) (ho:∀v∈out,v∈out'):Mb s j out':=fun v hv hb=>ho v (h v hv hb)
theorem I_ {dn:List Bool}:∀v∈bT dn,∃p,v=AV.pv p:=by
 intro v hv
 simp only [bT,List.mem_map] at hv
 obtain ⟨b,_,rfl⟩:=hv
 exact ⟨_,rfl⟩
theorem kN {dn:List Bool}:Ma (bT dn):=⟨fun _ _=>gk I_,dh I_,fun _=>n_ I_⟩
theorem NK {dn:List Bool} {i:Nat} (hi:i<dn.length) (b:Bool):bu (bT dn) i [.pv (.bool b)]=bT (dn.set i b):=by
 have:(bT dn).length=dn.length:=by simp [bT]
 simp only [bu,bT,List.length_cons,List.length_nil,Nat.zero_add]
 rw [←List.map_take,←List.map_drop,List.set_eq_take_append_cons_drop,if_pos hi]
 simp
theorem Ja {dn:List Bool} {i j:Nat} (h:dn[j]?=some true):(dn.set i true)[j]?=some true:=by
 rw [List.getElem?_set]
 have hj:j<dn.length:=by obtain ⟨h,_⟩:=List.getElem?_eq_some_iff.1 h;exact h
 by_cases e:i=j
 · subst e;simp [hj]
 · simp [e,h]
theorem xN {dn:List Bool} {i j:Nat} (h:(dn.set i true)[j]?=some true):i=j∨dn[j]?=some true:=by
 rw [List.getElem?_set] at h
 by_cases e:i=j
 · exact .inl e
 · simp [e] at h;exact .inr h
structure Pw (s:dK) (S:List Int) (t:Ty) (dn:List Bool) (out:List Int) (dn':List Bool) (out':List Int):Prop where
 sd:NI s s.sl.length t (bT dn) out (bT dn') out'
 len:dn'.length=s.sl.length
 FM:iu S out'
 sub:∀v∈out,v∈out'
 mono:∀j:Nat,dn[j]?=some true→dn'[j]?=some true
 all:∀v,RT s.sl t v→¬og s.sl v→v∈out'
 new:∀j:Nat,dn'[j]?=some true→dn[j]?=some true∨Mb s.sl j out'
structure Rm (s:dK) (S:List Int) (t:Ty) (dn:List Bool) (out:List Int) (i:Nat) (dn':List Bool) (out':List Int):Prop where
 len:dn'.length=s.sl.length
 FM:iu S out'
 sub:∀v∈out,v∈out'
 mono:∀j:Nat,dn[j]?=some true→dn'[j]?=some true
 all:∀a∈t.args.take i,∀v,RT s.sl a v→¬og s.sl v→v∈out'
 new:∀j:Nat,dn'[j]?=some true→dn[j]?=some true∨Mb s.sl j out'
theorem Iz {s:dK} {S:List Int} {rk:Int→Nat} (hr:∀i v,Edge s.sl i v→rk v<rk i) (hO:∀x∈s.sl,x.ty.Ok) (hS:∀x∈s.sl,∀w,gS x.ty w→w∈S) (N:Nat) :
   ∀t:Ty,t.Ok→(∀w,gS t w→rk w<N)→(∀w,gS t w→w∈S)→∀(dn:List Bool) (out:List Int),dn.length=s.sl.length→iu S out→(∀j:Nat,dn[j]?=some true→RT s.sl t j→Mb s.sl j out) →
     ∃dn' out',Pw s S t dn out dn' out':=by
 induction N using Nat.strongRecOn with
 | ind N IH=>
   intro t
   refine Ty.eE (p:=fun t=>t.Ok→(∀w,gS t w→rk w<N)→(∀w,gS t w→w∈S)→∀(dn:List Bool) (out:List Int),dn.length=s.sl.length→iu S out→(∀j:Nat,dn[j]?=some true→RT s.sl t j→Mb s.sl j out) →
     ∃dn' out',Pw s S t dn out dn' out') ?_ t
   intro t ih ht hN hw dn out hd hc hpre
   by_cases hk:t.kind=1
   · have oc:gS t t.id:=.var hk
     cases hb:gZ s.sl t with
     | none=>
       have hf:=iO hk hb
       have e:=Pr (n:=s.sl.length) hk hb hc (kN (dn:=dn))
       have ea:(if t.id∈out then out else out++[t.id])=cY out t:=by
         unfold cY
         by_cases q:t.id∈out<;>simp [q,hk]
       rw [ea] at e
       have hs:∀v∈out,v∈cY out t:=by
         intro v hv;unfold cY;split
         · simp [hv]
         · exact hv
       refine ⟨dn,cY out t,e,hd,hc.add (fun _=>hw _ oc),hs,fun _ h=>h,?_,fun _ h=>.inl h⟩
       rintro v ⟨w,ho,hv⟩ _
       have h1:=i_ hk ho
       subst h1
       rw [rn hv hf]
       unfold cY
       by_cases q:t.id∈out<;>simp [q,hk]
     | some x=>
       obtain ⟨_,i,hi,hx,hbd⟩:=fG hb
       have hl:i<s.sl.length:=by obtain ⟨h,_⟩:=List.getElem?_eq_some_iff.1 hx;exact h
       have hTl:(bT dn).length=s.sl.length:=by simp [bT,hd]
       obtain ⟨b,hdb⟩:=bp (l:=dn) (i:=i) (by omega)
       have hTd:(bT dn)[i]?=some (.pv (.bool b)):=by simp [bT,hdb]
       have FN:∀w,gS x.ty w→Edge s.sl t.id w:=fun w ho=>⟨i,x,hi,hx,hbd,ho⟩
       cases b with
       | true=>
         have e:=Ps (out:=out) hi hk hx hb (kN (dn:=dn)) hTl hl hTd
         refine ⟨dn,out,e,hd,hc,fun _ h=>h,fun _ h=>h,?_,fun _ h=>.inl h⟩
         rintro v ⟨w,ho,hv⟩ hnb
         have h1:=i_ hk ho
         subst h1
         have:=hpre i hdb ⟨t.id,oc,by rw [hi];exact .refl _⟩
         rw [hi] at hv
         exact this v hv hnb
       | false=>
         have hlt:rk t.id<N:=hN _ oc
         obtain ⟨dn',out',P⟩:=IH (rk t.id) hlt x.ty (hO x (bm hx)) (fun w ho=>hr _ _ (FN w ho)) (hS x (bm hx)) (dn.set i true) out (by simp [hd]) hc (by
           intro j hj ⟨w,ho,hv⟩
           have hlt2:rk j<rk t.id:=by have:=NJ hr hv;have:=hr _ _ (FN w ho);omega
           rcases xN hj with rfl | hj
           · rw [hi] at hlt2;omega
           · exact hpre j hj ⟨t.id,oc,.step (FN w ho) hv⟩)
         have e:=Pt hi hk hx hb (kN (dn:=dn)) (kN (dn:=dn.set i true)) (kN (dn:=dn')) hTl hl hTd (NK (by omega) true) P.sd
         have fin:Mb s.sl t.id out':=by
           intro v hv hnb
           cases hv with
           | refl=>exact absurd ⟨i,x,hi,hx,hbd⟩ hnb
           | step e2 hv=>
             obtain ⟨k,y,e3,hy,_,ho⟩:=e2
             have:k=i:=by omega
             subst this
             rw [hx] at hy
             cases hy
             exact P.all v ⟨_,ho,hv⟩ hnb
         refine ⟨dn',out',e,P.len,P.FM,P.sub,fun j h=>P.mono j (Ja h),?_,?_⟩
         · rintro v ⟨w,ho,hv⟩ hnb
           have h1:=i_ hk ho
           subst h1
           exact fin v hv hnb
         · intro j hj
           rcases P.new j hj with h | h
           · rcases xN h with rfl | h
             · exact .inr (by rw [←hi];exact fin)
             · exact .inl h
           · exact .inr h
   · obtain ⟨T',out',e,dn',rfl,h⟩:=Pv (s:=s) (n:=s.sl.length) ht hk (fun i T o=>∃d,T=bT d∧Rm s S t dn out i d o) (by rintro i T o ⟨d,rfl,_⟩;exact kN) (by
       rintro i a ha T o ⟨d,rfl,h⟩
       have hm:=bm ha
       obtain ⟨d',o',P⟩:=ih a hm (ht.fM a hm) (fun w ho=>hN w (.arg hk hm ho)) (fun w ho=>hw w (.arg hk hm ho)) d o h.len h.FM (by
         intro j hj ⟨w,ho,hv⟩
         rcases h.new j hj with hj | hj
         · exact (hpre j hj ⟨w,.arg hk hm ho,hv⟩).mono h.sub
         · exact hj)
       refine ⟨bT d',o',P.sd,d',rfl,P.len,P.FM,fun v hv=>P.sub v (h.sub v hv),fun j hj=>P.mono j (h.mono j hj),?_,?_⟩
       · intro b hb v hv hnb
         rw [List.take_add_one,ha] at hb
         simp at hb
         rcases hb with hb | rfl
         · exact P.sub v (h.all b hb v hv hnb)
         · exact P.all v hv hnb
       · intro j hj
         rcases P.new j hj with hj | hj
         · rcases h.new j hj with hj | hj
           · exact .inl hj
           · exact .inr (hj.mono P.sub)
         · exact .inr hj) ⟨dn,rfl,hd,hc,fun _ h=>h,fun _ h=>h,by simp,fun _ h=>.inl h⟩
     refine ⟨dn',out',e,h.len,h.FM,h.sub,h.mono,?_,h.new⟩
     rintro v ⟨w,ho,hv⟩ hnb
     cases ho with
     | var q=>exact absurd q hk
     | arg _ ha ho=>exact h.all _ (by simpa using ha) v ⟨w,ho,hv⟩ hnb
end Go.Ab.Lw
namespace Go.Ab.Lw
open Ev
inductive Ex.Ok:Ex→Prop
 | mk {e:Ex}:e.kids.length≤1000→e.bt.length≤1000→(∀a∈e.bt,a.vars.length≤1000)→e.ty.Ok→(∀x∈e.ch,x.Ok)→e.Ok
theorem Ex.Ok.k {e:Ex} (h:e.Ok):e.kids.length≤1000:=by cases h;assumption
theorem Ex.Ok.a {e:Ex} (h:e.Ok):e.bt.length≤1000:=by cases h;assumption
theorem Ex.Ok.v {e:Ex} (h:e.Ok):∀a∈e.bt,a.vars.length≤1000:=by cases h;assumption
theorem Ex.Ok.t {e:Ex} (h:e.Ok):e.ty.Ok:=by cases h;assumption
theorem Ex.Ok.c {e:Ex} (h:e.Ok):∀x∈e.ch,x.Ok:=by cases h;assumption
theorem Ex.kO {e:Ex}:e.ch.length=e.kids.length+e.bt.length:=by simp [Ex.ch]
@[simp] def Ex.cl (e:Ex):List AV:=[.pv (vI e.kind),.pv (vI e.pos),.pv (.str e.name),.pv (vI e.num),.pv (.aD (e.kids.map Ex.pv)),.pv (.aD (e.bt.map Ar.pv)),.pv (vI e.ty.kind),.pv (.str e.ty.name),.pv (vI e.ty.id),.pv (vI e.ty.home),.pv (.aD (e.ty.args.map Ty.pv))]
theorem eh:Row Ex.cells 11:=⟨by omega,fun x=>by rw [Ex.bA];rfl⟩
def Ar.cells (a:Ar):List PV:=.int .i64 a.pos::.str a.gq::.aD (a.vars.map .str)::a.body.cells
theorem je:Row Ar.cells 14:=⟨by omega,fun x=>by simp [Ar.cells,Ex.bA]⟩
theorem Ex.ta (e:Ex):e.cells.map AV.pv=e.cl:=by rw [Ex.bA];rfl
@[simp] def Ex.JW (e:Ex) (A:AV):List AV:=[.pv (vI e.kind),.pv (vI e.pos),.pv (.str e.name),.pv (vI e.num),.pv (.aD (e.kids.map Ex.pv)),A,.pv (vI e.ty.kind),.pv (.str e.ty.name),.pv (vI e.ty.id),.pv (vI e.ty.home),.pv (.aD (e.ty.args.map Ty.pv))]
def Px (A:AV) (as:List Ar) (X:Sh):Prop:=A=.pv (.aD (as.map Ar.pv))∨∃b,b<X.length∧A=.bq b 14 as.length true∧X[b]?=some (some (bI Ar.cells as))
theorem Px.app {A:AV} {as:List Ar} {X Y:Sh} (h:Px A as X):Px A as (X++Y):=by
 rcases h with h | ⟨b,h1,h2,h3⟩
 · exact .inl h
 · exact .inr ⟨b,by rw [List.length_append];omega,h2,by rw [List.getElem?_append_left h1];exact h3⟩
def hV (X:Sh) (l:List Ex):AV:=if l=[] then .own [] 0 else .bq X.length 11 l.length true
def hS (X:Sh) (l:List Ex):Sh:=if l=[] then X else X++[some (bI Ex.cells l)]
def hT (l:List Ex):aL:=if l=[] then [0] else []
theorem Jb {X:Sh} (h:a7 X) (l:List Ex):a7 (hS X l):=by
 unfold hS
 by_cases h0:l=[]
 · rw [if_pos h0];exact h
 · rw [if_neg h0];exact h.app (a7.one cP)
theorem Lp {e:Ex} {A:AV} (ha:e.bt.length≤1000):∀(n i:Nat),e.bt.length-i=n→i≤e.bt.length→∀(X:Sh) (acc:List Ex),a7 X→Px A e.bt X→acc.length+n≤1000000→∃k,
   cl AP g145L0 ⟨[(1,.az 1 0),(3,hV X acc),(4,.pv (vI i))],[(1,e.JW A)],hS X acc,hT acc⟩ =
     some (.exit 0,⟨[(1,.az 1 0),(3,hV (X++nn k) (acc++(e.bt.drop i).map fe.body)),(4,.pv (vI e.bt.length)),(12,.pv (.bool false))],[(1,e.JW A)],hS (X++nn k) (acc++(e.bt.drop i).map fe.body),hT (acc++(e.bt.drop i).map fe.body)⟩)
 | 0,i,hn,hi,X,acc,hX,hA,hl=>by
   have:i=e.bt.length:=by omega
   subst this
   refine ⟨0,?_⟩
   rw [List.drop_length,List.map_nil,List.append_nil,show nn 0=[] from rfl,List.append_nil]
   have hn:=(Jb hX acc).norm
   have vc:(hV X acc=.own [] 0∧hT acc=[0])∨(∃b z k g,hV X acc=.bq b z k g∧hT acc=[]):=by
     unfold hV hT
     by_cases h0:acc=[]
     · left;simp [h0]
     · right;exact ⟨X.length,11,acc.length,true,by simp [h0],by simp [h0]⟩
   rw [g145L0e]
   rcases vc with ⟨v1,t1⟩ | ⟨b1,z1,k1,f1,v1,t1⟩<;>rw [v1,t1]<;>generalize hS X acc=S0 at hn ⊢ <;>
     rcases hA with rfl | ⟨b,hb,rfl,hx⟩<;>simp [g145B0,hn]
 | n+1,i,hn,hi,X,acc,hX,hA,hl=>by
   have hi:i<e.bt.length:=by omega
   obtain ⟨x,hx⟩:=bp hi
   have hnX:=hX.norm
   have hB11:∀m:Nat,m≤1000000→m*152≤140737488355328:=by omega
   have hcl:=Ex.bA x.body
   rw [bL hx,List.map_cons]
   have step:∃k,cl AP g145L0 ⟨[(1,.az 1 0),(3,hV (if acc=[] then X else X++[none]) (acc++[x.body])),(4,.pv (vI (i+1:Nat)))],[(1,e.JW A)],hS (if acc=[] then X else X++[none]) (acc++[x.body]),hT (acc++[x.body])⟩ =
     some (.exit 0,⟨[(1,.az 1 0),(3,hV (X++nn k) (acc++(x.body::(e.bt.drop (i+1)).map fe.body))),(4,.pv (vI e.bt.length)),(12,.pv (.bool false))],[(1,e.JW A)],hS (X++nn k) (acc++(x.body::(e.bt.drop (i+1)).map fe.body)),hT (acc++(x.body::(e.bt.drop (i+1)).map fe.body))⟩):=by
     by_cases h0:acc=[]
     · rw [if_pos h0]
       obtain ⟨k,ih⟩:=Lp ha n (i+1) (by omega) (by omega) X (acc++[x.body]) hX hA (by simp;omega)
       refine ⟨k,?_⟩
       rw [ih]
       simp only [List.append_assoc,List.singleton_append]
     · rw [if_neg h0]
       obtain ⟨k,ih⟩:=Lp ha n (i+1) (by omega) (by omega) (X++[none]) (acc++[x.body]) (hX.app (fw 1)) hA.app (by simp;omega)
       refine ⟨k+1,?_⟩
       have e1:X++[none]++nn k=X++nn (k+1):=by simp [nn,List.replicate_succ]
       rw [ih,e1]
       simp only [List.append_assoc,List.singleton_append]
   obtain ⟨k,ih⟩:=step
   refine ⟨k,?_⟩
   generalize hV (X++nn k) (acc++(x.body::(e.bt.drop (i+1)).map fe.body))=V2 at ih ⊢
   generalize hS (X++nn k) (acc++(x.body::(e.bt.drop (i+1)).map fe.body))=S2 at ih ⊢
   generalize hT (acc++(x.body::(e.bt.drop (i+1)).map fe.body))=T2 at ih ⊢
   have hne:acc++[x.body]≠[]:=by simp
   have hn1:∀Y,a7 Y→∀aQ ts,bC aQ ts (Y++[some (bI Ex.cells (acc++[x.body]))])=(Y++[some (bI Ex.cells (acc++[x.body]))],aQ,ts):=fun Y hY=>(hY.app (a7.one cP)).norm
   have hfl:bI Ex.cells (acc++[x.body])=bI Ex.cells acc++x.body.cl:=by rw [uR,←Ex.ta];simp [bI]
   by_cases h0:acc=[]
   · subst h0
     rw [if_pos rfl] at ih
     have hn2:=hn1 X hX
     simp only [List.nil_append] at hne hn2 hfl ih
     simp only [hV,hS,hT,if_neg hne,if_true] at ih ⊢
     rw [hfl] at hn2 ih
     simp only [Lo,List.nil_append] at hn2 ih
     simp only [Ex.cl] at hn2
     rw [g145L0e] at ih ⊢
     rcases hA with rfl | ⟨b,hb,rfl,hxb⟩
     · simp [hn2] at ih
       simp (disch:=omega) [-getElem?_pos,g145B0,hx,hi,au,hnX]
       rw [g145L0e]
       simp [hn2,ih]
     · have q1:=pN je hx (o:=3) (k:=11) (by omega)
       have q2:i*14+3+11≤e.bt.length*14:=by omega
       have q3:(bI Ar.cells e.bt).length=e.bt.length*14:=d3 je
       have q4:cQ (bI Ar.cells e.bt)=false:=dh cP
       have q5:(((Ar.cells x).drop 3).take 11).map AV.pv=x.body.cl:=by simp [Ar.cells,hcl]
       rw [q5] at q1
       generalize bI Ar.cells e.bt=T at *
       simp [hn2] at ih q1
       simp (disch:=omega) [-getElem?_pos,g145B0,hx,hi,au,hnX,hxb,q1,q2,q3,q4]
       rw [g145L0e]
       simp [hn2,ih]
   · rw [if_neg h0] at ih
     have hn2:=hn1 (X++[none]) (hX.app (fw 1))
     have hn3:∀aQ ts,bC aQ ts (X++[some (bI Ex.cells acc)])=(X++[some (bI Ex.cells acc)],aQ,ts):=(hX.app (a7.one cP)).norm
     simp only [hV,hS,hT,if_neg hne,if_neg h0] at ih ⊢
     have r1:(bI Ex.cells acc).length=acc.length*11:=d3 eh
     have r2:cQ (bI Ex.cells acc)=false:=dh cP
     have r3:(bI Ex.cells acc).take (acc.length*11)=bI Ex.cells acc:=List.take_of_length_le (by omega)
     have hb2:(acc.length+1)*152≤140737488355328:=by omega
     rw [hfl] at hn2 ih
     rw [List.length_append,List.length_singleton,List.length_append,List.length_singleton] at ih
     have s1:∀u w:Option (List AV),(X++[u]).set X.length w=X++[w]:=fun u w=>by simp
     have s2:∀u:Option (List AV),(X++[u])[X.length]?=some u:=fun u=>by simp
     simp only [Ex.cl] at hn2
     rw [g145L0e] at ih ⊢
     rcases hA with rfl | ⟨b,hb,rfl,hxb⟩
     · generalize bI Ex.cells acc=F at *
       simp [hn2] at ih
       simp (disch:=omega) [-getElem?_pos,g145B0,hx,hi,au,hn3,r1,r2,r3,s1,s2,hb2]
       rw [g145L0e]
       simp [hn2,ih]
     · have q1:=pN je hx (o:=3) (k:=11) (by omega)
       have q2:i*14+3+11≤e.bt.length*14:=by omega
       have q3:(bI Ar.cells e.bt).length=e.bt.length*14:=d3 je
       have q4:cQ (bI Ar.cells e.bt)=false:=dh cP
       have q5:(((Ar.cells x).drop 3).take 11).map AV.pv=x.body.cl:=by simp [Ar.cells,hcl]
       have q6:∀u:Option (List AV),(X++[u])[b]?=X[b]?:=fun u=>List.getElem?_append_left hb
       rw [q5] at q1
       generalize bI Ar.cells e.bt=T at *
       generalize bI Ex.cells acc=F at *
       simp [hn2] at ih q1
       simp (disch:=omega) [-getElem?_pos,g145B0,hx,hi,au,hn3,r1,r2,r3,s1,s2,hb2,hxb,q1,q2,q3,q4,q6]
       rw [g145L0e]
       simp [hn2,ih]
theorem Jc {l:List Ex}:((eL (bI Ex.cells l)).bind (eA 11 true l.length)).map PV.aD=some (.aD (l.map Ex.pv)):=pP eh
theorem Jd {l:List Ex}:((l.map Ex.pv).flatMap bw).map AV.pv=bI Ex.cells l:=pQ eh
theorem c145i {e:Ex} {A:AV} (h:e.kids.length≤1000) (ha:e.bt.length≤1000) {X:Sh} (hX:a7 X) (hA:Px A e.bt X):∃k,(aP AP).i 145 [.agg (e.JW A)] X []=some (if e.ch=[] then ([.own [] 0],X,[0]) else ([.bq (X.length+k) 11 e.ch.length true],X++nn k++[some (bI Ex.cells e.ch)],[])):=by
 obtain ⟨k,h2⟩:=Lp (A:=A) ha _ 0 rfl (by omega) X e.kids hX hA (by omega)
 rw [List.drop_zero] at h2
 change cl AP g145L0 _=some (.exit 0,⟨[(1,.az 1 0),(3,hV (X++nn k) e.ch),(4,.pv (vI e.bt.length)),(12,.pv (.bool false))],[(1,e.JW A)],hS (X++nn k) e.ch,hT e.ch⟩) at h2
 refine ⟨k,?_⟩
 rw [aK (af:=g145) rfl (by simp [g145])]
 have hb:e.kids.length*152≤140737488355328:=by omega
 have hm:=Jd (l:=e.kids)
 have hq:=hX.norm
 have hq0:∀aQ ts,bC aQ ts (X++[some (bI Ex.cells e.kids)])=(X++[some (bI Ex.cells e.kids)],aQ,ts):=(hX.app (a7.one cP)).norm
 have hq1:∀aQ ts,bC aQ ts (X++nn k)=(X++nn k,aQ,ts):=(hX.app (fw k)).norm
 have hq2:∀aQ ts,bC aQ ts (X++(nn k++[some (bI Ex.cells e.ch)]))=(X++(nn k++[some (bI Ex.cells e.ch)]),aQ,ts):=(hX.app ((fw k).app (a7.one cP))).norm
 have hlt:¬X.length+k<X.length:=by omega
 have hln:(X++nn k).length=X.length+k:=by simp
 have hlf:bf A=true∧bE A=true:=by rcases hA with rfl | ⟨b,_,rfl,_⟩<;>exact ⟨rfl,rfl⟩
 have hkt:(X++nn k).take X.length=X:=by simp
 have e1:∀(V:AV) (T:aL) (S:Sh),(V=hV X e.kids∧T=hT e.kids∨e.kids=[]∧V=.bB []∧T=[])→S=hS X e.kids→after (cl AP g145L0) (cl AP g145B0 (norm (restrict [1,3,4] ⟨[(1,.az 1 0),(3,V),(4,.pv (vI 0))],[(1,e.JW A)],S,T⟩))) =
     some (.exit 0,⟨[(1,.az 1 0),(3,hV (X++nn k) e.ch),(4,.pv (vI e.bt.length)),(12,.pv (.bool false))],[(1,e.JW A)],hS (X++nn k) e.ch,hT e.ch⟩):=by
   rintro V T S hV' rfl
   rw [←h2,g145L0e]
   rcases hV' with ⟨rfl,rfl⟩ | ⟨h0,rfl,rfl⟩
   · rfl
   · simp only [hV,hS,hT,h0,if_true]
     rcases hA with rfl | ⟨b,_,rfl,_⟩<;>simp [hq]
 clear h2
 by_cases hc:e.ch=[]
 · have h0:e.kids=[]:=by have:=hc;simp only [Ex.ch,List.append_eq_nil_iff] at this;exact this.1
   have f:=e1 (.bB []) [] X (.inr ⟨h0,rfl,rfl⟩) (by simp [hS,h0])
   simp only [hc,hV,hS,hT,if_true] at f ⊢
   rcases hA with rfl | ⟨b,_,rfl,_⟩<;>simp [hq,h0] at f<;>simp [g145,h0,hq,hq1,g145L0e,f,hln,hkt]
 · by_cases h0:e.kids=[]
   · have f:=e1 (.bB []) [] X (.inr ⟨h0,rfl,rfl⟩) (by simp [hS,h0])
     simp only [hV,hS,hT,if_neg hc,List.append_assoc,hln] at f ⊢
     generalize X++(nn k++[some (bI Ex.cells e.ch)])=S2 at *
     rcases hA with rfl | ⟨b,_,rfl,_⟩<;>simp [hq,h0] at f<;>simp [g145,h0,hq,hq2,g145L0e,f,hlt]
   · have f:=e1 (.bq X.length 11 e.kids.length true) [] (X++[some (bI Ex.cells e.kids)]) (.inl ⟨by simp [hV,h0],by simp [hT,h0]⟩) (by simp [hS,h0])
     simp only [hV,hS,hT,if_neg hc,List.append_assoc,hln] at f ⊢
     generalize X++(nn k++[some (bI Ex.cells e.ch)])=S2 at *
     have hb2:e.kids.length*152≤140737488355328:=by omega
     generalize bI Ex.cells e.kids=F at *
     rcases hA with rfl | ⟨b,_,rfl,_⟩<;>simp [hq,hq0,h0] at f<;>simp [g145,h0,hb2,hm,hq,hq0,hq2,g145L0e,f,hlt]
theorem c145 {e:Ex} (h:e.Ok):(aP AP).p 145 [e.pv]=some [.aD (e.ch.map Ex.pv)]:=by
 have hk:=h.k
 have ha:=h.a
 obtain ⟨k,h2⟩:=Lp (A:=.pv (.aD (e.bt.map Ar.pv))) ha _ 0 rfl (by omega) [] e.kids (by intro cs h;simp at h) (.inl rfl) (by omega)
 rw [List.drop_zero] at h2
 change cl AP g145L0 _=some (.exit 0,⟨[(1,.az 1 0),(3,hV ([]++nn k) e.ch),(4,.pv (vI e.bt.length)),(12,.pv (.bool false))],[(1,e.JW (.pv (.aD (e.bt.map Ar.pv))))],hS ([]++nn k) e.ch,hT e.ch⟩) at h2
 have hb2:e.kids.length*152≤140737488355328:=by omega
 have hm:=Jd (l:=e.kids)
 have hl:=Jc (l:=e.ch)
 have hlen:(bI Ex.cells e.ch).length=e.ch.length*11:=d3 eh
 have hq0:∀aQ ts,bC aQ ts ([some (bI Ex.cells e.kids)])=([some (bI Ex.cells e.kids)],aQ,ts):=(a7.one cP).norm
 rw [aq (af:=g145) rfl rfl (by decide)]
 by_cases hc:e.ch=[]
 · have h0:e.kids=[]∧e.bt=[]:=by have:=hc;simpa [Ex.ch] using this
   simp only [hc,hV,hS,hT,if_true,h0.1] at h2 ⊢
   rw [g145L0e] at h2
   simp [h0.1,h0.2] at h2
   simp [g145,h0.1,h0.2,g145L0e,h2]
 · have hg:∀Z:Option (List AV),([]++nn k++[Z])[k]?=some Z:=fun Z=>by simp
   by_cases h0:e.kids=[]
   · simp only [hV,hS,hT,if_neg hc,h0,if_true] at h2 ⊢
     have hg1:=hg (some (bI Ex.cells e.ch))
     generalize []++nn k++[some (bI Ex.cells e.ch)]=S2 at *
     generalize bI Ex.cells e.ch=F at *
     rw [g145L0e] at h2
     simp [h0] at h2
     simp at hl
     simp [-getElem?_pos,g145,h0,g145L0e,h2,hg1,hlen,hl]
   · simp only [hV,hS,hT,if_neg hc,if_neg h0] at h2 ⊢
     have hg1:=hg (some (bI Ex.cells e.ch))
     generalize []++nn k++[some (bI Ex.cells e.ch)]=S2 at *
     generalize bI Ex.cells e.ch=F at *
     generalize bI Ex.cells e.kids=F0 at *
     rw [g145L0e] at h2
     simp [hq0] at h2 hl
     simp [-getElem?_pos,g145,h0,hb2,hm,hq0,g145L0e,h2,hg1,hlen,hl]
theorem Py {e:Ex} (ha:e.bt.length≤1000):∀(n i:Nat),e.bt.length-i=n→i≤e.bt.length→∀acc:List Ex,acc.length+n≤1000000 →
   cl AP g414L0 ⟨[(3,.own (acc.map Ex.pv) 0),(10,.pv (.aD (e.bt.map Ar.pv))),(11,.pv (vI e.bt.length)),(12,.pv (vI i))],[],[],[acc.length]⟩ =
     some (.exit 0,⟨[(3,.own ((acc++(e.bt.drop i).map fe.body).map Ex.pv) 0),(10,.pv (.aD (e.bt.map Ar.pv))),(11,.pv (vI e.bt.length)),(12,.pv (vI e.bt.length)),(13,.pv (.bool false))],[],[],[(acc++(e.bt.drop i).map fe.body).length]⟩)
 | 0,i,hn,hi,acc,hl=>by
   have:i=e.bt.length:=by omega
   subst this
   rw [g414L0e]
   simp [g414B0]
 | n+1,i,hn,hi,acc,hl=>by
   have hi:i<e.bt.length:=by omega
   obtain ⟨x,hx⟩:=bp hi
   have ih:=Py ha n (i+1) (by omega) (by omega) (acc++[x.body]) (by simp;omega)
   rw [bL hx]
   simp at ih
   rw [g414L0e]
   have hb:(acc.length+1)*152≤140737488355328:=by omega
   simp (disch:=omega) [-getElem?_pos,g414B0,hx,hi,au,hb,ih]
theorem c414 {e:Ex} (h:e.Ok):(aP AP).p 414 [e.pv]=some [.aD (e.ch.map Ex.pv)]:=by
 have hk:=h.k
 have h2:=Py h.a _ 0 rfl (by omega) e.kids (by have:=h.a;omega)
 simp at h2
 rw [aq (af:=g414) rfl rfl (by decide)]
 have hb:e.kids.length*152≤140737488355328:=by omega
 by_cases h0:e.kids=[]
 · rw [g414L0e] at h2
   simp [h0] at h2
   simp [g414,Ex.ch,h0,g414L0e,h2]
 · simp [g414,Ex.ch,h0,hb,h2]
def QO:Ex:=⟨0,0,[],0,[],[],bN⟩
def Ex.at:Ex→List Int→Option Ex
 | e,[]=>some e
 | e,i::r=>if 0≤i∧i<e.ch.length then match e.ch[i.toNat]? with | some x=>x.at r | none=>none else none
def zO:List AV:=[.pv (vI 0),.pv (vI 0),.pv (.str []),.pv (vI 0),.own [] 0,.own [] 1,.pv (vI 0),.pv (.str []),.pv (vI 0),.pv (vI 0),.own [] 2]
def zK:List AV:=[.pv (vI 0),.pv (vI 0),.pv (.str []),.pv (vI 0),.bB [],.bB [],.pv (vI 0),.pv (.str []),.pv (vI 0),.pv (vI 0),.bB []]
def atR:Option Ex→List PV
 | some x=>[x.pv,.bool true]
 | none=>[QO.pv,.bool false]
def FO (p:List Int):Option Ex→Option (a6×St)
 | some x=>some (.exit 0,⟨[(2,.az 2 0),(4,.az 4 0),(9,.pv (.aD (p.map vI))),(10,.pv (vI p.length)),(11,.pv (vI p.length)),(12,.pv (.bool false))],[(2,x.cl),(4,zO)],[],[0,0,0]⟩)
 | none=>some (.ret,⟨[(4,.az 4 0),(5,.pv (.bool false))],[(4,zK)],[],[0,0,0]⟩)
theorem Pz {p:List Int} (hp:Sm p):∀(n i:Nat),p.length-i=n→i≤p.length→∀e:Ex,e.Ok →
   cl AP g410L0 ⟨[(2,.az 2 0),(4,.az 4 0),(9,.pv (.aD (p.map vI))),(10,.pv (vI p.length)),(11,.pv (vI i))],[(2,e.cl),(4,zO)],[],[0,0,0]⟩=FO p (e.at (p.drop i))
 | 0,i,hn,hi,e,he=>by
   have:i=p.length:=by omega
   subst this
   rw [g410L0e]
   simp [g410B0,Ex.at,FO,zO]
 | n+1,i,hn,hi,e,he=>by
   have hi:i<p.length:=by omega
   obtain ⟨k,hk⟩:=bp hi
   unfold Sm at hp
   have c:=c414 he
   simp at c
   rw [bL hk,g410L0e]
   simp only [Ex.at]
   by_cases h1:0≤k∧k<e.ch.length
   · rw [if_pos h1]
     obtain ⟨m,rfl,hm⟩:=jS h1.1 h1.2
     obtain ⟨x,hx⟩:=bp hm
     have ih:=Pz hp n (i+1) (by omega) (by omega) x (he.c x (bm hx))
     have hm':¬e.ch.length≤m:=by omega
     simp [hx,zO] at ih ⊢
     generalize e.ch=C at *
     simp (disch:=omega) [-getElem?_pos,g410B0,hk,hi,au,c,hx,hm,hm',ih]
   · rw [if_neg h1]
     by_cases h2:0≤k
     · have h3:¬k<e.ch.length:=fun h=>h1 ⟨h2,h⟩
       have h3':¬k<0:=by omega
       have h4:(e.ch.length:Int)≤k:=by omega
       generalize e.ch=C at *
       simp (disch:=omega) [-getElem?_pos,g410B0,hk,hi,au,c,FO,zO,zK,h3,h3',h4]
     · have h3':k<0:=by omega
       generalize e.ch=C at *
       simp (disch:=omega) [-getElem?_pos,g410B0,hk,hi,au,c,FO,zO,zK,h3']
theorem c410 {e:Ex} (h:e.Ok) {p:List Int} (hp:Sm p):(aP AP).p 410 [e.pv,.aD (p.map vI)]=some (atR (e.at p)):=by
 have h2:=Pz hp _ 0 rfl (by omega) e h
 simp at h2
 rw [aq (af:=g410) rfl rfl (by decide)]
 rw [g410L0e] at h2
 cases hx:e.at p with
 | none=>rw [hx] at h2;simp [FO,zO,zK] at h2;simp [g410,g410L0e,h2,atR,QO,bN]
 | some x=>rw [hx] at h2;simp [FO,zO,zK] at h2;simp [g410,g410L0e,h2,atR,QO,bN]
def gA (e:Ex) (i:Nat):List (List UInt8):=
 if e.kind=4∨e.kind=7∨(e.kind=6∧i=1) then [e.name]
 else if e.kind=8∧0<i then match e.bt[i-1]? with | some a=>a.vars | none=>[]
 else []
theorem c411 {e:Ex} {i:Nat} (hi:i<e.ch.length) (h8:e.kind=8→e.kids.length=1) (hO:e.Ok):(aP AP).p 411 [e.pv,vI i]=some [.aD ((gA e i).map .str)]:=by
 have ha:=hO.a
 rw [Ex.kO] at hi
 rw [aq (af:=g411) rfl rfl (by decide)]
 unfold gA
 by_cases h1:e.kind=4
 · simp [g411,h1]
 · by_cases h2:e.kind=7
   · simp [g411,h1,h2]
   · by_cases h3:e.kind=6
     · by_cases h4:i=1
       · simp [g411,h1,h2,h3,h4]
       · have h4':¬(i:Int)=1:=by omega
         simp [g411,h1,h2,h3,h4,h4']
     · by_cases h5:e.kind=8
       · have hk:=h8 h5
         by_cases h6:0<i
         · have h6':(1:Int)≤i:=by omega
           obtain ⟨a,hx⟩:=bp (l:=e.bt) (i:=i-1) (by omega)
           obtain ⟨m,rfl⟩:∃m:Nat,i=m+1:=⟨i-1,by omega⟩
           have hm:((m+1:Nat):Int)-1=m:=by omega
           have hm':((m:Int)+1)-1=m:=by omega
           simp at hx hi
           have hlt:m<e.bt.length:=by omega
           have h6'':(1:Int)≤(m:Int)+1:=by omega
           simp (disch:=omega) [-getElem?_pos,g411,h1,h2,h3,h5,hk,h6,h6',h6'',au,hm,hm',hx,hlt]
         · have:i=0:=by omega
           subst this
           simp [g411,h1,h2,h3,h5,hk]
       · simp [g411,h1,h2,h3,h5]
end Go.Ab.Lw
namespace Go.Ab.Lw
open Ev
def kg:List Ar→List Ex→List Ar
 | a::as,x::xs=>⟨a.pos,a.gq,a.vars,x⟩::kg as xs
 | as,_=>as
theorem rp:∀{as:List Ar} {xs:List Ex},(kg as xs).length=as.length
 | [],xs=>by cases xs<;>rfl
 | a::as,[]=>rfl
 | a::as,x::xs=>by simp [kg,rp (as:=as) (xs:=xs)]
def Ex.xQ (e:Ex) (c:List Ex):Ex:=if c.length=e.kids.length+e.bt.length then ⟨e.kind,e.pos,e.name,e.num,c.take e.kids.length,kg e.bt (c.drop e.kids.length),e.ty⟩ else e
theorem NL {l:List Ar}:((eL (bI Ar.cells l)).bind (eA 14 true l.length)).map PV.aD=some (.aD (l.map Ar.pv)):=pP je
theorem NM {l:List Ar}:((l.map Ar.pv).flatMap bw).map AV.pv=bI Ar.cells l:=pQ je
theorem Lq {c:List Ex} {n:Nat} (h:n≤c.length):cI false 11 false true false [.pv (.aD (c.map Ex.pv)),.pv (.int .i64 (n:Int))]=some (.pv (.aD ((c.map Ex.pv).take n))):=by
 have:=Pp (sz:=11) (l:=c.map Ex.pv) (k:=.i64) (h:=n) (by omega) (by simp;omega)
 simpa using this
theorem Mc {sz:Nat} {l:List PV}:cI false sz false true false [.pv (.aD l),.pv (.int .i64 0)]=some (.pv (.aD [])):=by
 simp [cI,dS,dG]
def Oq (e:Ex) (K:List Ex) (A:AV):List AV:=[.pv (vI e.kind),.pv (vI e.pos),.pv (.str e.name),.pv (vI e.num),.own (K.map Ex.pv) 3,A,.pv (vI e.ty.kind),.pv (.str e.ty.name),.pv (vI e.ty.id),.pv (vI e.ty.home),.pv (.aD (e.ty.args.map Ty.pv))]
theorem PA {e:Ex} {c K:List Ex} {n0 N:Nat} (hN:N≤1000) (hc:c.length=n0+N) (hn0:n0≤1000):∀(n i:Nat),N-i=n→i≤N→∀as:List Ar,as.length=N →
   cl AP g374L0 ⟨[(1,.pv (.aD (c.map Ex.pv))),(4,.az 4 0),(5,.pv (vI n0)),(6,.az 6 0),(7,.pv (vI i))],[(4,zO),(6,Oq e K (.bq 0 14 N true))],[some (bI Ar.cells as)],[0,0,0,K.length]⟩ =
     some (.exit 0,⟨[(1,.pv (.aD (c.map Ex.pv))),(4,.az 4 0),(5,.pv (vI n0)),(6,.az 6 0),(7,.pv (vI N)),(34,.pv (.bool false))],[(4,zO),(6,Oq e K (.bq 0 14 N true))],[some (bI Ar.cells (as.take i++kg (as.drop i) (c.drop (n0+i))))],[0,0,0,K.length]⟩)
 | 0,i,hn,hi,as,ha=>by
   have:i=N:=by omega
   subst this
   have hq:∀aQ ts,bC aQ ts [some (bI Ar.cells as)]=([some (bI Ar.cells as)],aQ,ts):=(a7.one cP).norm
   rw [xE (l:=as) (by omega),List.take_of_length_le (by omega)]
   simp only [kg,List.append_nil]
   generalize bI Ar.cells as=T at *
   rw [g374L0e]
   simp [g374B0,Oq,zO,hq]
 | n+1,i,hn,hi,as,ha=>by
   have hi:i<N:=by omega
   obtain ⟨a,hx⟩:=bp (l:=as) (i:=i) (by omega)
   obtain ⟨x,hy⟩:=bp (l:=c) (i:=n0+i) (by omega)
   have hci:n0+i<c.length:=by omega
   have ih:=PA (e:=e) (K:=K) hN hc hn0 n (i+1) (by omega) (by omega) (as.set i ⟨a.pos,a.gq,a.vars,x⟩) (by simpa using ha)
   have hset:=pO je hx (y:=⟨a.pos,a.gq,a.vars,x⟩) (o:=3) (vs:=x.cells) (by rw [eh.len];omega) (by
     have h1:=eh.len a.body
     have h2:=eh.len x
     simp only [Ar.cells,List.take_succ_cons,List.take_zero,List.cons_append,List.nil_append,List.drop_succ_cons,List.drop_zero,h2]
     rw [List.drop_eq_nil_of_le (by simp [h1]),List.append_nil])
   rw [Ex.ta] at hset
   have hfin:as.take i++kg (as.drop i) (c.drop (n0+i))=(as.set i ⟨a.pos,a.gq,a.vars,x⟩).take (i+1)++kg ((as.set i ⟨a.pos,a.gq,a.vars,x⟩).drop (i+1)) (c.drop (n0+(i+1))):=by
     have h1:(as.set i ⟨a.pos,a.gq,a.vars,x⟩).take (i+1)=as.take i++[⟨a.pos,a.gq,a.vars,x⟩]:=by
       rw [List.set_eq_take_append_cons_drop,if_pos (by omega),List.take_append,List.take_of_length_le (by simp;omega)]
       have:i+1-(as.take i).length=1:=by simp;omega
       rw [this];rfl
     rw [h1,List.drop_set_of_lt (by omega),bL hx,bL hy]
     simp [kg,Nat.add_assoc]
   rw [hfin]
   generalize (as.set i ⟨a.pos,a.gq,a.vars,x⟩).take (i+1)++kg ((as.set i ⟨a.pos,a.gq,a.vars,x⟩).drop (i+1)) (c.drop (n0+(i+1)))=R at ih ⊢
   have hq:∀aQ ts,bC aQ ts [some (bI Ar.cells as)]=([some (bI Ar.cells as)],aQ,ts):=(a7.one cP).norm
   have hq1:∀aQ ts,bC aQ ts [some (bI Ar.cells (as.set i ⟨a.pos,a.gq,a.vars,x⟩))]=([some (bI Ar.cells (as.set i ⟨a.pos,a.gq,a.vars,x⟩))],aQ,ts):=(a7.one cP).norm
   have hB:cQ (bI Ar.cells as)=false:=dh cP
   have hlen:(bI Ar.cells as).length=N*14:=by rw [d3 je,ha]
   have hle:i*14+3+11≤N*14:=by omega
   generalize bI Ar.cells (as.set i ⟨a.pos,a.gq,a.vars,x⟩)=T1 at *
   generalize bI Ar.cells as=T at *
   have hil:((n0:Int)+i).toNat=n0+i:=by omega
   have hpos:¬((n0:Int)+i<0):=by omega
   rw [g374L0e] at ih ⊢
   simp [Oq,zO,hq1] at ih hset
   simp (disch:=omega) [-getElem?_pos,g374B0,Oq,zO,hq,hi,hy,hci,hB,hlen,hle,hset,au,hil,hpos]
   rw [g374L0e]
   simp [hq1,ih]
theorem Je {xs:List Ex}:kg [] xs=[]:=by cases xs<;>rfl
theorem c374 {e:Ex} (hk:e.kids.length≤1000) (ha:e.bt.length≤1000) {c:List Ex}:(aP AP).p 374 [e.pv,.aD (c.map Ex.pv)]=some [(e.xQ c).pv]:=by
 rw [aq (af:=g374) rfl rfl (by decide)]
 unfold Ex.xQ
 have hw:((e.kids.length:Int)+e.bt.length).toNat=e.kids.length+e.bt.length:=by omega
 by_cases hc:c.length=e.kids.length+e.bt.length
 · rw [if_pos hc]
   have hci:(c.length:Int)=(e.kids.length:Int)+e.bt.length:=by omega
   have hle:e.kids.length≤c.length:=by omega
   have hsl:=Lq hle
   have hsl2:(c.take e.kids.length).length=e.kids.length:=by simp;omega
   have hb1:e.kids.length*152≤140737488355328:=by omega
   have hb2:e.bt.length*200≤140737488355328:=by omega
   have hz:e.kids.length=0↔c.take e.kids.length=[]:=by rw [←List.length_eq_zero_iff,hsl2]
   rw [←List.map_take] at hsl
   by_cases hA:e.bt=[]
   · have hn:e.bt.length=0:=by rw [hA];rfl
     rw [hn] at hci
     simp at hci
     generalize hK:c.take e.kids.length=K at *
     rw [hA,Je]
     by_cases hK0:K=[]
     · subst hK0
       have h0:=hz.2 rfl
       simp [h0] at hci
       simp (disch:=omega) [g374,g374L0e,g374B0,hA,hci,Mc,au,h0]
     · simp (disch:=omega) [g374,g374L0e,g374B0,hA,hci,hsl,au,hK0,hsl2,hb1]
   · have h:=PA (e:=e) (c:=c) (K:=c.take e.kids.length) ha hc hk _ 0 rfl (by omega) e.bt rfl
     simp only [List.take_zero,List.drop_zero,List.nil_append,Nat.add_zero] at h
     have hm:=NM (l:=e.bt)
     have hl:=NL (l:=kg e.bt (c.drop e.kids.length))
     have hlen:(bI Ar.cells (kg e.bt (c.drop e.kids.length))).length=e.bt.length*14:=by rw [d3 je,rp]
     rw [rp] at hl
     have hq:∀aQ ts,bC aQ ts [some (bI Ar.cells e.bt)]=([some (bI Ar.cells e.bt)],aQ,ts):=(a7.one cP).norm
     generalize kg e.bt (c.drop e.kids.length)=R at *
     generalize bI Ar.cells R=TR at *
     generalize hK:c.take e.kids.length=K at *
     rw [g374L0e] at h
     generalize bI Ar.cells e.bt=T at *
     simp [Oq,zO,hq] at h
     simp at hl
     by_cases hK0:K=[]
     · subst hK0
       have h0:=hz.2 rfl
       simp [h0] at h hci
       simp (disch:=omega) [-getElem?_pos,g374,hA,hci,Mc,au,h0,hb2,hm,hq,g374L0e,h,hlen,hl]
     · simp only [hsl2] at h
       simp (disch:=omega) [-getElem?_pos,g374,hA,hci,hsl,au,hK0,hsl2,hb1,hb2,hm,hq,g374L0e,h,hlen,hl]
 · rw [if_neg hc]
   have hci:¬(c.length:Int)=(e.kids.length:Int)+e.bt.length:=by omega
   simp (disch:=omega) [g374,hci,au]
end Go.Ab.Lw
namespace Go.Ab.Lw
open Ev
theorem se {α:Type} {l:List α} {i:Nat} {x:α} (h:i<l.length):(l.set i x).take (i+1)=l.take i++[x]:=by
 rw [List.set_eq_take_append_cons_drop,if_pos h,List.take_append,List.take_of_length_le (by simp;omega)]
 have:i+1-(l.take i).length=1:=by simp;omega
 rw [this];rfl
theorem xR {α:Type} {l:List α} {i j:Nat} {x:α} (h:i<j):(l.set i x).drop j=l.drop j:=by
 rw [List.drop_set_of_lt h]
theorem NN {X:Sh} (hX:a7 X) {t:List UInt8} {N:Nat} (hN:N<1099511627776):∀(n j:Nat),N-j=n→j≤N→∀(a:List (List UInt8)) (i:Nat),a.length=N→i<j→∃(a':List (List UInt8)) (i':Nat),
   cl AP g412L0 ⟨[(0,.bq X.length 1 N false),(1,.fn 413 [.aX (X.length+1) 0]),(5,.pv (vI i)),(6,.pv (vI j))],[],SA X a t,[]⟩ =
     some (.exit 0,⟨[(0,.bq X.length 1 N false),(1,.fn 413 [.aX (X.length+1) 0]),(5,.pv (vI i')),(6,.pv (vI N)),(19,.pv (.bool false))],[],SA X a' t,[]⟩) ∧
     a'.length=N∧i'≤N∧a'.take i'=a.take i++(a.drop j).filter (fun x=>!decide (x=t))
 | 0,j,hk,hj,a,i,ha,hi=>by
   have:j=N:=by omega
   subst this
   have hn:=(eW hX (l:=a) (t:=t)).norm
   refine ⟨a,i,?_,ha,by omega,by rw [List.drop_of_length_le (by omega)];simp⟩
   generalize SA X a t=SH at hn ⊢
   rw [g412L0e]
   simp [g412B0,hn]
 | n+1,j,hk,hj,a,i,ha,hi=>by
   have hj:j<N:=by omega
   obtain ⟨x,hx⟩:=bp (l:=a) (i:=j) (by omega)
   have hn:=(eW hX (l:=a) (t:=t)).norm
   have hs:=(eW hX (l:=a) (t:=t)).shift
   have hg:=I6 hx
   have hB:cQ (tx a)=false:=dh gH
   have hle:j+1≤(tx a).length:=by rw [kM];omega
   have hle2:i+1≤(tx a).length:=by rw [kM];omega
   have hA:=BA (X:=X) (l:=a) (t:=t)
   have q:=I7 hn hs I0 (by rw [uQ];omega) (x:=x) (t:=t) (c:=X.length+1)
   by_cases e:x=t
   · obtain ⟨a',i',e1,e2,e3,e4⟩:=NN hX (t:=t) hN n (j+1) (by omega) (by omega) a i ha (by omega)
     refine ⟨a',i',?_,e2,e3,by rw [e4,bL hx];simp [e]⟩
     rw [decide_eq_true e] at q
     generalize SA X a' t=SR at e1 ⊢
     generalize SA X a t=SH at hn hs hA q e1 ⊢
     rw [g412L0e] at e1 ⊢
     simp [hn] at e1
     simp (disch:=omega) [-getElem?_pos,-eg,g412B0,hj,hn,hA,hg,hB,hle,q,au]
     rw [g412L0e]
     simp [hn,e1]
   · obtain ⟨a',i',e1,e2,e3,e4⟩:=NN hX (t:=t) hN n (j+1) (by omega) (by omega) (a.set i x) (i+1) (by simpa using ha) (by omega)
     refine ⟨a',i',?_,e2,e3,by rw [e4,bL hx,se (by omega),xR (by omega)];simp [e]⟩
     rw [decide_eq_false e] at q
     have hiN:i<N:=by omega
     have htx:=ND (l:=a) (i:=i) (by omega) (s:=x)
     have hset:=I2 (X:=X) (l:=a) (l':=a.set i x) (t:=t)
     have hn1:=(eW hX (l:=a.set i x) (t:=t)).norm
     generalize SA X a' t=SR at e1 ⊢
     generalize SA X (a.set i x) t=S1 at hset hn1 e1
     generalize SA X a t=SH at hn hs hA q hset ⊢
     generalize tx (a.set i x)=T1 at htx hset
     rw [g412L0e] at e1 ⊢
     simp [hn1] at e1 htx
     simp (disch:=omega) [-getElem?_pos,-eg,g412B0,hj,hn,hA,hg,hB,hle,hle2,hiN,q,au,htx,hset]
     rw [g412L0e]
     simp [hn1,e1]
theorem c421 {SH:Sh} (hn:∀aQ ts,bC aQ ts SH=(SH,aQ,ts)) (hs:∀n,eB n SH=SH) {b c:Nat} {t:List UInt8} {l:List (List UInt8)} (hS:Sm l) (ha:SH[b]?=some (some (tx l))) (hb:SH[c]?=some (some [.pv (.str t)])) (hc:c<SH.length) :
   (aP AP).i 421 [.bq b 1 l.length false,.fn 413 [.aX c 0]] SH []=some ([.pv (vI (jd (cA (fun x=>decide (x=t)) l)))],SH,[]):=by
 have h:=Po hn hs hS ha hb hc _ 0 rfl (by omega)
 simp at h
 rw [aK (af:=q_ 1 false) rfl (by simp [q_])]
 cases hi:cA (fun x=>decide (x=t)) l with
 | none=>rw [hi] at h;simp at h;simp [q_,h,hn,jd]
 | some k=>rw [hi] at h;simp at h;simp [q_,h,hn,jd]
theorem Cl {α:Type} {p:α→Bool}:∀{l:List α},cA p l=none→l.filter (fun x=>!p x)=l
 | [],_=>rfl
 | x::r,h=>by
   simp only [cA] at h
   split at h
   · simp at h
   · rename_i e
     cases h':cA p r with
     | none=>simp [e,Cl h']
     | some k=>rw [h'] at h;simp at h
theorem Cm {α:Type} {p:α→Bool}:∀{l:List α} {k:Nat},cA p l=some k→k<l.length∧l.filter (fun x=>!p x)=l.take k++(l.drop (k+1)).filter (fun x=>!p x)
 | [],_,h=>by simp [cA] at h
 | x::r,k,h=>by
   simp only [cA] at h
   split at h
   · rename_i e
     simp at h;subst h
     simp [e]
   · rename_i e
     cases h':cA p r with
     | none=>rw [h'] at h;simp at h
     | some k'=>
       rw [h'] at h
       simp at h;subst h
       obtain ⟨h1,h2⟩:=Cm h'
       exact ⟨by simpa using h1,by simp [e,h2]⟩
theorem Jf {a:List (List UInt8)} {i N:Nat} (hN:a.length=N) (h:i≤N):bu (tx a) i ((List.replicate (N-i) [AV.pv (.str [])]).flatten)=tx (a.take i++List.replicate (N-i) []):=by
 have e:∀k,(List.replicate k [AV.pv (.str [])]).flatten=List.replicate k (AV.pv (.str [])):=by
   intro k
   induction k with
   | zero=>rfl
   | succ k ih=>simp only [List.replicate_succ,List.flatten_cons,ih];rfl
 rw [e,aJ,List.drop_eq_nil_of_le (by rw [kM];simp;omega)]
 simp [tx,List.map_take]
theorem c412 {X:Sh} (hX:a7 X) {t:List UInt8} {l:List (List UInt8)} (hS:Sm l):∃a:List (List UInt8),a.length=l.length∧a.take (l.filter fun x=>!decide (x=t)).length=l.filter (fun x=>!decide (x=t)) ∧
   (aP AP).i 412 [.bq X.length 1 l.length false,.fn 413 [.aX (X.length+1) 0]] (SA X l t) []=some ([.bq X.length 1 (l.filter fun x=>!decide (x=t)).length false],SA X a t,[]):=by
 have hS':=hS
 unfold Sm at hS'
 have hn:=(eW hX (l:=l) (t:=t)).norm
 have hs:=(eW hX (l:=l) (t:=t)).shift
 have k:=c421 hn hs (b:=X.length) (c:=X.length+1) hS BA I0 (by rw [uQ];omega)
 have hlen:=uQ (X:=X) (l:=l) (t:=t)
 cases hi:cA (fun x=>decide (x=t)) l with
 | none=>
   rw [hi] at k
   have hf:=Cl hi
   refine ⟨l,rfl,by rw [hf];simp,?_⟩
   rw [hf,aK (af:=g412) rfl (by simp [g412])]
   generalize SA X l t=SH at hn hs k hlen ⊢
   simp [jd] at k
   have ht:SH.take SH.length=SH:=List.take_length
   simp [-getElem?_pos,g412,hn,hs,k,jd,hlen]
   rw [←hlen,ht]
   simp [hn]
 | some i0=>
   rw [hi] at k
   obtain ⟨h0,hf⟩:=Cm hi
   obtain ⟨a',i',e1,e2,e3,e4⟩:=NN hX (t:=t) (N:=l.length) (by omega) _ (i0+1) rfl (by omega) l i0 rfl (by omega)
   rw [←hf] at e4
   have hi':(l.filter fun x=>!decide (x=t)).length=i':=by rw [←e4];simp;omega
   refine ⟨a'.take i'++List.replicate (l.length-i') [],by simp;omega,?_,?_⟩
   · rw [hi',←e4,List.take_append_of_le_length (by simp;omega),List.take_take];simp
   · rw [hi',aK (af:=g412) rfl (by simp [g412])]
     have hn1:=(eW hX (l:=a') (t:=t)).norm
     have hn2:=(eW hX (l:=a'.take i'++List.replicate (l.length-i') []) (t:=t)).norm
     have hB:cQ (tx a')=false:=dh gH
     have hA:=BA (X:=X) (l:=a') (t:=t)
     have htl:(tx a').length=l.length:=by rw [kM,e2]
     have hcl:=Jf e2 e3
     have hset:=I2 (X:=X) (l:=a') (l':=a'.take i'++List.replicate (l.length-i') []) (t:=t)
     have hl2:=uQ (X:=X) (l:=a'.take i'++List.replicate (l.length-i') []) (t:=t)
     generalize SA X (a'.take i'++List.replicate (l.length-i') []) t=S2 at hn2 hset hl2 ⊢
     generalize SA X a' t=S1 at hn1 hA hset e1
     generalize SA X l t=SH at hn hs k hlen e1 ⊢
     generalize tx (a'.take i'++List.replicate (l.length-i') [])=T2 at hcl hset
     have ht:S2.take S2.length=S2:=List.take_length
     rw [g412L0e] at e1
     simp [hn] at e1
     have hi0:¬((i0:Int)=-1):=by omega
     have hle:i'+(l.length-i')≤l.length:=by omega
     rcases Nat.eq_zero_or_pos i' with hz | hz
     · subst hz
       simp at hcl
       simp (disch:=omega) [-getElem?_pos,g412,hn,hs,k,jd,hi0,au,g412L0e,e1,jj,dG,hA,hB,htl,hcl,hset,hlen]
       rw [←hl2,ht]
       simp [hn2]
     · have hz':¬((i':Int)=0):=by omega
       have hz2:¬i'=0:=by omega
       simp [e3] at hcl
       simp (disch:=omega) [-getElem?_pos,g412,hn,hs,k,jd,hi0,au,g412L0e,e1,jj,dG,hz',hz2,e3,hA,hB,htl,hle,hcl,hset,hlen]
       rw [←hl2,ht]
       simp [hn2]
end Go.Ab.Lw
namespace Go.Ab.Lw
open Ev
def lB (l:List (List UInt8)) (t:List UInt8):List (List UInt8):=(l.filter fun x=>!decide (x=t))++[t]
theorem c412e {SH:Sh} (hn:∀aQ ts,bC aQ ts SH=(SH,aQ,ts)) (hs:∀n,eB n SH=SH) {c:Nat} :
   (aP AP).i 412 [.own [] 0,.fn 413 [.aX c 0]] SH [0]=some ([.own [] 0],SH,[0]):=by
 have k:(aP AP).i 421 [.pv (.aD []),.fn 413 [.aX c 0]] SH []=some ([.pv (vI (-1))],SH,[]):=by
   rw [aK (af:=q_ 1 false) rfl (by simp [q_])]
   simp [q_,hn,nb,uO]
 rw [aK (af:=g412) rfl (by simp [g412])]
 have ht:SH.take SH.length=SH:=List.take_length
 simp [-getElem?_pos,g412,hn,hs,k,ht]
def oh (X:Sh) (l:List (List UInt8)):AV:=if l=[] then .own [] 0 else .bq X.length 1 l.length false
def nh (X:Sh) (l:List (List UInt8)):Sh:=if l=[] then X else X++[some (tx l)]
def oi (l:List (List UInt8)):aL:=if l=[] then [0] else []
theorem Jg {e:List AV} (he:∀v∈e,∃p,v=AV.pv p) {i9 i22:Int} {p20:PV} {n21:Int} {V:List (List UInt8)} (hV:V.length<1000000):∀(n j:Nat),V.length-j=n→j≤V.length→∀(X:Sh) (l:List (List UInt8)),a7 X→l.length+n<1000000000→∃X',a7 X' ∧
   cl AP g404L1 ⟨[(2,.az 2 0),(7,oh X l),(9,.pv (vI i9)),(20,.pv p20),(21,.pv (vI n21)),(22,.pv (vI i22)),(28,.pv (.aD (V.map .str))),(29,.pv (vI V.length)),(30,.pv (vI j))],[(2,e)],nh X l,oi l⟩ =
     some (.exit 2,⟨[(2,.az 2 0),(7,oh X' ((V.drop j).foldl lB l)),(9,.pv (vI i9)),(20,.pv p20),(21,.pv (vI n21)),(22,.pv (vI i22)),(28,.pv (.aD (V.map .str))),(29,.pv (vI V.length)),(30,.pv (vI V.length)),(31,.pv (.bool false))],[(2,e)],nh X' ((V.drop j).foldl lB l),oi ((V.drop j).foldl lB l)⟩)
 | 0,j,hk,hj,X,l,hX,hl=>by
   have:j=V.length:=by omega
   subst this
   refine ⟨X,hX,?_⟩
   rw [List.drop_length]
   simp only [List.foldl_nil]
   have hn:=hX.norm
   have he':∀aQ ts,bz aQ ts e=(e,aQ,ts):=fun aQ ts=>gk he
   by_cases h0:l=[]
   · rw [g404L1e]
     simp [g404B1,oh,nh,oi,h0,hn,he']
   · have hn1:∀aQ ts,bC aQ ts (X++[some (tx l)])=(X++[some (tx l)],aQ,ts):=(hX.app (a7.one gH)).norm
     rw [g404L1e]
     simp only [oh,nh,oi,if_neg h0]
     generalize X++[some (tx l)]=S1 at hn1
     simp [g404B1,hn1,he']
 | n+1,j,hk,hj,X,l,hX,hl=>by
   have hj:j<V.length:=by omega
   obtain ⟨t,ht⟩:=bp hj
   have he':∀aQ ts,bz aQ ts e=(e,aQ,ts):=fun aQ ts=>gk he
   have hn:=hX.norm
   have hs:=hX.shift
   have huf:(l.filter fun x=>!decide (x=t)).length≤l.length:=List.length_filter_le _ _
   have hul:(lB l t).length≤l.length+1:=by simp [lB,huf]
   rw [bL ht,List.foldl_cons]
   by_cases h0:l=[]
   · subst h0
     have hXB:a7 (X++[some [.pv (.str t)]]):=hX.app (a7.one (by intro v hv;simp at hv;exact ⟨_,hv⟩))
     have k:=c412e hXB.norm hXB.shift (c:=X.length)
     obtain ⟨X',hX',ih⟩:=Jg he (i9:=i9) (i22:=i22) (p20:=p20) (n21:=n21) hV n (j+1) (by omega) (by omega) (X++[some [.pv (.str t)]]) [t] hXB (by simp at hl ⊢;omega)
     refine ⟨X',hX',?_⟩
     have eu:lB [] t=[t]:=by simp [lB]
     rw [eu]
     have hn2:∀aQ ts,bC aQ ts (X++[some [.pv (.str t)],some [.pv (.str t)]])=(X++[some [.pv (.str t)],some [.pv (.str t)]],aQ,ts):=by
       have:=(hXB.app (a7.one (cs:=[AV.pv (.str t)]) (by intro v hv;simp at hv;exact ⟨_,hv⟩))).norm
       simpa using this
     have hn1:=hXB.norm
     have hs1:=hXB.shift
     generalize (V.drop (j+1)).foldl lB [t]=r at ih ⊢
     rw [g404L1e] at ih ⊢
     simp [oh,nh,oi,he',tx,hn2] at ih ⊢
     simp (disch:=omega) [-getElem?_pos,g404B1,ht,hj,hn,hn1,hs1,he',k,au]
     rw [g404L1e]
     simp [he',hn2,ih]
   · obtain ⟨a,a1,a2,k⟩:=c412 hX (t:=t) (l:=l) (by unfold Sm;omega)
     have hXN:a7 (X++[none,some [.pv (.str t)]]):=hX.app (by intro cs hc v hv;simp at hc;subst hc;simp at hv;exact ⟨_,hv⟩)
     obtain ⟨X',hX',ih⟩:=Jg he (i9:=i9) (i22:=i22) (p20:=p20) (n21:=n21) hV n (j+1) (by omega) (by omega) (X++[none,some [.pv (.str t)]]) (lB l t) hXN (by omega)
     refine ⟨X',hX',?_⟩
     have hup:lB l t≠[]:=by simp [lB]
     have hn0:∀aQ ts,bC aQ ts (X++[some (tx l)])=(X++[some (tx l)],aQ,ts):=(hX.app (a7.one gH)).norm
     have hn1:=(eW hX (l:=l) (t:=t)).norm
     have hn2:=(eW hX (l:=a) (t:=t)).norm
     have hs2:=(eW hX (l:=a) (t:=t)).shift
     have hn3:∀aQ ts,bC aQ ts (X++[none,some [.pv (.str t)],some (tx (lB l t))])=(X++[none,some [.pv (.str t)],some (tx (lB l t))],aQ,ts):=by
       have:=(hXN.app (a7.one (cs:=tx (lB l t)) gH)).norm
       simpa using this
     have hB:cQ (tx a)=false:=dh gH
     have htl:(tx a).length=l.length:=by rw [kM,a1]
     have hul2:(lB l t).length=(l.filter fun x=>!decide (x=t)).length+1:=by simp [lB]
     have htx:tx (lB l t)=(tx a).take (l.filter fun x=>!decide (x=t)).length++[.pv (.str t)]:=by
       have:(tx a).take (l.filter fun x=>!decide (x=t)).length=tx (l.filter fun x=>!decide (x=t)):=by
         conv=>rhs;rw [←a2]
         simp [tx,List.map_take]
       rw [this];simp [tx,lB]
     have g0:∀u v:Option (List AV),(X++[u,v])[X.length]?=some u:=fun u v=>by simp
     have g1:∀u v:Option (List AV),(X++[u,v])[X.length+1]?=some v:=fun u v=>by simp
     have s0:∀u v w:Option (List AV),(X++[u,v]).set X.length w=X++[w,v]:=fun u v w=>by simp
     have s1:∀u v w:Option (List AV),(X++[u,v]).set (X.length+1) w=X++[u,w]:=fun u v w=>by simp
     unfold SA at k hn1 hn2 hs2
     simp only [oh,nh,oi,if_neg h0,if_neg hup] at ih ⊢
     generalize (V.drop (j+1)).foldl lB (lB l t)=r at ih ⊢
     rw [hul2] at ih
     generalize (l.filter fun x=>!decide (x=t)).length=K at k htx ih huf
     have hb1:(K+1)*16≤140737488355328:=by omega
     have hb2:K≤l.length:=huf
     generalize tx (lB l t)=TU at htx hn3 ih
     generalize tx a=TA at k hn2 hs2 hB htl htx
     generalize tx l=TL at k hn0 hn1 ⊢
     generalize (if r=[] then AV.own [] 0 else AV.bq X'.length 1 r.length false)=VR at ih ⊢
     generalize (if r=[] then X' else X'++[some (tx r)])=SR at ih ⊢
     generalize (if r=[] then ([0]:aL) else [])=TR at ih ⊢
     rw [g404L1e] at ih ⊢
     simp [he',hn3] at ih
     simp (disch:=omega) [-getElem?_pos,g404B1,ht,hj,hn0,hn1,hn2,hs2,he',k,au,hB,htl,hb1,hb2,g0,g1,s0,s1,←htx]
     rw [g404L1e]
     simp [he',hn3,ih]
end Go.Ab.Lw
namespace Go.Ab.Lw
open Ev
noncomputable def ic:List bS→List bS
 | []=>[]
 | x::r=>if x∈r then ic r else x::ic r
inductive Ex.One:Ex→Prop
 | mk {e:Ex}:(e.kind=8→e.kids.length=1)→(∀x∈e.ch,x.One)→e.One
theorem Ex.One.h {e:Ex} (h:e.One):e.kind=8→e.kids.length=1:=by cases h;assumption
theorem Ex.One.c {e:Ex} (h:e.One):∀x∈e.ch,x.One:=by cases h;assumption
def Ex.sd:Ex→List Int→List bS
 | _,[]=>[]
 | e,i::r=>gA e i.toNat++match e.ch[i.toNat]? with | some x=>x.sd r | none=>[]
theorem ni {e:Ex} {i:Nat} (h:e.Ok):(gA e i).length≤1000:=by
 unfold gA
 split
 · simp
 · split
   · cases hx:e.bt[i-1]? with
     | none=>simp
     | some a=>exact h.v a (bm hx)
   · simp
theorem Cn {e:Ex} {k:Int} {r:List Int} {y:Ex} (h:e.at (k::r)=some y):∃(m:Nat) (x:Ex),k=m∧m<e.ch.length∧e.ch[m]?=some x∧x.at r=some y:=by
 simp only [Ex.at] at h
 split at h
 · rename_i h1
   obtain ⟨m,rfl,hm⟩:=jS h1.1 h1.2
   obtain ⟨x,hx⟩:=bp hm
   simp [hx] at h
   exact ⟨m,x,rfl,hm,hx,h⟩
 · cases h
theorem Co {y:Ex}:∀{p:List Int} {e:Ex},e.Ok→e.at p=some y→(e.sd p).length≤p.length*1000
 | [],_,_,_=>by simp [Ex.sd]
 | k::r,e,h,ha=>by
   obtain ⟨m,x,rfl,hm,hx,hy⟩:=Cn ha
   have:=Co (h.c x (bm hx)) hy
   have:=ni h (i:=m)
   simp only [Ex.sd,Int.toNat_natCast,hx,List.length_append,List.length_cons]
   omega
noncomputable def rq (e:Ex) (p:List Int):List bS:=match e.at p with | some _=>ic (e.sd p) | none=>[]
theorem Md {p:List Int} (hp:p.length<100000) {y:Ex}:∀(n i:Nat),p.length-i=n→i≤p.length→∀(e:Ex) (X:Sh) (l:List bS),e.Ok→e.One→a7 X→e.at (p.drop i)=some y→l.length≤i*1000→∃(X':Sh) (q:List AV),a7 X' ∧
   cl AP g404L0 ⟨[(2,.az 2 0),(7,oh X l),(20,.pv (.aD (p.map vI))),(21,.pv (vI p.length)),(22,.pv (vI i))],[(2,e.cl)],nh X l,oi l⟩ =
     some (.exit 0,⟨[(2,.az 2 0),(7,oh X' ((e.sd (p.drop i)).foldl lB l)),(20,.pv (.aD (p.map vI))),(21,.pv (vI p.length)),(22,.pv (vI p.length)),(23,.pv (.bool false))],[(2,q)],nh X' ((e.sd (p.drop i)).foldl lB l),oi ((e.sd (p.drop i)).foldl lB l)⟩)
 | 0,i,hn,hi,e,X,l,he,h1,hX,ha,hl=>by
   have:i=p.length:=by omega
   subst this
   refine ⟨X,e.cl,hX,?_⟩
   have hnX:=hX.norm
   have hn1:∀aQ ts,bC aQ ts (X++[some (tx l)])=(X++[some (tx l)],aQ,ts):=(hX.app (a7.one gH)).norm
   rw [g404L0e]
   by_cases h0:l=[]
   · subst h0
     simp [g404B0,Ex.sd,oh,nh,oi,hnX]
   · simp only [List.drop_length,Ex.sd,List.foldl_nil,oh,nh,oi,if_neg h0]
     generalize X++[some (tx l)]=S1 at *
     simp [g404B0,hn1]
 | n+1,i,hn,hi,e,X,l,he,h1,hX,ha,hl=>by
   have hi:i<p.length:=by omega
   obtain ⟨k,hk⟩:=bp hi
   rw [bL hk] at ha ⊢
   obtain ⟨m,x,rfl,hm,hx,hy⟩:=Cn ha
   have hbl:=ni he (i:=m)
   have hep:∀v∈e.cl,∃p,v=AV.pv p:=by intro v hv;simp at hv;rcases hv with rfl | rfl | rfl | rfl | rfl | rfl | rfl | rfl | rfl | rfl | rfl<;>exact ⟨_,rfl⟩
   obtain ⟨X1,hX1,e1⟩:=Jg hep (i9:=m) (i22:=i) (p20:=.aD (p.map vI)) (n21:=p.length) (V:=gA e m) (by omega) _ 0 rfl (by omega) X l hX (by omega)
   have hul:∀(V l:List bS),(V.foldl lB l).length≤l.length+V.length:=by
     intro V
     induction V with
     | nil=>intro l;simp
     | cons t r ih=>
       intro l
       have:=ih (lB l t)
       have hf:(l.filter fun x=>!decide (x=t)).length≤l.length:=List.length_filter_le _ _
       have:(lB l t).length≤l.length+1:=by simp [lB,hf]
       simp only [List.foldl_cons,List.length_cons]
       omega
   have hl1:=hul (gA e m) l
   obtain ⟨X',q,hX',ih⟩:=Md hp n (i+1) (by omega) (by omega) x X1 ((gA e m).foldl lB l) (he.c x (bm hx)) (h1.c x (bm hx)) hX1 hy (by omega)
   refine ⟨X',q,hX',?_⟩
   have c:=c414 he
   have c2:=c411 hm h1.h he
   simp only [Ex.sd,Int.toNat_natCast,hx,List.foldl_append]
   rw [List.drop_zero] at e1
   generalize hL:(x.sd (p.drop (i+1))).foldl lB ((gA e m).foldl lB l)=r at ih ⊢
   generalize (gA e m).foldl lB l=l1 at e1 ih hl1
   have hnv:∀{X:Sh} {l:List bS},a7 X→∀aQ ts,bC aQ ts (nh X l)=(nh X l,aQ,ts):=by
     intro X l hX aQ ts
     unfold nh
     by_cases h0:l=[]
     · rw [if_pos h0];exact hX.norm aQ ts
     · rw [if_neg h0];exact (hX.app (a7.one gH)).norm aQ ts
   have hn1:=hnv hX (l:=l)
   have hn2:=hnv hX1 (l:=l1)
   have vcase:∀(X:Sh) (l:List bS),(oh X l=.own [] 0∧oi l=[0])∨(∃b z k g,oh X l=.bq b z k g∧oi l=[]):=by
     intro X l
     unfold oh oi
     by_cases h0:l=[]
     · left;simp [h0]
     · right;exact ⟨X.length,1,l.length,false,by simp [h0],by simp [h0]⟩
   rw [g404L0e] at ih ⊢
   rw [g404L1e] at e1
   generalize e.ch=C at *
   generalize gA e m=B at *
   simp at c c2
   rcases vcase X l with ⟨v1,t1⟩ | ⟨b1,z1,k1,f1,v1,t1⟩<;>rcases vcase X1 l1 with ⟨v2,t2⟩ | ⟨b2,z2,k2,f2,v2,t2⟩<;>simp only [v1,t1,v2,t2] at e1 ih ⊢<;>generalize nh X l=S0 at*<;> generalize nh X1 l1=S1 at*<;> generalize nh X' r=S2 at*<;> generalize oh X' r=V2 at*<;> generalize oi r=T2 at*<;>
     simp [hn1,hn2] at e1 ih ⊢ <;>
     simp (disch:=omega) [-getElem?_pos,g404B0,hk,hi,au,c,c2,hx,hm,hn1,hn2,g404L1e,e1]<;>rw [g404L0e]<;>simp [hn2,ih]
theorem jV (t:bS):∀l:List bS,ic (l++[t])=(ic l).filter (fun x=>!decide (x=t))++[t]
 | []=>by simp [ic]
 | x::r=>by
   simp only [List.cons_append,ic,List.mem_append,List.mem_singleton]
   by_cases e:x∈r
   · simp [e,jV t r]
   · by_cases e2:x=t
     · subst e2;simp [e,jV x r]
     · simp [e,e2,jV t r]
theorem FP (l:List bS):l.foldl lB []=ic l:=by
 have:∀k,∀l:List bS,l.length=k→l.foldl lB []=ic l:=by
   intro k
   induction k with
   | zero=>intro l h;have:=List.length_eq_zero_iff.1 h;subst this;simp [ic]
   | succ k ih=>
     intro l h
     have hne:l≠[]:=by intro e;subst e;simp at h
     obtain ⟨r,t,rfl⟩:∃r t,l=r++[t]:=⟨l.dropLast,l.getLast hne,(List.dropLast_concat_getLast hne).symm⟩
     rw [List.foldl_append,ih r (by simpa using h),jV]
     rfl
 exact this _ l rfl
theorem Jh:∀r:List bS,eL (tx r)=some (r.map .str)
 | []=>rfl
 | t::r=>by
   have ih:=Jh r
   unfold tx at ih ⊢
   simp only [List.map_cons,eL,ji,ih]
end Go.Ab.Lw
namespace Go.Ab.Lw
open Ev
def BB (cs:List gR) (s:bS):Option Nat:=cA (fun c=>decide (c.name=s)) cs
def iv:List Dt→bS→Nat→Option (Nat×Nat)
 | [],_,_=>none
 | d::r,s,i=>match BB d.cons s with
   | some k=>some (i,k)
   | none=>iv r s (i+1)
def rF:Option (Nat×Nat)→List PV
 | some (i,k)=>[vI i,vI k,.bool true]
 | none=>[vI 0,vI 0,.bool false]
theorem Me {ds:List Dt} {s:bS} {i:Nat} {cs:List gR} (hS:Sm cs):∀(n k:Nat),cs.length-k=n→k≤cs.length →
   cl AP g190L1 ⟨[(1,.pv (.str s)),(7,.pv (vI i)),(11,.pv (.aD (ds.map Dt.pv))),(12,.pv (vI ds.length)),(13,.pv (vI i)),(19,.pv (.aD (cs.map gR.pv))),(20,.pv (vI cs.length)),(21,.pv (vI k))],[],[],[]⟩ =
     match cA (fun c=>decide (c.name=s)) (cs.drop k) with
     | some j=>some (.ret,⟨[(4,.pv (vI i)),(5,.pv (vI (k+j:Nat))),(6,.pv (.bool true))],[],[],[]⟩)
     | none=>some (.exit 2,⟨[(1,.pv (.str s)),(7,.pv (vI i)),(11,.pv (.aD (ds.map Dt.pv))),(12,.pv (vI ds.length)),(13,.pv (vI i)),(19,.pv (.aD (cs.map gR.pv))),(20,.pv (vI cs.length)),(21,.pv (vI cs.length)),(22,.pv (.bool false))],[],[],[]⟩)
 | 0,k,hn,hk=>by
   have:k=cs.length:=by omega
   subst this
   rw [g190L1e]
   simp [g190B1,cA]
 | n+1,k,hn,hk=>by
   have hk:k<cs.length:=by omega
   obtain ⟨x,hx⟩:=bp hk
   unfold Sm at hS
   have ih:=Me (ds:=ds) (s:=s) (i:=i) hS n (k+1) (by omega) (by omega)
   rw [g190L1e] at ih ⊢
   rw [bL hx]
   simp at ih
   by_cases e:x.name=s
   · simp (disch:=omega) [-getElem?_pos,g190B1,hx,hk,e,cA]
   · simp (disch:=omega) [-getElem?_pos,g190B1,hx,hk,e,cA,au]
     rw [g190L1e]
     simp [ih]
     cases cA (fun c=>decide (c.name=s)) (cs.drop (k+1)) with
     | none=>rfl
     | some j=>simp;omega
theorem PB {ds:List Dt} (hS:Sm ds) (hc:∀d∈ds,Sm d.cons) (s:bS):∀(n i:Nat),ds.length-i=n→i≤ds.length →
   cl AP g190L0 ⟨[(1,.pv (.str s)),(11,.pv (.aD (ds.map Dt.pv))),(12,.pv (vI ds.length)),(13,.pv (vI i))],[],[],[]⟩ =
     match iv (ds.drop i) s i with
     | some q=>some (.ret,⟨[(4,.pv (vI q.1)),(5,.pv (vI q.2)),(6,.pv (.bool true))],[],[],[]⟩)
     | none=>some (.exit 0,⟨[(1,.pv (.str s)),(11,.pv (.aD (ds.map Dt.pv))),(12,.pv (vI ds.length)),(13,.pv (vI ds.length)),(14,.pv (.bool false))],[],[],[]⟩)
 | 0,i,hn,hi=>by
   have:i=ds.length:=by omega
   subst this
   rw [g190L0e]
   simp [g190B0,iv]
 | n+1,i,hn,hi=>by
   have hi:i<ds.length:=by omega
   obtain ⟨d,hd⟩:=bp hi
   unfold Sm at hS
   have ih:=PB hS hc s n (i+1) (by omega) (by omega)
   have h:=Me (ds:=ds) (s:=s) (i:=i) (hc d (bm hd)) _ 0 rfl (by omega)
   rw [g190L1e] at h
   rw [g190L0e] at ih ⊢
   rw [bL hd]
   simp at ih h
   cases e:cA (fun c=>decide (c.name=s)) d.cons with
   | some k=>
     rw [e] at h
     simp at h
     simp (disch:=omega) [-getElem?_pos,g190B0,hd,hi,iv,BB,e,g190L1e,h]
   | none=>
     rw [e] at h
     simp at h
     simp (disch:=omega) [-getElem?_pos,g190B0,hd,hi,iv,BB,e,g190L1e,h,au]
     rw [g190L0e]
     simp [ih]
theorem c190 {ds:List Dt} (hS:Sm ds) (hc:∀d∈ds,Sm d.cons) {s:bS}:(aP AP).p 190 [.aD (ds.map Dt.pv),.str s]=some (rF (iv ds s 0)):=by
 have h:=PB hS hc s _ 0 rfl (by omega)
 rw [aq (af:=g190) rfl rfl (by decide)]
 rw [g190L0e] at h
 simp at h
 cases e:iv ds s 0 with
 | none=>rw [e] at h;simp at h;simp [g190,g190L0e,h,rF]
 | some q=>rw [e] at h;simp at h;simp [g190,g190L0e,h,rF]
theorem Mf {ds:List Dt} {s:bS} {i:Nat} {d:Dt} (hd:ds[i]?=some d) (hS:Sm d.cons):∀(n k:Nat),d.cons.length-k=n→k≤d.cons.length →
   cl AP g191L1 ⟨[(0,.pv (.aD (ds.map Dt.pv))),(1,.pv (.str s)),(7,.pv (vI i)),(8,.pv (vI k))],[],[],[]⟩ =
     match cA (fun c=>decide (c.name=s)) (d.cons.drop k) with
     | some j=>some (.ret,⟨[(4,.pv (vI i)),(5,.pv (vI (k+j:Nat))),(6,.pv (.bool true))],[],[],[]⟩)
     | none=>some (.exit 2,⟨[(0,.pv (.aD (ds.map Dt.pv))),(1,.pv (.str s)),(7,.pv (vI i)),(8,.pv (vI d.cons.length)),(22,.pv (.bool false))],[],[],[]⟩)
 | 0,k,hn,hk=>by
   have:k=d.cons.length:=by omega
   subst this
   rw [g191L1e]
   simp [-getElem?_pos,g191B1,cA,hd]
 | n+1,k,hn,hk=>by
   have hk:k<d.cons.length:=by omega
   obtain ⟨x,hx⟩:=bp hk
   unfold Sm at hS
   have ih:=Mf (s:=s) hd hS n (k+1) (by omega) (by omega)
   rw [g191L1e] at ih ⊢
   rw [bL hx]
   simp at ih
   by_cases e:x.name=s
   · simp (disch:=omega) [-getElem?_pos,g191B1,hd,hx,hk,e,cA]
   · simp (disch:=omega) [-getElem?_pos,g191B1,hd,hx,hk,e,cA,au]
     rw [g191L1e]
     simp [ih]
     cases cA (fun c=>decide (c.name=s)) (d.cons.drop (k+1)) with
     | none=>rfl
     | some j=>simp;omega
theorem PC {ds:List Dt} (hS:Sm ds) (hc:∀d∈ds,Sm d.cons) (s:bS):∀(n i:Nat),ds.length-i=n→i≤ds.length →
   cl AP g191L0 ⟨[(0,.pv (.aD (ds.map Dt.pv))),(1,.pv (.str s)),(7,.pv (vI i))],[],[],[]⟩ =
     match iv (ds.drop i) s i with
     | some q=>some (.ret,⟨[(4,.pv (vI q.1)),(5,.pv (vI q.2)),(6,.pv (.bool true))],[],[],[]⟩)
     | none=>some (.exit 0,⟨[(0,.pv (.aD (ds.map Dt.pv))),(1,.pv (.str s)),(7,.pv (vI ds.length)),(12,.pv (.bool false))],[],[],[]⟩)
 | 0,i,hn,hi=>by
   have:i=ds.length:=by omega
   subst this
   rw [g191L0e]
   simp [g191B0,iv]
 | n+1,i,hn,hi=>by
   have hi:i<ds.length:=by omega
   obtain ⟨d,hd⟩:=bp hi
   unfold Sm at hS
   have ih:=PC hS hc s n (i+1) (by omega) (by omega)
   have h:=Mf (s:=s) hd (hc d (bm hd)) _ 0 rfl (by omega)
   rw [g191L1e] at h
   rw [g191L0e] at ih ⊢
   rw [bL hd]
   simp at ih h
   cases e:cA (fun c=>decide (c.name=s)) d.cons with
   | some k=>
     rw [e] at h
     simp at h
     simp (disch:=omega) [-getElem?_pos,g191B0,hd,hi,iv,BB,e,g191L1e,h]
   | none=>
     rw [e] at h
     simp at h
     simp (disch:=omega) [-getElem?_pos,g191B0,hd,hi,iv,BB,e,g191L1e,h,au]
     rw [g191L0e]
     simp [ih]
theorem c191 {ds:List Dt} (hS:Sm ds) (hc:∀d∈ds,Sm d.cons) {s:bS}:(aP AP).p 191 [.aD (ds.map Dt.pv),.str s]=some (rF (iv ds s 0)):=by
 have h:=PC hS hc s _ 0 rfl (by omega)
 rw [aq (af:=g191) rfl rfl (by decide)]
 rw [g191L0e] at h
 simp at h
 cases e:iv ds s 0 with
 | none=>rw [e] at h;simp at h;simp [g191,g191L0e,h,rF]
 | some q=>rw [e] at h;simp at h;simp [g191,g191L0e,h,rF]
theorem Lr {cs:List gR} {s:bS} {k:Nat} (h:BB cs s=some k):∃c,cs[k]?=some c∧c.name=s:=by
 unfold BB at h
 induction cs generalizing k with
 | nil=>simp [cA] at h
 | cons a r ih=>
   simp only [cA] at h
   split at h
   · rename_i e
     cases h
     exact ⟨a,rfl,by simpa using e⟩
   · simp only [Option.map_eq_some_iff] at h
     obtain ⟨j,hj,rfl⟩:=h
     obtain ⟨c,h1,h2⟩:=ih hj
     exact ⟨c,by simpa using h1,h2⟩
theorem uT {s:bS}:∀{ds:List Dt} {n:Nat} {q:Nat×Nat},iv ds s n=some q→n≤q.1∧∃d c,ds[q.1-n]?=some d∧d.cons[q.2]?=some c∧c.name=s
 | [],n,q,h=>by simp [iv] at h
 | d::r,n,q,h=>by
   simp only [iv] at h
   split at h
   · rename_i k e
     cases h
     obtain ⟨c,h1,h2⟩:=Lr e
     exact ⟨Nat.le_refl _,d,c,by simp,h1,h2⟩
   · obtain ⟨h1,d',c,h2,h3,h4⟩:=uT h
     refine ⟨by omega,d',c,?_,h3,h4⟩
     rw [show q.1-n=(q.1-(n+1))+1 from by omega]
     simpa using h2
end Go.Ab.Lw
namespace Go.Ab.Lw
open Ev
def nj (d:Dt) (as:List Ar):Bool:=decide (d.cons.map gR.name=as.map fe.gq)
def ru (ds:List Dt) (as:List Ar):Option Nat:=cA (fun d=>nj d as) ds
def xS:Option Nat→List PV
 | some i=>[vI i,.bool true]
 | none=>[vI 0,.bool false]
theorem Ls:Oj gR.pv (fun c:gR=>[vI c.pos,.str c.name,.aD (c.fields.map Ty.pv)]) 3:=⟨fun _=>rfl,fun _=>rfl,fun _=>by simp⟩
theorem NO:Oj Ar.pv Ar.cells 14:=⟨fun _=>rfl,fun x=>je.len x,fun x=>by simp [Ar.cells,Ex.bA]⟩
theorem rz:∀{cs:List gR} {as:List Ar},kf (fun (c:gR) (a:Ar)=>decide (c.name=a.gq)) cs as=decide (cs.map gR.name=as.map fe.gq)
 | [],[]=>by simp [kf]
 | c::cs,a::as=>by simp only [kf,rz (cs:=cs) (as:=as),List.map_cons,List.cons.injEq,Bool.decide_and]
 | [],_::_=>by simp [kf]
 | _::_,[]=>by simp [kf]
theorem NP {sh:Sh} (hq:a7 sh) {cs:List gR}:IL (.fn 419 []) sh (fun c:gR=>[vI c.pos,.str c.name,.aD (c.fields.map Ty.pv)]) Ar.cells (fun (c:gR) (a:Ar)=>decide (c.name=a.gq)) cs:=by
 intro x _ y
 have c:(aP AP).i 419 [.pv x.pv,.pv (Ar.pv y)] sh []=some ([.pv (.bool (decide (x.name=y.gq)))],sh,[]):=by
   rw [aK (af:=g419) rfl (by simp [g419])]
   by_cases e:x.name=y.gq<;>simp [g419,hq.norm,e]
 simp at c
 simp [Ar.cells,Ex.bA,hq.norm,hq.shift,c]
theorem c418 {sh:Sh} (hq:a7 sh) {cs:List gR} (hS:Sm cs) {as:List Ar}:(aP AP).i 418 [.pv (.aD (cs.map gR.pv)),.pv (.aD (as.map Ar.pv)),.fn 419 []] sh []=some ([.pv (.bool (decide (cs.map gR.name=as.map fe.gq)))],sh,[]):=by
 rw [←rz]
 exact Rk Ls NO (z1:=[vI 0,.str [],.aD []]) (z2:=[vI 0,.str [],.aD [],vI 0,vI 0,.str [],vI 0,.aD [],.aD [],vI 0,.str [],vI 0,vI 0,.aD []]) rfl rfl (m:=418) rfl hS hq rfl (NP hq)
theorem NQ {sh:Sh} (hq:a7 sh) {as:List Ar} {b:Nat} (hb:sh[b]?=some (some [.pv (.aD (as.map Ar.pv))])) {ds:List Dt} (hc:∀d∈ds,Sm d.cons):Nv (.fn 417 [.aX b 0]) sh Dt.pv (fun d=>nj d as) ds:=by
 intro d hd
 have k:=c418 hq (hc d hd) (as:=as)
 have c:(aP AP).i 417 [.pv d.pv,.aX b 0] sh []=some ([.pv (.bool (nj d as))],sh,[]):=by
   rw [aK (af:=g417) rfl (by simp [g417])]
   simp [-getElem?_pos,g417,hq.norm,hq.shift,hb,k,nj]
 simp at c
 simp [hq.norm,hq.shift,c]
theorem c407 {ds:List Dt} (hS:Sm ds) (hc:∀d∈ds,Sm d.cons) {as:List Ar}:(aP AP).p 407 [.aD (ds.map Dt.pv),.aD (as.map Ar.pv)]=some (xS (ru ds as)):=by
 have hq:a7 [some [AV.pv (.aD (as.map Ar.pv))]]:=a7.one (by intro v hv;simp at hv;exact ⟨_,hv⟩)
 have k:=QI O4 (k:=416) rfl hS hq (g:=417) (cap:=[.aX 0 0]) rfl (NQ hq (b:=0) rfl hc)
 rw [aq (af:=g407) rfl rfl (by decide)]
 unfold ru
 cases e:cA (fun d=>nj d as) ds with
 | none=>rw [e] at k;simp [jd] at k;simp [g407,k,xS]
 | some i=>rw [e] at k;simp [jd] at k;simp [g407,k,xS]
end Go.Ab.Lw
namespace Go.Ab.Lw
open Ev
abbrev vb:=Int×Int
def fP (f:vb):PV:=.agg [vI f.1,vI f.2]
@[simp] theorem Im (f:vb):fP f=.agg [vI f.1,vI f.2]:=rfl
def findF (ds:List Dt):List Ar→Option vb
 | []=>none
 | a::r=>match iv ds a.gq 0 with
   | none=>some (9,a.pos)
   | some _=>findF ds r
noncomputable def rB:List bS→List bS→Bool
 | _,[]=>false
 | p,x::r=>decide (x∈p) || rB (p++[x]) r
noncomputable def Gf:List gR→List Ar→vb
 | c::cs,a::as=>if a.vars.length≠c.fields.length then (8,a.pos) else if rB [] a.vars=true then (6,a.pos) else Gf cs as
 | _,_=>(0,0)
noncomputable def rC (ds:List Dt) (e:Ex):vb:=match findF ds e.bt with
 | some f=>f
 | none=>match ru ds e.bt with
   | none=>(10,e.pos)
   | some i=>match ds[i]? with
     | some d=>Gf d.cons e.bt
     | none=>(0,0)
abbrev m2 (f:vb):List AV:=[.pv (vI f.1),.pv (vI f.2)]
theorem Ji {ds:List Dt} {as:List Ar} {i:Nat} (h:ru ds as=some i):∃d,ds[i]?=some d∧as.length=d.cons.length:=by
 unfold ru at h
 have key:∀{l:List Dt} {k:Nat},cA (fun d=>nj d as) l=some k→∃d,l[k]?=some d∧nj d as=true:=by
   intro l
   induction l with
   | nil=>intro k h;simp [cA] at h
   | cons x r ih=>
     intro k h
     simp only [cA] at h
     split at h
     · rename_i e;cases h;exact ⟨x,rfl,e⟩
     · cases h':cA (fun d=>nj d as) r with
       | none=>rw [h'] at h;simp at h
       | some k'=>rw [h'] at h;simp at h;subst h;simpa using ih h'
 obtain ⟨d,h1,h2⟩:=key h
 refine ⟨d,h1,?_⟩
 unfold nj at h2
 have:=congrArg List.length (of_decide_eq_true h2)
 simpa using this.symm
theorem rD:∀{cs:List gR} {as:List Ar},(Gf cs as).1=0→Gf cs as=(0,0)
 | [],_,_=>by simp [Gf]
 | _::_,[],_=>by simp [Gf]
 | c::cs,a::as,h=>by
   simp only [Gf] at h ⊢
   split at h
   · simp at h
   · rename_i h1
     rw [if_neg h1]
     split at h
     · simp at h
     · rename_i h2
       rw [if_neg h2]
       exact rD h
end Go.Ab.Lw
namespace Go.Ab.Lw
open Ev
theorem Mg {ds:List Dt} (hS:Sm ds) (hc:∀d∈ds,Sm d.cons) {e:Ex} (hA:e.bt.length≤1000):∀(n i:Nat),e.bt.length-i=n→i≤e.bt.length →
   cl AP g415L0 ⟨[(0,.pv (.aD (ds.map Dt.pv))),(3,.az 3 0),(4,.az 4 0),(17,.pv (.aD (e.bt.map Ar.pv))),(18,.pv (vI e.bt.length)),(19,.pv (vI i))],[(3,e.cl),(4,m2 (0,0))],[],[]⟩ =
     match findF ds (e.bt.drop i) with
     | some f=>some (.ret,⟨[(4,.az 4 0)],[(4,m2 f)],[],[]⟩)
     | none=>some (.exit 0,⟨[(0,.pv (.aD (ds.map Dt.pv))),(3,.az 3 0),(4,.az 4 0),(17,.pv (.aD (e.bt.map Ar.pv))),(18,.pv (vI e.bt.length)),(19,.pv (vI e.bt.length)),(20,.pv (.bool false))],[(3,e.cl),(4,m2 (0,0))],[],[]⟩)
 | 0,i,hn,hi=>by
   have:i=e.bt.length:=by omega
   subst this
   rw [g415L0e]
   simp [g415B0,findF]
 | n+1,i,hn,hi=>by
   have hi:i<e.bt.length:=by omega
   obtain ⟨a,ha⟩:=bp hi
   have ih:=Mg hS hc hA n (i+1) (by omega) (by omega)
   have k:=c190 hS hc (s:=a.gq)
   rw [g415L0e] at ih ⊢
   rw [bL ha]
   simp only [findF]
   simp at ih
   cases q:iv ds a.gq 0 with
   | none=>
     rw [q] at k
     simp [rF] at k
     simp (disch:=omega) [-getElem?_pos,g415B0,hi,ha,k]
   | some r=>
     rw [q] at k
     simp [rF] at k
     simp (disch:=omega) [-getElem?_pos,g415B0,hi,ha,k,au]
     rw [g415L0e]
     simp [ih]
@[simp] def Ar.cl (a:Ar):List AV:=.pv (vI a.pos)::.pv (.str a.gq)::.pv (.aD (a.vars.map .str))::a.body.cl
theorem Mh {ds:List Dt} {i10 i:Nat} {as:List Ar} {a:Ar} (hv:a.vars.length≤1000):∀(n k:Nat),a.vars.length-k=n→k≤a.vars.length →
   cl AP g415L2 ⟨[(0,.pv (.aD (ds.map Dt.pv))),(4,.az 4 0),(10,.pv (vI i10)),(13,.az 13 0),(50,.pv (.aD (as.map Ar.pv))),(51,.pv (vI as.length)),(52,.pv (vI i)),(75,.pv (.aD (a.vars.map .str))),(76,.pv (vI a.vars.length)),(77,.pv (vI k))],[(4,m2 (0,0)),(13,Ar.cl a)],[],[]⟩ =
     if rB (a.vars.take k) (a.vars.drop k)=true then some (.ret,⟨[(4,.az 4 0)],[(4,m2 (6,a.pos))],[],[]⟩)
     else some (.exit 4,⟨[(0,.pv (.aD (ds.map Dt.pv))),(4,.az 4 0),(10,.pv (vI i10)),(13,.az 13 0),(50,.pv (.aD (as.map Ar.pv))),(51,.pv (vI as.length)),(52,.pv (vI i)),(75,.pv (.aD (a.vars.map .str))),(76,.pv (vI a.vars.length)),(77,.pv (vI a.vars.length)),(78,.pv (.bool false))],[(4,m2 (0,0)),(13,Ar.cl a)],[],[]⟩)
 | 0,k,hn,hk=>by
   have:k=a.vars.length:=by omega
   subst this
   rw [g415L2e]
   simp [g415B2,rB]
 | n+1,k,hn,hk=>by
   have hk:k<a.vars.length:=by omega
   obtain ⟨x,hx⟩:=bp hk
   have ih:=Mh (ds:=ds) (i10:=i10) (i:=i) (as:=as) hv n (k+1) (by omega) (by omega)
   have k1:=c214 (s:=a.vars.take k) (by unfold Sm;simp;omega) (y:=x)
   have hsl:=Pp (sz:=1) (l:=a.vars.map PV.str) (k:=.i64) (h:=k) (by omega) (by simp;omega)
   simp at hsl
   rw [List.map_take] at k1
   rw [List.take_add_one,hx] at ih
   simp only [Option.toList_some] at ih
   rw [g415L2e] at ih ⊢
   rw [bL hx]
   simp at ih
   by_cases q:x∈a.vars.take k
   · have hq:rB (a.vars.take k) (x::a.vars.drop (k+1))=true:=by simp [rB,q]
     rw [hq]
     rw [decide_eq_true q] at k1
     simp (disch:=omega) [-getElem?_pos,g415B2,hk,hx,hsl,k1]
   · have hq:rB (a.vars.take k) (x::a.vars.drop (k+1))=rB (a.vars.take k++[x]) (a.vars.drop (k+1)):=by simp [rB,q]
     rw [hq]
     rw [decide_eq_false q] at k1
     simp (disch:=omega) [-getElem?_pos,g415B2,hk,hx,hsl,k1,au]
     rw [g415L2e]
     simp [ih]
     by_cases q3:rB (a.vars.take k++[x]) (a.vars.drop (k+1))=true<;>simp [q3]
theorem Mi {ds:List Dt} {i10:Nat} {d:Dt} (hd:ds[i10]?=some d) {as:List Ar} (hA:as.length≤1000) (hv:∀a∈as,a.vars.length≤1000) (hl:as.length=d.cons.length):∀(n i:Nat),as.length-i=n→i≤as.length →
   cl AP g415L1 ⟨[(0,.pv (.aD (ds.map Dt.pv))),(4,.az 4 0),(10,.pv (vI i10)),(50,.pv (.aD (as.map Ar.pv))),(51,.pv (vI as.length)),(52,.pv (vI i))],[(4,m2 (0,0))],[],[]⟩ =
     if (Gf (d.cons.drop i) (as.drop i)).1≠0 then some (.ret,⟨[(4,.az 4 0)],[(4,m2 (Gf (d.cons.drop i) (as.drop i)))],[],[]⟩)
     else some (.exit 2,⟨[(0,.pv (.aD (ds.map Dt.pv))),(4,.az 4 0),(10,.pv (vI i10)),(50,.pv (.aD (as.map Ar.pv))),(51,.pv (vI as.length)),(52,.pv (vI as.length)),(53,.pv (.bool false))],[(4,m2 (0,0))],[],[]⟩)
 | 0,i,hn,hi=>by
   have:i=as.length:=by omega
   subst this
   rw [g415L1e,xE (l:=d.cons) (by omega),xE (l:=as) (by omega)]
   simp [g415B1,Gf]
 | n+1,i,hn,hi=>by
   have hi:i<as.length:=by omega
   have hi2:i<d.cons.length:=by omega
   have hil:=(List.getElem?_eq_some_iff.1 hd).1
   obtain ⟨a,ha⟩:=bp hi
   obtain ⟨c,hc⟩:=bp hi2
   have ih:=Mi hd hA hv hl n (i+1) (by omega) (by omega)
   have h:=Mh (ds:=ds) (i10:=i10) (i:=i) (as:=as) (hv a (bm ha)) _ 0 rfl (by omega)
   rw [List.take_zero,List.drop_zero] at h
   rw [g415L2e] at h
   rw [g415L1e] at ih ⊢
   rw [bL ha,bL hc]
   simp only [Gf]
   simp at ih h
   by_cases q:a.vars.length=c.fields.length
   · by_cases q2:rB [] a.vars=true
     · simp [q2,q] at h
       simp (disch:=omega) [-getElem?_pos,g415B1,hi,hi2,hil,ha,hc,hd,q,q2,g415L2e,h]
     · simp [q2,q] at h
       simp (disch:=omega) [-getElem?_pos,g415B1,hi,hi2,hil,ha,hc,hd,q,q2,g415L2e,h,au]
       rw [g415L1e]
       simp [ih]
   · have q':¬(a.vars.length:Int)=c.fields.length:=by omega
     simp (disch:=omega) [-getElem?_pos,g415B1,hi,hi2,hil,ha,hc,hd,q,q']
theorem c415 {ds:List Dt} (hS:Sm ds) (hc:∀d∈ds,Sm d.cons) {e:Ex} (hO:e.Ok):(aP AP).p 415 [.aD (ds.map Dt.pv),e.pv]=some [fP (rC ds e)]:=by
 have hA:=hO.a
 have h:=Mg hS hc hA _ 0 rfl (by omega)
 rw [aq (af:=g415) rfl rfl (by decide)]
 unfold rC
 rw [List.drop_zero] at h
 cases q:findF ds e.bt with
 | some f=>
   rw [q] at h
   simp at h
   simp [g415,h]
 | none=>
   rw [q] at h
   simp at h
   have k:=c407 hS hc (as:=e.bt)
   cases q2:ru ds e.bt with
   | none=>
     rw [q2] at k
     simp [xS] at k
     simp [g415,h,k]
   | some i=>
     rw [q2] at k
     simp [xS] at k
     obtain ⟨d,hd,hl⟩:=Ji q2
     have h2:=Mi hd hA hO.v hl _ 0 rfl (by omega)
     rw [List.drop_zero,List.drop_zero] at h2
     simp only [hd]
     by_cases q3:(Gf d.cons e.bt).1=0
     · have:=rD q3
       rw [this] at h2 ⊢
       simp at h2
       simp [g415,h,k,h2]
     · simp [q3] at h2
       simp [g415,h,k,h2]
theorem c409 {a b:List bS} (h:a.length+b.length≤1000000000000):(aP AP).p 409 [.aD (a.map .str),.aD (b.map .str)]=some [.aD ((a++b).map .str)]:=by
 rw [aq (af:=g409) rfl rfl (by decide)]
 have h1:a.length*16≤140737488355328:=by omega
 have h2:(a.length+b.length)*16≤140737488355328:=by omega
 have h3:b.length*16≤140737488355328:=by omega
 by_cases ha:a=[]
 · subst ha
   by_cases hb:b=[]
   · subst hb;simp [g409]
   · simp [g409,hb,h3]
 · by_cases hb:b=[]
   · subst hb;simp [g409,ha,h1]
   · simp [g409,ha,hb,h1,h2]
end Go.Ab.Lw
namespace Go.Ab.Lw
open Ev
inductive Ex.Mj (P:Ex→Prop):Ex→Prop
 | mk {e:Ex}:P e→(∀x∈e.ch,Ex.Mj P x)→Ex.Mj P e
theorem Ex.Mj.h {P:Ex→Prop} {e:Ex} (h:e.Mj P):P e:=by cases h;assumption
theorem Ex.Mj.c {P:Ex→Prop} {e:Ex} (h:e.Mj P):∀x∈e.ch,x.Mj P:=by cases h;assumption
inductive Ex.vd:Nat→Ex→Prop
 | mk {n:Nat} {e:Ex}:(∀x∈e.ch,Ex.vd n x)→Ex.vd (n+1) e
theorem Ex.vd.c {n:Nat} {e:Ex} (h:Ex.vd (n+1) e):∀x∈e.ch,Ex.vd n x:=by cases h;assumption
noncomputable def gI (ds:List Dt) (names:List bS) (e:Ex):vb:=
 if e.kind=1 then (if e.name∈names then (0,0) else (9,e.pos))
 else if e.kind=2 then (if (iv ds e.name 0).isSome then (0,0) else (9,e.pos))
 else if e.kind=8 then rC ds e
 else if e.kind=9 then (if e.ty.formed ds []=0 then (0,0) else (e.ty.formed ds [],e.pos))
 else (0,0)
def sf (f:Nat→Ex→vb):Nat→List Ex→vb
 | _,[]=>(0,0)
 | i,x::r=>if (f i x).1≠0 then f i x else sf f (i+1) r
theorem tc {f g:Nat→Ex→vb}:∀{l:List Ex} {i:Nat},(∀i,∀x∈l,f i x=g i x)→sf f i l=sf g i l
 | [],_,_=>rfl
 | x::r,i,h=>by
   simp only [sf]
   rw [h i x (by simp),tc (l:=r) fun i y hy=>h i y (by simp [hy])]
theorem Ex.Lt {e x:Ex} (h:x∈e.ch):SizeOf.sizeOf x<SizeOf.sizeOf e:=by
 rw [Ex.ch,List.mem_append,List.mem_map] at h
 cases e
 rcases h with h | ⟨a,ha,rfl⟩
 · have:=_root_.List.sizeOf_lt_of_mem h;simp at *;omega
 · have:=_root_.List.sizeOf_lt_of_mem ha;have:=fe.s_ a;simp at *;omega
open Classical in
noncomputable def Ex.bI (ds:List Dt) (e:Ex) (names:List bS):vb:=
 if (gI ds names e).1≠0 then gI ds names e
 else sf (fun i x=>if _h:x∈e.ch then Ex.bI ds x (names++gA e i) else (0,0)) 0 e.ch
termination_by e
decreasing_by exact Ex.Lt _h
theorem Ex.BC (ds:List Dt) (e:Ex) (names:List bS):e.bI ds names=if (gI ds names e).1≠0 then gI ds names e else sf (fun i x=>x.bI ds (names++gA e i)) 0 e.ch:=by
 rw [Ex.bI]
 split
 · rfl
 · exact tc fun i x hx=>by rw [dif_pos hx]
theorem BD {ds:List Dt} {e:Ex} (h:(rC ds e).1=0):rC ds e=(0,0):=by
 unfold rC at h ⊢
 have hf:∀{as:List Ar} {f:vb},findF ds as=some f→f.1=9:=by
   intro as
   induction as with
   | nil=>intro f h;simp [findF] at h
   | cons a r ih=>
     intro f h
     simp only [findF] at h
     split at h
     · cases h;rfl
     · exact ih h
 cases q:findF ds e.bt with
 | some f=>rw [q] at h;simp only at h;rw [hf q] at h;cases h
 | none=>
   rw [q] at h
   simp only at h ⊢
   cases q2:ru ds e.bt with
   | none=>rw [q2] at h;simp at h
   | some i=>
     rw [q2] at h
     simp only at h ⊢
     cases q3:ds[i]? with
     | none=>rfl
     | some d=>rw [q3] at h;exact rD h
theorem xT {f:Nat→Ex→vb} (hf:∀i x,(f i x).1=0→f i x=(0,0)):∀{l:List Ex} {i:Nat},(sf f i l).1=0→sf f i l=(0,0)
 | [],_,_=>rfl
 | x::r,i,h=>by
   simp only [sf] at h ⊢
   split
   · rename_i h1;rw [if_pos h1] at h;exact absurd h h1
   · rename_i h1;rw [if_neg h1] at h;exact xT hf h
theorem rE {ds:List Dt}:∀{e:Ex} {names:List bS},(e.bI ds names).1=0→e.bI ds names=(0,0):=by
 intro e
 refine Ex.recC (p:=fun e=>∀{names:List bS},(e.bI ds names).1=0→e.bI ds names=(0,0)) ?_ e
 intro e ih names h
 rw [Ex.BC] at h ⊢
 split
 · rename_i h1;rw [if_pos h1] at h;exact absurd h h1
 · rename_i h1
   rw [if_neg h1] at h
   have key:∀{l:List Ex} {i:Nat},(∀x∈l,x∈e.ch)→(sf (fun i x=>x.bI ds (names++gA e i)) i l).1=0→sf (fun i x=>x.bI ds (names++gA e i)) i l=(0,0):=by
     intro l
     induction l with
     | nil=>intro i _ _;rfl
     | cons x r ihr=>
       intro i hl h
       simp only [sf] at h ⊢
       split
       · rename_i h1;rw [if_pos h1] at h;exact absurd h h1
       · rename_i h1;rw [if_neg h1] at h;exact ihr (fun y hy=>hl y (by simp [hy])) h
   exact key (fun x hx=>hx) h
structure xU (e:Ex):Prop where
 ok:e.Ok
 one:e.One
 cw:e.Mj fun x=>x.ty.Cw
theorem xU.c {e x:Ex} (h:xU e) (hx:x∈e.ch):xU x:=⟨h.ok.c x hx,h.one.c x hx,h.cw.c x hx⟩
theorem PD {ds:List Dt} {names:List bS} {e:Ex} (he:xU e) (hn:names.length≤900000000)
   (ih:∀i,∀x∈e.ch,(aP AP).p 405 [.aD (ds.map Dt.pv),.aD ((names++gA e i).map .str),x.pv]=some [fP (x.bI ds (names++gA e i))]):∀(n i:Nat),e.ch.length-i=n→i≤e.ch.length →
   cl AP g405L0 ⟨[(0,.pv (.aD (ds.map Dt.pv))),(1,.pv (.aD (names.map .str))),(5,.az 5 0),(6,.az 6 0),(64,.pv (.aD (e.ch.map Ex.pv))),(65,.pv (vI e.ch.length)),(66,.pv (vI i))],[(5,e.cl),(6,m2 (0,0))],[],[]⟩ =
     if (sf (fun i x=>x.bI ds (names++gA e i)) i (e.ch.drop i)).1≠0 then some (.ret,⟨[(6,.az 6 0)],[(6,m2 (sf (fun i x=>x.bI ds (names++gA e i)) i (e.ch.drop i)))],[],[]⟩)
     else some (.exit 1,⟨[(0,.pv (.aD (ds.map Dt.pv))),(1,.pv (.aD (names.map .str))),(5,.az 5 0),(6,.az 6 0),(64,.pv (.aD (e.ch.map Ex.pv))),(65,.pv (vI e.ch.length)),(66,.pv (vI e.ch.length)),(67,.pv (.bool false))],[(5,e.cl),(6,m2 (0,0))],[],[]⟩)
 | 0,i,hk,hi=>by
   have:i=e.ch.length:=by omega
   subst this
   rw [List.drop_length]
   generalize e.ch=C
   rw [g405L0e]
   simp [g405B0,sf]
 | n+1,i,hk,hi=>by
   have hi:i<e.ch.length:=by omega
   obtain ⟨x,hx⟩:=bp hi
   have hlen:=Ex.kO (e:=e)
   have hk1:=he.ok.k
   have hk2:=he.ok.a
   have hr:=PD he hn ih n (i+1) (by omega) (by omega)
   have k1:=c411 hi he.one.h he.ok
   have hbl:=ni he.ok (i:=i)
   have k2:=c409 (a:=names) (b:=gA e i) (by omega)
   have k3:=ih i x (bm hx)
   rw [bL hx]
   simp only [sf]
   generalize hN:names++gA e i=N at *
   generalize hF:x.bI ds N=F at *
   generalize hG:sf (fun i x=>x.bI ds (names++gA e i)) (i+1) (e.ch.drop (i+1))=G at *
   clear ih
   generalize gA e i=B at *
   generalize e.ch=C at *
   rw [g405L0e] at hr ⊢
   simp at k1 k2 k3 hr
   by_cases q:F.1=0
   · simp (disch:=omega) [-getElem?_pos,g405B0,hi,hx,k1,k2,k3,q,au]
     rw [g405L0e]
     simp [hr]
   · simp (disch:=omega) [-getElem?_pos,g405B0,hi,hx,k1,k2,k3,q]
theorem c405 {ds:List Dt} (hS:Sm ds) (hc:∀d∈ds,Sm d.cons):∀(n:Nat) {e:Ex},xU e→e.vd n→∀names:List bS,names.length+1000*n≤900000000→(aP AP).p 405 [.aD (ds.map Dt.pv),.aD (names.map .str),e.pv]=some [fP (e.bI ds names)]
 | 0,e,_,hh,_,_=>by cases hh
 | n+1,e,he,hh,names,hl=>by
   have ih:∀i,∀x∈e.ch,(aP AP).p 405 [.aD (ds.map Dt.pv),.aD ((names++gA e i).map .str),x.pv]=some [fP (x.bI ds (names++gA e i))]:=fun i x hx=>
     c405 hS hc n (he.c hx) (hh.c x hx) _ (by have:=ni he.ok (i:=i);simp;omega)
   have h:=PD he (by omega) ih _ 0 rfl (by omega)
   have k1:=c414 he.ok
   rw [List.drop_zero] at h
   rw [Ex.BC]
   have hz:=xT (f:=fun i x=>x.bI ds (names++gA e i)) (fun i x h=>rE h) (l:=e.ch) (i:=0)
   clear ih
   have k2:=c214 (s:=names) (by unfold Sm;omega) (y:=e.name)
   have k3:=c190 hS hc (s:=e.name)
   have k4:=c415 hS hc he.ok
   have k5:=c185 hS (l:=[]) (by simp [Sm]) he.ok.t
   generalize sf (fun i x=>x.bI ds (names++gA e i)) 0 e.ch=G at *
   generalize e.ch=C at *
   rw [aq (af:=g405) rfl rfl (by decide)]
   simp at k1 k2 k3 k4 k5
   have hG:(G=(0,0)∧G.1=0)∨(¬G.1=0):=by
     by_cases q:G.1=0
     · exact .inl ⟨hz q,q⟩
     · exact .inr q
   clear hz
   generalize hQ:rC ds e=Q at *
   generalize hT:e.ty.formed ds []=T at *
   by_cases q1:e.kind=1
   · simp only [q1] at k1
     by_cases q2:e.name∈names
     · rcases hG with ⟨rfl,hG⟩ | hG<;>simp [hG,q1] at h<;>simp [q2] at k2<;>simp [g405,gI,q1,q2,k1,k2,h,hG]
     · simp [q2] at k2
       simp [g405,gI,q1,q2,k2]
   · by_cases q3:e.kind=2
     · simp only [q3] at k1
       cases q4:iv ds e.name 0 with
       | none=>
         rw [q4] at k3
         simp [rF] at k3
         simp [g405,gI,q3,q4,k3]
       | some r=>
         rw [q4] at k3
         simp [rF] at k3
         rcases hG with ⟨rfl,hG⟩ | hG<;>simp [hG,q3] at h<;>simp [g405,gI,q3,q4,k1,k3,h,hG]
     · by_cases q5:e.kind=8
       · simp only [q5] at k1
         by_cases q6:Q.1=0
         · have:Q=(0,0):=by rw [←hQ] at q6 ⊢;exact BD q6
           subst this
           rcases hG with ⟨rfl,hG⟩ | hG<;>simp [hG,q5] at h<;>simp [q5] at k4<;>simp [g405,gI,q5,hQ,k1,k4,h,hG]
         · simp [q5] at k4
           simp [g405,gI,q5,hQ,k4,q6]
       · by_cases q7:e.kind=9
         · simp only [q7] at k1
           by_cases q8:T=0
           · subst q8
             rcases hG with ⟨rfl,hG⟩ | hG<;>simp [hG,q7] at h<;>simp [g405,gI,q7,hT,k1,k5,h,hG]
           · simp [g405,gI,q7,hT,k5,q8]
         · rcases hG with ⟨rfl,hG⟩ | hG<;>simp [hG] at h<;>simp [g405,gI,q1,q3,q5,q7,k1,h,hG]
end Go.Ab.Lw
namespace Go.Ab.Lw
open Ev
inductive Lk:Ex→Ex→Prop
 | mk {e f:Ex}:f.kind=e.kind→f.name=e.name→f.num=e.num→f.ty=e.ty→f.kids.length=e.kids.length→f.bt.map (fun a=>(a.gq,a.vars))=e.bt.map (fun a=>(a.gq,a.vars)) →
     (∀(i:Nat) (x y:Ex),e.ch[i]?=some x→f.ch[i]?=some y→Lk x y)→Lk e f
def nk (b:Nat):List AV:=[.pv (vI 0),.pv (vI 0),.pv (.str []),.pv (vI 0),.own [] b,.own [] (b+1),.pv (vI 0),.pv (.str []),.pv (vI 0),.pv (vI 0),.own [] (b+2)]
theorem po:∀{as:List Ar} {xs:List Ex},xs.length=as.length→(kg as xs).map fe.body=xs
 | [],[],_=>rfl
 | [],_::_,h=>by simp at h
 | _::_,[],h=>by simp at h
 | a::as,x::xs,h=>by simp only [kg,List.map_cons,po (as:=as) (xs:=xs) (by simpa using h)]
theorem Cp:∀{as:List Ar} {xs:List Ex},(kg as xs).map (fun a=>(a.gq,a.vars))=as.map (fun a=>(a.gq,a.vars))
 | [],xs=>by cases xs<;>rfl
 | a::as,[]=>rfl
 | a::as,x::xs=>by simp only [kg,List.map_cons,Cp (as:=as) (xs:=xs)]
theorem Jj {e:Ex} {c:List Ex} (h:c.length=e.kids.length+e.bt.length):(e.xQ c).ch=c:=by
 unfold Ex.xQ
 rw [if_pos h]
 simp only [Ex.ch]
 rw [po (by simp;omega),List.take_append_drop]
theorem td {sz n:Nat} {ag:Bool}:Kx sz n ag none=none:=rfl
theorem xW {cs:List AV}:uc cs none=.agg cs:=rfl
theorem Cq {o:Option (List PV)}:m7 none o=none:=rfl
theorem Cr {p:PV}:m7 (some p) none=none:=rfl
theorem c145j {e:Ex} {X:Sh}:(aP AP).i 145 [.pv e.pv] X []=(aP AP).i 145 [.agg (e.JW (.pv (.aD (e.bt.map Ar.pv))))] X []:=by
 rw [aK (af:=g145) rfl (by simp [g145]),aK (af:=g145) rfl (by simp [g145])]
 simp [g145]
end Go.Ab.Lw
namespace Go.Ab.Lw
open Ev
theorem c372 {s:dK} {S:List Int} (hs:s.sl.length≤1000000) (ha:Ge s.sl) (hO:∀x∈s.sl,x.ty.Ok) (hS:∀x∈s.sl,∀w,gS x.ty w→w∈S) (hf:S.length<1099511627776) {t:Ty} (ht:t.Ok) (hw:∀w,gS t w→w∈S) :
   ∃out,(aP AP).p 372 [s.pv,.aD [t.pv]]=some [.aD (out.map vI)]∧iu S out∧∀v,RT s.sl t v→¬og s.sl v→v∈out:=by
 obtain ⟨rk,hr⟩:=ha
 obtain ⟨N,hN⟩:=gS.bound rk t
 obtain ⟨dn',out,P⟩:=Iz hr hO hS N t ht hN hw (List.replicate s.sl.length false) [] (by simp) (nd hf) (by
   intro j hj
   exfalso
   by_cases q:j<s.sl.length
   · simp [List.getElem?_replicate,q] at hj
   · simp [List.getElem?_replicate,q] at hj)
 refine ⟨out,?_,P.FM,P.all⟩
 have e:=P.sd
 have hb:bT (List.replicate s.sl.length false)=List.replicate s.sl.length (.pv (.bool false)):=by simp [bT]
 have hp:=kN (dn:=List.replicate s.sl.length false)
 have hp':=kN (dn:=dn')
 unfold NI at e
 rw [hb] at e hp
 have b1:(s.sl.length:Int)≤9223372036854775807:=by omega
 have b2:(s.sl.length:Int)≤140737488355328:=by omega
 have hn:=hp.norm
 have hn':=hp'.norm
 have hh:=hp.sh
 have hh':=hp'.sh
 have hm:=hp.mp
 generalize bT dn'=T' at *
 have hfl:(List.replicate s.sl.length [AV.pv (.bool false)]).flatten=List.replicate s.sl.length (.pv (.bool false)):=by
   generalize s.sl.length=n
   induction n with
   | zero=>rfl
   | succ n ih=>rw [List.replicate_succ,List.flatten_cons,ih,List.replicate_succ];rfl
 generalize List.replicate s.sl.length (AV.pv (.bool false))=T at *
 simp [fX] at e
 rw [aq (af:=g372) rfl rfl (by decide)]
 simp (disch:=omega) [g372,b1,b2,hn,hn',hh,hh',hm,hfl,g372L0e,g372B0,e,au,td,Cq,Cr,qM]
end Go.Ab.Lw
namespace Go.Ab.Lw
open Ev
def JY (l:List Ty) (t:Ty):Option Ty:=if t.kind=2∧0≤t.id∧t.id<l.length then l[t.id.toNat]? else none
theorem np {l:List Ty} {t u:Ty} (h:JY l t=some u):t.kind=2∧0≤t.id∧t.id<l.length∧l[t.id.toNat]?=some u:=by
 unfold JY at h
 split at h
 · rename_i c;exact ⟨c.1,c.2.1,c.2.2,h⟩
 · cases h
theorem xX {l:List Ty} {t:Ty} (h:JY l t=none):¬(t.kind=2∧0≤t.id∧t.id<l.length):=by
 intro c
 unfold JY at h
 rw [if_pos c] at h
 rw [List.getElem?_eq_none_iff] at h
 omega
mutual
def Ty.ml (l:List Ty):Ty→Ty
 | ⟨k,n,i,h,as⟩=>(JY l ⟨k,n,i,h,as⟩).getD ⟨k,n,i,h,Ty.Jk l as⟩
def Ty.Jk (l:List Ty):List Ty→List Ty
 | []=>[]
 | a::r=>a.ml l::Ty.Jk l r
end
theorem Ty.xY (l:List Ty):∀as:List Ty,Ty.Jk l as=as.map (Ty.ml l)
 | []=>by simp [Ty.Jk]
 | a::r=>by simp [Ty.Jk,Ty.xY l r]
theorem Ty.mm (l:List Ty) (t:Ty):t.ml l=(JY l t).getD ⟨t.kind,t.name,t.id,t.home,t.args.map (Ty.ml l)⟩:=by
 cases t;simp only [Ty.ml,Ty.xY]
theorem Q_ {s:List Ty} {t:Ty} (hS:Sm t.args) (h:∀x∈t.args,(aP AP).p 48 [x.pv,.aD (s.map Ty.pv)]=some [(x.ml s).pv]):∀(n i:Nat),t.args.length-i=n→i≤t.args.length→∀acc:List Ty,acc=(t.args.take i).map (Ty.ml s) →
   cl AP g48L0 ⟨[(1,.pv (.aD (s.map Ty.pv))),(2,.az 2 0),(4,.az 4 0),(5,.az 5 0),(6,.pv (vI i))],
     [(2,[.pv (vI t.kind),.pv (.str t.name),.pv (vI t.id),.pv (vI t.home),.pv (.aD (t.args.map Ty.pv))]),(4,[.pv (vI 0),.pv (.str []),.pv (vI 0),.pv (vI 0),.own [] 0]),
       (5,[.pv (vI t.kind),.pv (.str t.name),.pv (vI t.id),.pv (vI t.home),.own (acc.map Ty.pv) 1])],[],[0,acc.length]⟩ =
     some (.exit 0,⟨[(1,.pv (.aD (s.map Ty.pv))),(2,.az 2 0),(4,.az 4 0),(5,.az 5 0),(6,.pv (vI t.args.length)),(33,.pv (.bool false))],
     [(2,[.pv (vI t.kind),.pv (.str t.name),.pv (vI t.id),.pv (vI t.home),.pv (.aD (t.args.map Ty.pv))]),(4,[.pv (vI 0),.pv (.str []),.pv (vI 0),.pv (vI 0),.own [] 0]),
       (5,[.pv (vI t.kind),.pv (.str t.name),.pv (vI t.id),.pv (vI t.home),.own ((t.args.map (Ty.ml s)).map Ty.pv) 1])],[],[0,t.args.length]⟩)
 | 0,i,hn,hi,acc,ha=>by
   have:i=t.args.length:=by omega
   subst this
   subst ha
   rw [g48L0e]
   simp [g48B0]
 | n+1,i,hn,hi,acc,ha=>by
   have hi:i<t.args.length:=by omega
   obtain ⟨x,hx⟩:=bp hi
   unfold Sm at hS
   have hb:(acc.length+1)*64≤140737488355328:=by subst ha;simp;omega
   have hc:=h x (bm hx)
   have ih:=Q_ hS h n (i+1) (by omega) (by omega) (acc++[x.ml s]) (by rw [List.take_add_one,hx,ha];simp)
   rw [g48L0e] at ih ⊢
   simp at ih hc
   simp (disch:=omega) [-getElem?_pos,g48B0,hx,hi,hc,hb,au]
   rw [g48L0e]
   simp [ih]
theorem c48 {s:List Ty} (hs:Sm s) {t:Ty} (hO:t.Ok):(aP AP).p 48 [t.pv,.aD (s.map Ty.pv)]=some [(t.ml s).pv]:=by
 revert hO
 refine Ty.eE (p:=fun t=>t.Ok→(aP AP).p 48 [t.pv,.aD (s.map Ty.pv)]=some [(t.ml s).pv]) ?_ t
 intro t ih hO
 rw [aq (af:=g48) rfl rfl (by decide)]
 unfold Sm at hs
 have h:=Q_ (s:=s) hO.sm (fun x hx=>ih x hx (hO.fM x hx)) _ 0 rfl (by omega) [] (by simp)
 rw [g48L0e] at h
 simp at h
 cases hp:JY s t with
 | some u=>
   obtain ⟨a,b,c,d⟩:=np hp
   have b1:¬t.id<0:=by omega
   simp (disch:=omega) [-getElem?_pos,g48,a,b,b1,c,d,Ty.mm s t,hp]
 | none=>
   have q:=xX hp
   by_cases a:t.kind=2
   · by_cases b:0≤t.id
     · have c:¬t.id<s.length:=fun c=>q ⟨a,b,c⟩
       simp [a] at h
       simp (disch:=omega) [-getElem?_pos,g48,a,b,c,g48L0e,h,Ty.mm s t,hp]
     · simp [a] at h
       simp (disch:=omega) [-getElem?_pos,g48,a,b,g48L0e,h,Ty.mm s t,hp]
   · simp (disch:=omega) [-getElem?_pos,g48,a,g48L0e,h,Ty.mm s t,hp]
inductive Ty.Wb:Ty→Prop
 | mk {t:Ty}:(t.kind=2→t.args=[])→(∀x∈t.args,Ty.Wb x)→Ty.Wb t
theorem Jl {s:List Ty} (hs:∀a∈s,a.Ok) {t:Ty} (h:t.Ok):(t.ml s).Ok:=by
 revert h
 refine Ty.eE (p:=fun t=>t.Ok→(t.ml s).Ok) ?_ t
 intro t ih h
 rw [Ty.mm]
 cases hp:JY s t with
 | some u=>exact hs u (bm (np hp).2.2.2)
 | none=>
   refine ⟨?_,?_⟩
   · have:=h.sm;unfold Sm at this ⊢;simpa using this
   · intro x hx;simp at hx
     obtain ⟨y,hy,rfl⟩:=hx
     exact ih y hy (h.fM y hy)
end Go.Ab.Lw
namespace Go.Ab.Lw
open Ev
structure Good (S:List Ty) (t:Ty):Prop where
 ok:t.Ok
 wf:t.Wf
 sub:∀x∈t.eJ 1,x∈S
theorem oj {t:Ty} (hW:t.Wf):∀x∈t.nodes,x.kind=1→x∈t.eJ 1:=by
 revert hW
 refine Ty.eE (p:=fun t=>t.Wf→∀x∈t.nodes,x.kind=1→x∈t.eJ 1) ?_ t
 intro t ih hW x hx hk
 rw [Ty.bl] at hx
 rw [Ty.kK]
 simp only [List.mem_cons,List.mem_flatMap] at hx
 rcases hx with rfl | ⟨y,hy,hx⟩
 · have ea:=hW.var hk
   simp [hk,ea]
 · have:¬(t.kind=1∧t.args.length=0):=by
     rintro ⟨_,h⟩
     have:t.args=[]:=by simpa using h
     rw [this] at hy;simp at hy
   rw [if_neg this]
   simp only [List.mem_flatMap]
   exact ⟨y,hy,ih y hy (hW.fM y hy) x hx hk⟩
theorem g55 {S:List Ty} (hf:S.length<1099511627776) {l:List Ty} (hS:Sm l) (hG:∀t∈l,Good S t):(aP AP).p 55 [.aD (l.map Ty.pv)]=some [.aD ((vars l).map vI)]:=by
 refine c55 (S:=S.map Ty.id) (by simpa using hf) hS (fun t ht=>(hG t ht).ok) ?_
 intro x hx hk
 simp only [List.mem_flatMap] at hx
 obtain ⟨t,ht,hx⟩:=hx
 exact List.mem_map_of_mem ((hG t ht).sub x (oj (hG t ht).wf x hx hk))
theorem g56 {S:List Ty} (hf:S.length<1099511627776) (hO:∀x∈S,x.Ok) {l:List Ty} (hS:Sm l) (hG:∀t∈l,Good S t):(aP AP).p 56 [.aD (l.map Ty.pv)]=some [.aD ((vars l).map vI)]:=by
 rw [←re (fun t ht=>(hG t ht).wf)]
 refine c56 hf hO hS (fun t ht=>(hG t ht).ok) ?_
 intro x hx
 simp only [List.mem_flatMap] at hx
 obtain ⟨t,ht,hx⟩:=hx
 exact (hG t ht).sub x hx
theorem NR {l:List En} (hS:Sm l):∀(n i:Nat),l.length-i=n→i≤l.length→∀acc:List En,acc.length≤i →
   cl AP g201L0 ⟨[(0,.pv (.aD (l.map En.pv))),(3,.own (acc.map En.pv) 0),(4,.pv (vI i))],[],[],[acc.length]⟩ =
     some (.exit 0,⟨[(0,.pv (.aD (l.map En.pv))),(3,.own ((acc++dr (l.drop i)).map En.pv) 0),(4,.pv (vI l.length)),(10,.pv (.bool false))],[],[],[(acc++dr (l.drop i)).length]⟩)
 | 0,i,hn,hi,acc,ha=>by
   have:i=l.length:=by omega
   subst this
   rw [g201L0e]
   simp [g201B0,dr]
 | n+1,i,hn,hi,acc,ha=>by
   have hi:i<l.length:=by omega
   obtain ⟨x,hx⟩:=bp hi
   have k:=c181 (l:=l.drop (i+1)) (s:=x.name) (by unfold Sm at hS ⊢;simp;omega)
   unfold Sm at hS
   have hb:(acc.length+1)*88≤140737488355328:=by omega
   have hsl:=QL (sz:=7) (l:=l.map En.pv) (k:=.i64) (h:=(i:Int)+1) (by omega) (by simp;omega) (by simp)
   have hd:((i:Int)+1).toNat=i+1:=by omega
   rw [hd] at hsl
   rw [bL hx]
   simp only [Lj] at k
   cases e:Cf (l.drop (i+1)) x.name with
   | some c=>
     have ea:(l.drop (i+1)).any (fun y=>decide (y.name=x.name))=true:=any_none.2 ⟨c,e⟩
     have es:dr (x::l.drop (i+1))=dr (l.drop (i+1)):=by simp only [dr,ea,if_true]
     have ih:=NR hS n (i+1) (by omega) (by omega) acc (by omega)
     rw [g201L0e] at ih ⊢
     rw [e] at k
     simp at ih k
     simp (disch:=omega) [-getElem?_pos,g201B0,hx,hi,au,hsl,k,es]
     rw [g201L0e]
     simp [ih]
   | none=>
     have ea:(l.drop (i+1)).any (fun y=>decide (y.name=x.name))=false:=by
       cases h:(l.drop (i+1)).any (fun y=>decide (y.name=x.name)) with
       | false=>rfl
       | true=>obtain ⟨c,hc⟩:=any_none.1 h;rw [e] at hc;cases hc
     have es:dr (x::l.drop (i+1))=x::dr (l.drop (i+1)):=by simp only [dr,ea];simp
     have ih:=NR hS n (i+1) (by omega) (by omega) (acc++[x]) (by simp;omega)
     rw [g201L0e] at ih ⊢
     rw [e] at k
     simp at ih k
     simp (disch:=omega) [-getElem?_pos,g201B0,hx,hi,au,hsl,k,es,hb]
     rw [g201L0e]
     simp [ih]
theorem c201 {l:List En} (hS:Sm l):(aP AP).p 201 [.aD (l.map En.pv)]=some [.aD ((dr l).map En.pv)]:=by
 have h:=NR hS _ 0 rfl (by omega) [] (by simp)
 rw [aq (af:=g201) rfl rfl (by decide)]
 rw [g201L0e] at h
 simp at h
 simp [g201,g201L0e,h]
end Go.Ab.Lw
namespace Go.Ab.Lw
inductive Ty.Kn (K:Int→Prop):Ty→Prop
 | mk {t:Ty}:(t.kind≠4→K t.kind∧t.args=[])→(∀x∈t.args,x.Kn K)→t.Kn K
theorem Ty.Kn.hd {K:Int→Prop} {t:Ty} (h:t.Kn K):t.kind≠4→K t.kind∧t.args=[]:=by cases h;assumption
theorem Ty.Kn.kd {K:Int→Prop} {t:Ty} (h:t.Kn K):∀x∈t.args,x.Kn K:=by cases h;assumption
theorem Ty.Kn.imp {K K':Int→Prop} (hK:∀k,K k→K' k) {t:Ty} (h:t.Kn K):t.Kn K':=by
 induction h with
 | mk h1 _ ih=>exact .mk (fun q=>⟨hK _ (h1 q).1,(h1 q).2⟩) ih
theorem Ty.Kn.wf {K:Int→Prop} {t:Ty} (h:t.Kn K):t.Wf:=by
 induction h with
 | mk h1 _ ih=>exact ⟨fun q=>(h1 (by rw [q];decide)).2,ih⟩
theorem Ty.Kn.cw {K:Int→Prop} {t:Ty} (h:t.Kn K):t.Cw:=by
 induction h with
 | mk h1 _ ih=>exact ⟨fun q=>(h1 q).2,ih⟩
theorem Ty.Kn.bare {K:Int→Prop} {t:Ty} (h:t.args=[]) (hk:t.kind≠4→K t.kind):t.Kn K:=.mk (fun q=>⟨hk q,h⟩) (by rw [h];simp)
theorem Ty.Kn.nodes {K:Int→Prop} {t:Ty} (h:t.Kn K):∀y∈t.nodes,y.kind≠4→K y.kind∧y.args=[]:=by
 induction h with
 | @mk t h1 _ ih=>
   intro y hy
   rw [Ty.bl] at hy
   simp only [List.mem_cons,List.mem_flatMap] at hy
   rcases hy with rfl | ⟨a,ha,hy⟩
   · exact h1
   · exact ih a ha y hy
@[simp] def KS (k:Int):Prop:=k=0∨k=1∨k=3
abbrev Ty.Kw (t:Ty):Prop:=t.Kn KS
theorem Ty.Kw.var {t:Ty} (h:t.Kw):t.kind=1→t.args=[]:=fun q=>(Ty.Kn.hd h (by rw [q];decide)).2
theorem Ty.Kw.fM {t:Ty} (h:t.Kw):∀x∈t.args,x.Kw:=Ty.Kn.kd h
@[simp] def KG (k:Int):Prop:=k=0∨k=3
@[simp] def KC (k:Int):Prop:=k=0∨k=2∨k=3
@[simp] def KV (k:Int):Prop:=k=0∨k=1∨k=2∨k=3
theorem Mk:∀k,KG k→KS k:=by intro k h;simp at h ⊢;omega
theorem PE:∀k,KG k→KC k:=by intro k h;simp at h ⊢;omega
theorem PF:∀k,KC k→KV k:=by intro k h;simp at h ⊢;omega
theorem BE {K K':Int→Prop} {s:List As} {t:Ty} (h:t.Kn K) (hK:∀k,K k→k≠1→K' k) (hs:∀i x,ke s i=some x→x.Kn K') (h1:K' 1∨∀y∈t.nodes,y.kind=1→∃x,ke s y.id=some x):(t.sub s).Kn K':=by
 induction h with
 | @mk t hh _ ih=>
   have hself:t∈t.nodes:=by rw [Ty.bl];simp
   rw [Ty.sub_eq]
   by_cases q:t.kind=1
   · rw [if_pos q]
     cases e:ke s t.id with
     | some x=>simpa using hs _ _ e
     | none=>
       rcases h1 with h1 | h1
       · have:=hh (by rw [q];decide)
         exact .mk (fun _=>⟨by simp only [Option.getD_none];rw [q];exact h1,by simpa using this.2⟩) (by rw [Option.getD_none,this.2];simp)
       · obtain ⟨x,hx⟩:=h1 t hself q
         rw [hx] at e;cases e
   · rw [if_neg q]
     refine .mk (fun r=>?_) ?_
     · have:=hh r
       exact ⟨hK _ this.1 q,by simp [this.2]⟩
     · intro x hx
       simp only [List.mem_map] at hx
       obtain ⟨a,ha,rfl⟩:=hx
       refine ih a ha ?_
       rcases h1 with h1 | h1
       · exact .inl h1
       · right
         intro y hy
         refine h1 y ?_
         rw [Ty.bl]
         simp only [List.mem_cons,List.mem_flatMap]
         exact .inr ⟨a,ha,hy⟩
theorem Jm {K K':Int→Prop} {l:List Ty} {t:Ty} (h:t.Kn K) (hK:∀k,K k→k≠2→K' k) (hs:∀x∈l,x.Kn K') (h1:∀y∈t.nodes,y.kind=2→0≤y.id∧y.id<l.length):(t.ml l).Kn K':=by
 induction h with
 | @mk t hh _ ih=>
   have hself:t∈t.nodes:=by rw [Ty.bl];simp
   rw [Ty.mm]
   cases e:JY l t with
   | some x=>
     obtain ⟨_,_,_,hx⟩:=np e
     simpa using hs _ (bm hx)
   | none=>
     have q:t.kind≠2:=fun q=>xX e ⟨q,(h1 t hself q).1,(h1 t hself q).2⟩
     simp only [Option.getD_none]
     refine .mk (fun r=>?_) ?_
     · have:=hh r
       exact ⟨hK _ this.1 q,by simp [this.2]⟩
     · intro x hx
       simp only [List.mem_map] at hx
       obtain ⟨a,ha,rfl⟩:=hx
       refine ih a ha ?_
       intro y hy
       refine h1 y ?_
       rw [Ty.bl]
       simp only [List.mem_cons,List.mem_flatMap]
       exact .inr ⟨a,ha,hy⟩
end Go.Ab.Lw
namespace Go.Ab.Lw
open Ev
theorem nq {k:Int} {t:Ty}:(t.eJ k).length≤t.nodes.length:=by
 refine Ty.eE (p:=fun t=>(t.eJ k).length≤t.nodes.length) ?_ t
 intro t ih
 rw [Ty.kK,Ty.bl]
 split
 · simp
 · have key:∀l:List Ty,(∀a∈l,(a.eJ k).length≤a.nodes.length)→(l.flatMap (Ty.eJ k)).length≤(l.flatMap Ty.nodes).length:=by
     intro l
     induction l with
     | nil=>intro _;simp
     | cons a r ihr=>
       intro h
       have h1:=h a (by simp)
       have h2:=ihr fun b hb=>h b (by simp [hb])
       simp only [List.flatMap_cons,List.length_append]
       omega
   have:=key t.args ih
   simp only [List.length_cons]
   omega
theorem kP {k:Int} {t:Ty}:∀x∈t.eJ k,x.args=[]:=by
 refine Ty.eE (p:=fun t=>∀x∈t.eJ k,x.args=[]) ?_ t
 intro t ih x hx
 rw [Ty.kK] at hx
 split at hx
 · rename_i q
   simp at hx
   subst hx
   exact List.length_eq_zero_iff.1 q.2
 · simp only [List.mem_flatMap] at hx
   obtain ⟨a,ha,hx⟩:=hx
   exact ih a ha x hx
theorem c59t {u:Ty} (hu:u.Ok) (hn:u.nodes.length≤4000):∃r:List Ty,(aP AP).p 59 [.aD [u.pv]]=some [.aD (r.map Ty.pv)]∧Sm r:=by
 have hl:=nq (k:=3) (t:=u)
 obtain ⟨r,e,h,_⟩:=c59 (S:=u.eJ 3) (by omega) (fun x hx=>cO (kP x hx)) (l:=[u]) (by simp [Sm]) (by simpa using hu) (by simp)
 exact ⟨r,e,h⟩
structure Inv (n M:Nat) (S:List Int) (s:dK):Prop where
 len:s.sl.length=n
 JZ:s.tr.length+(n+2)*ub s.sl≤M
 ok:∀x∈s.sl,x.ty.Ok
 lC:∀x∈s.sl,∀w,gS x.ty w→w∈S
 Jn:Ge s.sl
 wf:∀x∈s.sl,x.ty.Kw
theorem mem_set {α:Type} {l:List α} {k:Nat} {x y:α} (h:y∈l.set k x):y=x∨y∈l:=by
 rcases List.mem_or_eq_of_mem_set h with h | h
 · exact .inr h
 · exact .inl h
theorem cq {s:dK} {i:Nat} {o x:Sl}:(gw s i o x).sl=s.sl.set i x:=rfl
theorem lD {s:dK} {i:Nat} {o x:Sl}:(gw s i o x).tr.length=s.tr.length+1:=by simp [gw]
theorem uU {s:List Sl} {k:Nat} {o:Sl} (hk:s[k]?=some o) (h:¬og s (k:Int)):o.bd=false:=by
 cases e:o.bd with
 | false=>rfl
 | true=>exact absurd ⟨k,o,rfl,hk,e⟩ h
theorem Jo {n M:Nat} {S:List Int} {s:dK} (I:Inv n M S s) {i j:Nat} {l h l' h':Sl} (hl:s.sl[i]?=some l) (hh:s.sl[j]?=some h) (hij:i≠j) (fi:¬og s.sl (i:Int)) (fj:¬og s.sl (j:Int))
   (hl1:l'.bd=l.bd) (hl2:l'.ty=l.ty) (hh1:h'.bd=true) (hh2:h'.ty=cd i) (hi:(i:Int)∈S) :
   Inv n M S (gw (gw s i l l') j h h')∧ub (gw (gw s i l l') j h h').sl<ub s.sl:=by
 have hj':(gw s i l l').sl[j]?=some h:=by
   rw [cq,List.getElem?_set,if_neg hij,hh]
 have u1:=pR hl hl1
 have u2:=uS hj' (uU hh fj) hh1
 rw [cq] at u2
 have hp:=I.JZ
 refine ⟨⟨by simp [gw,I.len],?_,?_,?_,?_,?_⟩,?_⟩
 · rw [lD,lD]
   simp only [cq]
   have:(n+2)*ub s.sl=(n+2)*ub ((s.sl.set i l').set j h')+(n+2):=by rw [←u1,←u2,Nat.mul_add,Nat.mul_one]
   omega
 · intro x hx
   simp only [cq] at hx
   rcases mem_set hx with rfl | hx
   · rw [hh2];exact cO rfl
   · rcases mem_set hx with rfl | hx
     · rw [hl2];exact I.ok l (bm hl)
     · exact I.ok x hx
 · intro x hx w ho
   simp only [cq] at hx
   rcases mem_set hx with rfl | hx
   · rw [hh2] at ho
     rw [i_ (t:=cd i) rfl ho]
     exact hi
   · rcases mem_set hx with rfl | hx
     · rw [hl2] at ho;exact I.lC l (bm hl) w ho
     · exact I.lC x hx w ho
 · simp only [cq]
   refine xM (xL I.Jn hl hl1 hl2) ?_
   intro v ho hv
   rw [hh2] at ho
   have e:=i_ (t:=cd i) rfl ho
   have e2:v=(i:Int):=e
   subst e2
   have fi':¬og (s.sl.set i l') (i:Int):=by
     rintro ⟨k,x,q,hx,hb⟩
     have:k=i:=by omega
     subst this
     have hlt:k<s.sl.length:=by obtain ⟨h,_⟩:=List.getElem?_eq_some_iff.1 hl;exact h
     rw [List.getElem?_set,if_pos rfl,if_pos hlt] at hx
     cases hx
     rw [hl1,uU hl fi] at hb
     cases hb
   have:=rn hv fi'
   omega
 · intro x hx
   simp only [cq] at hx
   rcases mem_set hx with rfl | hx
   · rw [hh2];exact ⟨by simp [cd],by simp [cd]⟩
   · rcases mem_set hx with rfl | hx
     · rw [hl2];exact I.wf l (bm hl)
     · exact I.wf x hx
 · simp only [cq]
   omega
end Go.Ab.Lw
namespace Go.Ab.Lw
open Ev
theorem Inv.J0 {n M:Nat} {S:List Int} {s:dK} (I:Inv n M S s):s.Ok n (M+10):=⟨by rw [I.len];omega,by have:=I.JZ;have:0≤(n+2)*ub s.sl:=Nat.zero_le _;omega,I.ok⟩
theorem Inv.QP {n M:Nat} {S:List Int} {s:dK} (I:Inv n M S s) {i:Nat} {o x:Sl} (hx:x.ty.Ok):(gw s i o x).Ok n (M+10):=⟨by rw [cq,List.length_set,I.len];omega,by rw [lD];have:=I.JZ;have:0≤(n+2)*ub s.sl:=Nat.zero_le _;omega,by
 intro y hy
 rw [cq] at hy
 rcases mem_set hy with rfl | hy
 · exact hx
 · exact I.ok y hy⟩
theorem c397 {n M:Nat} {S:List Int} {s:dK} (I:Inv n M S s) (hn:n≤1000000) (hM:M≤100000000) {x y:Ty} {i j:Nat} (hxi:x.id=i) (hyj:y.id=j) (hi:i<n) (hj:j<n) (fi:¬og s.sl (i:Int)) (fj:¬og s.sl (j:Int)) (hiS:(i:Int)∈S) (hjS:(j:Int)∈S) :
   ∃s',(aP AP).p 397 [s.pv,x.pv,y.pv]=some [s'.pv]∧Inv n M S s'∧(s'=s∨ub s'.sl<ub s.sl):=by
 by_cases hij:i=j
 · refine ⟨s,?_,I,.inl rfl⟩
   have h2:x.id=y.id:=by rw [hxi,hyj,hij]
   rw [aq (af:=g397) rfl rfl (by decide)]
   simp [g397,h2]
 · have hne:¬(i:Int)=j:=by omega
   obtain ⟨a,ha⟩:=bp (l:=s.sl) (i:=min i j) (by rw [I.len];omega)
   obtain ⟨b,hb⟩:=bp (l:=s.sl) (i:=max i j) (by rw [I.len];omega)
   have hab:min i j≠max i j:=by omega
   have fa:¬og s.sl ((min i j:Nat):Int):=by
     by_cases q:i≤j
     · rw [Nat.min_eq_left q];exact fi
     · rw [Nat.min_eq_right (by omega)];exact fj
   have fb:¬og s.sl ((max i j:Nat):Int):=by
     by_cases q:i≤j
     · rw [Nat.max_eq_right q];exact fj
     · rw [Nat.max_eq_left (by omega)];exact fi
   have haS:((min i j:Nat):Int)∈S:=by
     by_cases q:i≤j
     · rw [Nat.min_eq_left q];exact hiS
     · rw [Nat.min_eq_right (by omega)];exact hjS
   have hmin:(if j<i then (j:Int) else (i:Int))=((min i j:Nat):Int):=by split<;>omega
   have hmax:(if i<j then (j:Int) else (i:Int))=((max i j:Nat):Int):=by split<;>omega
   have hlo:min i j<s.sl.length:=by rw [I.len];omega
   have hhi:max i j<s.sl.length:=by rw [I.len];omega
   generalize min i j=p at *
   generalize max i j=q at *
   have k0:=c63 (n:=p)
   let a':Sl:=⟨a.bd,a.ty,if b.home<a.home then b.home else a.home,a.base || b.base⟩
   let b':Sl:=⟨true,cd p,b.home,b.base⟩
   have aO:a'.ty.Ok:=I.ok a (bm ha)
   have k1:=c393 I.J0 (by omega) (by omega) ha a'
   have hb1:(gw s p a a').sl[q]?=some b:=by rw [cq,List.getElem?_set,if_neg hab,hb]
   have k2:=c393 (I.QP (i:=p) (o:=a) aO) (by omega) (by omega) hb1 b'
   obtain ⟨J,hu⟩:=Jo I (l':=a') (h':=b') ha hb hab fa fb rfl rfl rfl rfl haS
   refine ⟨gw (gw s p a a') q b b',?_,J,.inr hu⟩
   generalize gw (gw s p a a') q b b'=s2 at *
   generalize gw s p a a'=s1 at *
   simp [a',b',cd] at k0 k1 k2
   rw [aq (af:=g397) rfl rfl (by decide)]
   cases hab1:a.base
   · simp [hab1] at k1
     simp (disch:=omega) [-getElem?_pos,g397,hxi,hyj,hne,hmin,hmax,ha,hb,hlo,hhi,k0,k1,k2,hab1]
   · simp [hab1] at k1
     simp (disch:=omega) [-getElem?_pos,g397,hxi,hyj,hne,hmin,hmax,ha,hb,hlo,hhi,k0,k1,k2,hab1]
end Go.Ab.Lw
namespace Go.Ab.Lw
open Ev
def zS:List AV:=[.own [] 0,.own [] 1]
def om (v:Sl):List AV:=[.pv (.bool v.bd),.pv (vI v.ty.kind),.pv (.str v.ty.name),.pv (vI v.ty.id),.pv (vI v.ty.home),.pv (.aD (v.ty.args.map Ty.pv)),.pv (vI v.home),.pv (.bool v.base)]
def Jp (s:dK) (q:aL):Option (a6×St):=some (.ret,⟨[(6,.az 6 0),(7,.pv (vI 13))],[(6,sC s)],[],q⟩)
theorem Ml {s:dK} {i:Nat} {t:Ty} {v:Sl} {out:List Int} {r:List Ty} (hr:Sm r):∀(n k:Nat),r.length-k=n→k≤r.length →
   (∃q,cl AP g398L0 ⟨[(1,.pv (vI i)),(3,.az 3 0),(5,.az 5 0),(6,.az 6 0),(8,.az 8 0),(9,.pv (.aD (out.map vI))),(15,.pv (.aD (r.map Ty.pv))),(16,.pv (vI k))],[(3,sC s),(5,tC t),(6,zS),(8,om v)],[],[0,0]⟩=Jp s q) ∨
   cl AP g398L0 ⟨[(1,.pv (vI i)),(3,.az 3 0),(5,.az 5 0),(6,.az 6 0),(8,.az 8 0),(9,.pv (.aD (out.map vI))),(15,.pv (.aD (r.map Ty.pv))),(16,.pv (vI k))],[(3,sC s),(5,tC t),(6,zS),(8,om v)],[],[0,0]⟩ =
     some (.exit 0,⟨[(1,.pv (vI i)),(3,.az 3 0),(5,.az 5 0),(6,.az 6 0),(8,.az 8 0),(9,.pv (.aD (out.map vI))),(15,.pv (.aD (r.map Ty.pv))),(16,.pv (vI r.length)),(57,.pv (.bool false))],[(3,sC s),(5,tC t),(6,zS),(8,om v)],[],[0,0]⟩)
 | 0,k,hn,hk=>by
   have:k=r.length:=by omega
   subst this
   refine .inr ?_
   rw [g398L0e]
   simp [g398B0,sC,tC,zS,om]
 | n+1,k,hn,hk=>by
   have hk:k<r.length:=by omega
   obtain ⟨x,hx⟩:=bp hk
   unfold Sm at hr
   by_cases hg:v.home<x.home
   · refine .inl ?_
     rw [g398L0e]
     simp (disch:=omega) [-getElem?_pos,g398B0,sC,tC,zS,om,Jp,hx,hk,hg]
   · have ih:=Ml (s:=s) (i:=i) (t:=t) (v:=v) (out:=out) hr n (k+1) (by omega) (by omega)
     have e1:cl AP g398L0 ⟨[(1,.pv (vI i)),(3,.az 3 0),(5,.az 5 0),(6,.az 6 0),(8,.az 8 0),(9,.pv (.aD (out.map vI))),(15,.pv (.aD (r.map Ty.pv))),(16,.pv (vI k))],[(3,sC s),(5,tC t),(6,zS),(8,om v)],[],[0,0]⟩=cl AP g398L0 ⟨[(1,.pv (vI i)),(3,.az 3 0),(5,.az 5 0),(6,.az 6 0),(8,.az 8 0),(9,.pv (.aD (out.map vI))),(15,.pv (.aD (r.map Ty.pv))),(16,.pv (vI (k+1:Nat)))],[(3,sC s),(5,tC t),(6,zS),(8,om v)],[],[0,0]⟩:=by
       conv=>lhs;rw [g398L0e]
       simp (disch:=omega) [-getElem?_pos,g398B0,sC,tC,zS,om,hx,hk,hg,au]
     rw [e1]
     exact ih
theorem Mm {s:dK} {i:Nat} {t:Ty} {v:Sl} {out:List Int} (hr:Sm out):∀(n k:Nat),out.length-k=n→k≤out.length →
   (∃q,cl AP g398L1 ⟨[(1,.pv (vI i)),(3,.az 3 0),(5,.az 5 0),(6,.az 6 0),(8,.az 8 0),(9,.pv (.aD (out.map vI))),(17,.pv (vI k))],[(3,sC s),(5,tC t),(6,zS),(8,om v)],[],[0,0]⟩=Jp s q) ∨
   cl AP g398L1 ⟨[(1,.pv (vI i)),(3,.az 3 0),(5,.az 5 0),(6,.az 6 0),(8,.az 8 0),(9,.pv (.aD (out.map vI))),(17,.pv (vI k))],[(3,sC s),(5,tC t),(6,zS),(8,om v)],[],[0,0]⟩ =
     some (.exit 2,⟨[(1,.pv (vI i)),(3,.az 3 0),(5,.az 5 0),(6,.az 6 0),(8,.az 8 0),(9,.pv (.aD (out.map vI))),(17,.pv (vI out.length)),(72,.pv (.bool false))],[(3,sC s),(5,tC t),(6,zS),(8,om v)],[],[0,0]⟩)
 | 0,k,hn,hk=>by
   have:k=out.length:=by omega
   subst this
   refine .inr ?_
   rw [g398L1e]
   simp [g398B1,sC,tC,zS,om]
 | n+1,k,hn,hk=>by
   have hk:k<out.length:=by omega
   obtain ⟨x,hx⟩:=bp hk
   unfold Sm at hr
   by_cases hg:(s.sl.length:Int)≤x∧v.home<0
   · obtain ⟨g1,g2⟩:=hg
     refine .inl ?_
     rw [g398L1e]
     simp (disch:=omega) [-getElem?_pos,g398B1,sC,tC,zS,om,Jp,hx,hk,g1,g2]
   · have ih:=Mm (s:=s) (i:=i) (t:=t) (v:=v) (out:=out) hr n (k+1) (by omega) (by omega)
     have e1:cl AP g398L1 ⟨[(1,.pv (vI i)),(3,.az 3 0),(5,.az 5 0),(6,.az 6 0),(8,.az 8 0),(9,.pv (.aD (out.map vI))),(17,.pv (vI k))],[(3,sC s),(5,tC t),(6,zS),(8,om v)],[],[0,0]⟩=cl AP g398L1 ⟨[(1,.pv (vI i)),(3,.az 3 0),(5,.az 5 0),(6,.az 6 0),(8,.az 8 0),(9,.pv (.aD (out.map vI))),(17,.pv (vI (k+1:Nat)))],[(3,sC s),(5,tC t),(6,zS),(8,om v)],[],[0,0]⟩:=by
       conv=>lhs;rw [g398L1e]
       by_cases g1:(s.sl.length:Int)≤x
       · have g2:¬v.home<0:=fun h=>hg ⟨g1,h⟩
         simp (disch:=omega) [-getElem?_pos,g398B1,sC,tC,zS,om,hx,hk,g1,g2,au]
       · simp (disch:=omega) [-getElem?_pos,g398B1,sC,tC,zS,om,hx,hk,g1,au]
     rw [e1]
     exact ih
structure Kp (s s':dK) (c:Nat):Prop where
 len:s'.sl.length=s.sl.length
 tr:s'.tr.length≤s.tr.length+c
 FQ:∀(k:Nat) o',s'.sl[k]?=some o'→∃o,s.sl[k]?=some o∧o'.bd=o.bd∧o'.ty=o.ty
 ub:ub s'.sl=ub s.sl
theorem Kp.FN {s s':dK} {c:Nat} (h:Kp s s' c) {i v:Int} (e:Edge s'.sl i v):Edge s.sl i v:=by
 obtain ⟨k,x,rfl,hx,hb,ho⟩:=e
 obtain ⟨o,hk,h1,h2⟩:=h.FQ k x hx
 exact ⟨k,o,rfl,hk,by rw [←h1];exact hb,by rw [←h2];exact ho⟩
theorem Kp.set {s s':dK} {c:Nat} (h:Kp s s' c) {k:Nat} {o x:Sl} (ho:s'.sl[k]?=some o) (hb:x.bd=o.bd) (ht:x.ty=o.ty):Kp s (gw s' k o x) (c+1) where
 len:=by rw [cq,List.length_set,h.len]
 tr:=by rw [lD];have:=h.tr;omega
 FQ:=by
   intro j o' hj
   rw [cq,List.getElem?_set] at hj
   by_cases e:k=j
   · subst e
     have hl:k<s'.sl.length:=by obtain ⟨h,_⟩:=List.getElem?_eq_some_iff.1 ho;exact h
     rw [if_pos rfl,if_pos hl] at hj
     cases hj
     obtain ⟨p,h1,h2,h3⟩:=h.FQ k o ho
     exact ⟨p,h1,by rw [hb,h2],by rw [ht,h3]⟩
   · rw [if_neg e] at hj
     exact h.FQ j o' hj
 ub:=by rw [cq,pR ho hb,h.ub]
theorem Kp.refl {s:dK}:Kp s s 0:=⟨rfl,by omega,fun k o h=>⟨o,h,rfl,rfl⟩,rfl⟩
theorem Kp.gB {s s':dK} {c d:Nat} (h:Kp s s' c) (hd:c≤d):Kp s s' d:=⟨h.len,by have:=h.tr;omega,h.FQ,h.ub⟩
end Go.Ab.Lw
namespace Go.Ab.Lw
open Ev
def mo (n:Nat) (l:List Int):Nat:=(l.filter fun w:Int=>decide (w<(n:Int))).length
theorem Cs {n:Nat} {l:List Int} (hd:l.Nodup) (h0:∀w∈l,0≤w):mo n l≤n:=by
 have h1:(l.filter fun w=>decide (w<(n:Int))).Nodup:=hd.filter _
 have h2:∀x∈(l.filter fun w=>decide (w<(n:Int))),x∈(List.range n).map (fun k:Nat=>(k:Int)):=by
   intro x hx
   simp at hx
   simp
   exact ⟨x.toNat,by have:=h0 x hx.1;omega,by have:=h0 x hx.1;omega⟩
 have:=fK h1 h2
 simpa [mo] using this
theorem Kp.J0 {n M:Nat} {S:List Int} {s s':dK} {c:Nat} (I:Inv n M S s) (h:Kp s s' c) (hc:c≤n):s'.Ok n (M+n+10):=⟨by rw [h.len,I.len];omega,by have:=h.tr;have:=I.JZ;have:0≤(n+2)*Lw.ub s.sl:=Nat.zero_le _;omega,by
 intro x hx
 obtain ⟨k,hk⟩:=List.mem_iff_getElem?.1 hx
 obtain ⟨o,ho,_,e⟩:=h.FQ k x hk
 rw [e]
 exact I.ok o (bm ho)⟩
theorem Ct {N M:Nat} {S:List Int} {s:dK} (I:Inv N M S s) (hN:N≤1000000) (hM:M≤100000000) {i:Nat} {t:Ty} {v:Sl} {out:List Int} (hr:Sm out) (hd:out.Nodup) (h0:∀w∈out,0≤w):∀(n k:Nat),out.length-k=n→k≤out.length→∀s':dK,Kp s s' (mo N (out.take k))→∃s2,Kp s s2 (mo N out) ∧
   cl AP g398L2 ⟨[(1,.pv (vI i)),(3,.az 3 0),(5,.az 5 0),(6,.az 6 0),(8,.az 8 0),(9,.pv (.aD (out.map vI))),(18,.pv (vI k))],[(3,sC s'),(5,tC t),(6,zS),(8,om v)],[],[0,0]⟩ =
     some (.exit 4,⟨[(1,.pv (vI i)),(3,.az 3 0),(5,.az 5 0),(6,.az 6 0),(8,.az 8 0),(9,.pv (.aD (out.map vI))),(18,.pv (vI out.length)),(92,.pv (.bool false))],[(3,sC s2),(5,tC t),(6,zS),(8,om v)],[],[0,0]⟩)
 | 0,k,hn,hk,s',hK=>by
   have:k=out.length:=by omega
   subst this
   refine ⟨s',by simpa using hK,?_⟩
   rw [g398L2e]
   simp [g398B2,sC,tC,zS,om]
 | n+1,k,hn,hk,s',hK=>by
   have hk:k<out.length:=by omega
   obtain ⟨x,hx⟩:=bp hk
   have hx0:=h0 x (bm hx)
   have hl:=hK.len
   rw [I.len] at hl
   have htk:out.take (k+1)=out.take k++[x]:=by rw [List.take_add_one,hx];rfl
   have hsub:mo N (out.take k)≤N:=Cs (hd.sublist (List.take_sublist _ _)) (fun w hw=>h0 w (List.mem_of_mem_take hw))
   have hs:=hr
   unfold Sm at hr
   by_cases hg:x<(N:Int)
   · obtain ⟨j,rfl⟩:∃j:Nat,x=j:=⟨x.toNat,by omega⟩
     have hj:j<s'.sl.length:=by omega
     obtain ⟨o,ho⟩:=bp hj
     have hcnt:mo N (out.take (k+1))=mo N (out.take k)+1:=by
       rw [htk]
       simp [mo,hg]
     by_cases hh:v.home<o.home
     · have c:=c393 (hK.J0 I hsub) hN (by omega) ho ⟨o.bd,o.ty,v.home,o.base⟩
       have hK2:=hK.set (x:=⟨o.bd,o.ty,v.home,o.base⟩) ho rfl rfl
       rw [←hcnt] at hK2
       obtain ⟨s2,h2,e⟩:=Ct (i:=i) (t:=t) (v:=v) I hN hM hs hd h0 n (k+1) (by omega) (by omega) _ hK2
       refine ⟨s2,h2,?_⟩
       generalize gw s' j o ⟨o.bd,o.ty,v.home,o.base⟩=s1 at *
       rw [g398L2e] at e ⊢
       simp [sC,tC,zS,om] at e
       simp at c
       simp (disch:=omega) [-getElem?_pos,g398B2,sC,tC,zS,om,hx,hk,hj,ho,hh,c,au]
       rw [g398L2e]
       simp [e]
     · have hK2:Kp s s' (mo N (out.take (k+1))):=hK.gB (by omega)
       obtain ⟨s2,h2,e⟩:=Ct (i:=i) (t:=t) (v:=v) I hN hM hs hd h0 n (k+1) (by omega) (by omega) s' hK2
       refine ⟨s2,h2,?_⟩
       rw [g398L2e] at e ⊢
       simp [sC,tC,zS,om] at e
       simp (disch:=omega) [-getElem?_pos,g398B2,sC,tC,zS,om,hx,hk,hj,ho,hh,au]
       rw [g398L2e]
       simp [e]
   · have hcnt:mo N (out.take (k+1))=mo N (out.take k):=by
       rw [htk]
       simp [mo,hg]
     have hK2:Kp s s' (mo N (out.take (k+1))):=by rw [hcnt];exact hK
     obtain ⟨s2,h2,e⟩:=Ct (i:=i) (t:=t) (v:=v) I hN hM hs hd h0 n (k+1) (by omega) (by omega) s' hK2
     refine ⟨s2,h2,?_⟩
     have hg':¬x<(s'.sl.length:Int):=by omega
     rw [g398L2e] at e ⊢
     simp [sC,tC,zS,om] at e
     simp (disch:=omega) [-getElem?_pos,g398B2,sC,tC,zS,om,hx,hk,hg',au]
     rw [g398L2e]
     simp [e]
end Go.Ab.Lw
namespace Go.Ab.Lw
open Ev
def UR (n M:Nat) (S:List Int) (s s':dK) (e:Int):Prop:=e=0→Inv n M S s'∧(s'=s∨ub s'.sl<ub s.sl)
theorem xZ {n M:Nat} {S:List Int} {s s2:dK} (I:Inv n M S s) {i:Nat} {v:Sl} {t:Ty} (hv:s.sl[i]?=some v) (fi:¬og s.sl (i:Int)) {c:Nat} (hK:Kp s s2 c) (hc:c≤n) {o:Sl} (ho:s2.sl[i]?=some o) (ht:t.Ok) (hwf:t.Kw) (hw:∀w,gS t w→w∈S) (hnr:¬RT s.sl t i) {x:Sl} (hb:x.bd=true) (hx:x.ty=t) :
   Inv n M S (gw s2 i o x)∧ub (gw s2 i o x).sl<ub s.sl:=by
 have hob:o.bd=false:=by
   obtain ⟨o2,h1,h2,_⟩:=hK.FQ i o ho
   rw [hv] at h1;cases h1
   rw [h2];exact uU hv fi
 have u2:=uS ho hob hb
 have hu:=hK.ub
 have hp:=I.JZ
 have hl:=I.len
 refine ⟨⟨by rw [cq,List.length_set,hK.len,I.len],?_,?_,?_,?_,?_⟩,?_⟩
 · rw [lD,cq]
   have:(n+2)*ub s.sl=(n+2)*ub (s2.sl.set i x)+(n+2):=by rw [←hu,←u2,Nat.mul_add,Nat.mul_one]
   have:=hK.tr
   omega
 · intro y hy
   rw [cq] at hy
   rcases mem_set hy with rfl | hy
   · rw [hx];exact ht
   · obtain ⟨k,hk⟩:=List.mem_iff_getElem?.1 hy
     obtain ⟨p,h1,_,h3⟩:=hK.FQ k y hk
     rw [h3];exact I.ok p (bm h1)
 · intro y hy w hw2
   rw [cq] at hy
   rcases mem_set hy with rfl | hy
   · rw [hx] at hw2;exact hw w hw2
   · obtain ⟨k,hk⟩:=List.mem_iff_getElem?.1 hy
     obtain ⟨p,h1,_,h3⟩:=hK.FQ k y hk
     rw [h3] at hw2;exact I.lC p (bm h1) w hw2
 · rw [cq]
   refine xM (I.Jn.of fun a b=>hK.FN) ?_
   intro w ho2 hr
   rw [hx] at ho2
   refine hnr ⟨w,ho2,?_⟩
   have key:∀{a b:Int},Ck s2.sl a b→Ck s.sl a b:=by
     intro a b h
     induction h with
     | refl=>exact .refl _
     | step e _ ih=>exact .step (hK.FN e) ih
   exact key hr
 · intro y hy
   rw [cq] at hy
   rcases mem_set hy with rfl | hy
   · rw [hx];exact hwf
   · obtain ⟨k,hk⟩:=List.mem_iff_getElem?.1 hy
     obtain ⟨p,h1,_,h3⟩:=hK.FQ k y hk
     rw [h3];exact I.wf p (bm h1)
 · rw [cq];omega
theorem c398 {n M:Nat} {S:List Int} {s:dK} (I:Inv n M S s) (hn:n≤1000000) (hM:M≤100000000) (hf:S.length<1099511627776) (hS0:∀w∈S,0≤w) {i:Nat} (hi:i<n) (fi:¬og s.sl (i:Int)) {t:Ty} (ht:t.Ok) (hwf:t.Kw) (hw:∀w,gS t w→w∈S) :
   ∃s' e,(aP AP).p 398 [s.pv,vI i,t.pv]=some [s'.pv,vI e]∧UR n M S s s' e:=by
 have hl:=I.len
 have his:i<s.sl.length:=by omega
 obtain ⟨v,hv⟩:=bp his
 obtain ⟨out,k1,hc,hall⟩:=c372 (by omega) I.Jn I.ok I.lC hf ht hw
 have hsm:=hc.len
 have k2:=c95 hsm (y:=(i:Int))
 obtain ⟨a,b,ar,k3,_⟩:=c194g ht
 have hsl:Sm s.sl:=by unfold Sm;omega
 obtain ⟨u,bb,k4,hu,hun⟩:=c358 hsl I.ok ht
 obtain ⟨r,k5,hr⟩:=c59t hu hun
 have A:=Ml (s:=s) (i:=i) (t:=t) (v:=v) (out:=out) hr _ 0 rfl (by omega)
 have B:=Mm (s:=s) (i:=i) (t:=t) (v:=v) (out:=out) hsm _ 0 rfl (by omega)
 have h0:∀w∈out,0≤w:=fun w hw=>hS0 w (hc.sub w hw)
 obtain ⟨s2,hK,C⟩:=Ct (i:=i) (t:=t) (v:=v) I hn hM hsm hc.nodup h0 _ 0 rfl (by omega) s (by simpa [mo] using Kp.refl)
 have hcn:mo n out≤n:=Cs hc.nodup h0
 have hi2:i<s2.sl.length:=by rw [hK.len];exact his
 obtain ⟨o,ho⟩:=bp hi2
 let x:Sl:=⟨true,t,v.home,v.base⟩
 have k6:=c393 (hK.J0 I hcn) hn (by omega) ho x
 by_cases q1:(i:Int)∈out
 · rw [decide_eq_true q1] at k2
   refine ⟨s,12,?_,by intro h;cases h⟩
   rw [aq (af:=g398) rfl rfl (by decide)]
   simp at k1
   simp (disch:=omega) [-getElem?_pos,g398,his,hv,k1,k2]
 · rw [decide_eq_false q1] at k2
   have hnr:¬RT s.sl t i:=fun h=>q1 (hall i h fi)
   have J:=xZ I (x:=x) hv fi hK hcn ho ht hwf hw hnr rfl rfl
   generalize gw s2 i o x=s3 at *
   simp [x] at k6
   simp at k1 k3 k4 k5
   rw [g398L0e] at A
   rw [g398L1e] at B
   rw [g398L2e] at C
   simp [sC,tC,zS,om,Jp] at A B C
   by_cases q2:ar=true∧v.base=true
   · obtain ⟨q3,q4⟩:=q2
     refine ⟨s,14,?_,by intro h;cases h⟩
     rw [aq (af:=g398) rfl rfl (by decide)]
     simp (disch:=omega) [-getElem?_pos,g398,his,hv,k1,k2,k3,q3,q4]
   · rcases A with ⟨q,A⟩ | A
     · refine ⟨s,13,?_,by intro h;cases h⟩
       rw [aq (af:=g398) rfl rfl (by decide)]
       cases ar with
       | true=>
         have q4:v.base=false:=by cases e:v.base with | false=>rfl | true=>exact absurd ⟨rfl,e⟩ q2
         simp [q4] at A
         simp (disch:=omega) [-getElem?_pos,g398,his,hv,k1,k2,k3,k4,k5,q4,g398L0e,A]
       | false=>simp (disch:=omega) [-getElem?_pos,g398,his,hv,k1,k2,k3,k4,k5,g398L0e,A]
     · rcases B with ⟨q,B⟩ | B
       · refine ⟨s,13,?_,by intro h;cases h⟩
         rw [aq (af:=g398) rfl rfl (by decide)]
         cases ar with
         | true=>
           have q4:v.base=false:=by cases e:v.base with | false=>rfl | true=>exact absurd ⟨rfl,e⟩ q2
           simp [q4] at A B
           simp (disch:=omega) [-getElem?_pos,g398,his,hv,k1,k2,k3,k4,k5,q4,g398L0e,A,g398L1e,B]
         | false=>simp (disch:=omega) [-getElem?_pos,g398,his,hv,k1,k2,k3,k4,k5,g398L0e,A,g398L1e,B]
       · refine ⟨s3,0,?_,fun _=>⟨J.1,.inr J.2⟩⟩
         rw [aq (af:=g398) rfl rfl (by decide)]
         cases ar with
         | true=>
           have q4:v.base=false:=by cases e:v.base with | false=>rfl | true=>exact absurd ⟨rfl,e⟩ q2
           simp [q4] at A B C k6
           simp (disch:=omega) [-getElem?_pos,g398,his,hv,k1,k2,k3,k4,k5,q4,g398L0e,A,g398L1e,B,g398L2e,C,k6]
         | false=>simp (disch:=omega) [-getElem?_pos,g398,his,hv,k1,k2,k3,k4,k5,g398L0e,A,g398L1e,B,g398L2e,C,k6]
end Go.Ab.Lw
namespace Go.Ab.Lw
open Ev
theorem x4 {s:List Sl} {rk:Int→Nat} (hr:∀i v,Edge s i v→rk v<rk i):∀(m:Nat) (t:Ty),gZ s (wk s m t)≠none→∃(i:Nat) (l:List Nat),t.kind=1∧t.id=i∧l.length=m∧(i::l).Pairwise (fun a b:Nat=>rk (b:Int)<rk (a:Int))∧∀a∈i::l,a<s.length
 | 0,t,h=>by
   cases hb:gZ s t with
   | none=>exact absurd hb h
   | some x=>
     obtain ⟨k,i,hi,hx,_⟩:=fG hb
     have hl:i<s.length:=by obtain ⟨h,_⟩:=List.getElem?_eq_some_iff.1 hx;exact h
     exact ⟨i,[],k,hi,rfl,by simp,by simpa using hl⟩
 | m+1,t,h=>by
   cases hb:gZ s t with
   | none=>
     have:wk s (m+1) t=t:=by simp [wk,hb]
     rw [this] at h
     exact absurd hb h
   | some x=>
     obtain ⟨k,i,hi,hx,hbd⟩:=fG hb
     have hl:i<s.length:=by obtain ⟨h,_⟩:=List.getElem?_eq_some_iff.1 hx;exact h
     have e:wk s (m+1) t=wk s m x.ty:=by simp [wk,hb]
     rw [e] at h
     obtain ⟨j,l,k2,hj,hn,hp,ha⟩:=x4 hr m x.ty h
     have ed:Edge s (i:Int) (j:Int):=⟨i,x,rfl,hx,hbd,by rw [←hj];exact .var k2⟩
     have hlt:=hr _ _ ed
     refine ⟨i,j::l,k,hi,by simp [hn],?_,?_⟩
     · rw [List.pairwise_cons]
       refine ⟨?_,hp⟩
       intro b hb
       simp only [List.mem_cons] at hb
       rcases hb with rfl | hb
       · exact hlt
       · have:=(List.pairwise_cons.1 hp).1 b hb;omega
     · intro a hm
       simp only [List.mem_cons] at hm
       rcases hm with rfl | hm
       · exact hl
       · exact ha a (by simpa using hm)
theorem rG {s:List Sl} (h:Ge s) {t:Ty}:gZ s (jU s t)=none:=by
 obtain ⟨rk,hr⟩:=h
 cases hb:gZ s (jU s t) with
 | none=>rfl
 | some x=>
   exfalso
   obtain ⟨i,l,_,_,hl,hp,ha⟩:=x4 hr (s.length+1) t (by unfold jU at hb;rw [hb];simp)
   have hd:(i::l).Nodup:=hp.imp (fun {a b} h e=>by rw [e] at h;omega)
   have:=fK hd (S:=List.range s.length) (fun a h=>by simpa using ha a h)
   simp at this
   omega
theorem jW {s:List Sl} {S:List Int} (hs:∀x∈s,∀w,gS x.ty w→w∈S):∀{m:Nat} {t:Ty},(∀w,gS t w→w∈S)→∀w,gS (wk s m t) w→w∈S
 | 0,t,h=>h
 | m+1,t,h=>by
   unfold wk
   split
   · rename_i x hx
     obtain ⟨_,i,_,hi,_⟩:=fG hx
     exact jW hs (hs x (bm hi))
   · exact h
theorem PG {n M:Nat} {S:List Int} {s:dK} {x y:Ty} (hx:x.Ok) (hxy:x.args.length=y.args.length)
   (H:∀s',Inv n M S s'→(s'=s∨ub s'.sl<ub s.sl)→∀(i:Nat) a b,x.args[i]?=some a→y.args[i]?=some b→∃s2 e,(aP AP).p 391 [s'.pv,a.pv,b.pv]=some [s2.pv,vI e]∧UR n M S s' s2 e) :
   ∀(m i:Nat),x.args.length-i=m→i≤x.args.length→∀(s':dK) (e:Int),UR n M S s s' e→∃(s2:dK) (e2:Int) (i2:Nat),
   cl AP g391L0 ⟨[(3,.az 3 0),(6,.az 6 0),(8,.az 8 0),(9,.az 9 0),(10,.pv (vI e)),(11,.pv (vI i))],[(3,sC s'),(6,zS),(8,tC x),(9,tC y)],[],[0,0]⟩ =
     some (.exit 1,⟨[(3,.az 3 0),(6,.az 6 0),(8,.az 8 0),(9,.az 9 0),(10,.pv (vI e2)),(11,.pv (vI i2)),(109,.pv (.bool false))],[(3,sC s2),(6,zS),(8,tC x),(9,tC y)],[],[0,0]⟩)∧UR n M S s s2 e2
 | 0,i,hm,hi,s',e,h=>by
   have:i=x.args.length:=by omega
   subst this
   refine ⟨s',e,x.args.length,?_,h⟩
   rw [g391L0e]
   simp [g391B0,sC,tC,zS]
 | m+1,i,hm,hi,s',e,h=>by
   have hi:i<x.args.length:=by omega
   obtain ⟨a,ha⟩:=bp hi
   have hiy:i<y.args.length:=by omega
   obtain ⟨b,hb⟩:=bp hiy
   have hsm:=hx.sm
   unfold Sm at hsm
   by_cases he:e=0
   · obtain ⟨I,hu⟩:=h he
     obtain ⟨s1,e1,c,h1⟩:=H s' I hu i a b ha hb
     have h2:UR n M S s s1 e1:=fun q=>by
       obtain ⟨J,ju⟩:=h1 q
       refine ⟨J,?_⟩
       rcases ju with rfl | ju
       · exact hu
       · rcases hu with rfl | hu
         · exact .inr ju
         · exact .inr (by omega)
     obtain ⟨s2,e2,i2,eq,h3⟩:=PG hx hxy H m (i+1) (by omega) (by omega) s1 e1 h2
     refine ⟨s2,e2,i2,?_,h3⟩
     rw [g391L0e] at eq ⊢
     simp [sC,tC,zS] at eq
     simp at c
     simp (disch:=omega) [-getElem?_pos,g391B0,sC,tC,zS,hi,hiy,ha,hb,he,c,au]
     rw [g391L0e]
     simp [eq]
   · refine ⟨s',e,i,?_,h⟩
     rw [g391L0e]
     simp (disch:=omega) [-getElem?_pos,g391B0,sC,tC,zS,hi,he]
end Go.Ab.Lw
namespace Go.Ab.Lw
open Ev
theorem mq {s:List Sl} {t:Ty} (h:lQ s t=true):t.kind=1∧∃i:Nat,t.id=i∧i<s.length:=by
 simp [lQ] at h
 exact ⟨h.1,t.id.toNat,by omega,by omega⟩
theorem nr {s:List Sl} (hs:∀x∈s,x.ty.Kw):∀{m:Nat} {t:Ty},t.Kw→(wk s m t).Kw
 | 0,t,h=>h
 | m+1,t,h=>by
   unfold wk
   split
   · rename_i x hx
     obtain ⟨_,i,_,hi,_⟩:=fG hx
     exact nr hs (hs x (bm hi))
   · exact h
theorem PH {n M:Nat} {S:List Int} {s:dK} (I:Inv n M S s) (hn:n≤1000000) (hM:M≤100000000) (hf:S.length<1099511627776) (hS0:∀w∈S,0≤w) {a b:Ty} (ha:a.Ok) (hb:b.Ok) (wa:a.Kw) (wb:b.Kw) (oa:∀w,gS a w→w∈S) (ob:∀w,gS b w→w∈S) {r1:Nat} (k1:(aP AP).p 355 [s.pv,a.pv,vI (200:Nat)]=some [vI r1])
   (H:r1≤200→∀s',Inv n M S s'→(s'=s∨ub s'.sl<ub s.sl)→∀(i:Nat) x y,(jU s.sl a).args[i]?=some x→(jU s.sl b).args[i]?=some y→∃s2 e,(aP AP).p 391 [s'.pv,x.pv,y.pv]=some [s2.pv,vI e]∧UR n M S s' s2 e) :
   ∃s' e,(aP AP).p 391 [s.pv,a.pv,b.pv]=some [s'.pv,vI e]∧UR n M S s s' e:=by
 have hl:=I.len
 have hsm:Sm s.sl:=by unfold Sm;omega
 obtain ⟨r2,k2,_,_,_⟩:=c355 hsm I.ok (m:=200) (by omega) hb
 have k3:=c386 hsm (t:=a)
 have k4:=c386 hsm (t:=b)
 have xf:=rG I.Jn (t:=a)
 have yf:=rG I.Jn (t:=b)
 have xO:(jU s.sl a).Ok:=kL I.ok ha
 have yO:(jU s.sl b).Ok:=kL I.ok hb
 have xo:∀w,gS (jU s.sl a) w→w∈S:=jW I.lC oa
 have yo:∀w,gS (jU s.sl b) w→w∈S:=jW I.lC ob
 change (aP AP).p 386 [s.pv,a.pv]=some [(jU s.sl a).pv] at k3
 change (aP AP).p 386 [s.pv,b.pv]=some [(jU s.sl b).pv] at k4
 have xw:(jU s.sl a).Kw:=nr I.wf wa
 have yw:(jU s.sl b).Kw:=nr I.wf wb
 generalize jU s.sl a=x at *
 generalize jU s.sl b=y at *
 have k5:=c396 (s:=s) (t:=x)
 have k6:=c396 (s:=s) (t:=y)
 simp at k1 k2 k3 k4
 by_cases h1:200<r1
 · refine ⟨s,15,?_,by intro h;cases h⟩
   have h1':(200:Int)<r1:=by omega
   rw [aq (af:=g391) rfl rfl (by decide)]
   simp [g391,k1,h1']
 · have h1':¬(200:Int)<r1:=by omega
   have H:=H (by omega)
   by_cases h2:200<r2
   · refine ⟨s,15,?_,by intro h;cases h⟩
     have h2':(200:Int)<r2:=by omega
     rw [aq (af:=g391) rfl rfl (by decide)]
     simp [g391,k1,k2,h1',h2']
   · have h2':¬(200:Int)<r2:=by omega
     cases sx:lQ s.sl x with
     | true=>
       obtain ⟨xk,i,xi,hi⟩:=mq sx
       have fi:¬og s.sl (i:Int):=by rw [←xi];exact iO xk xf
       rw [sx] at k5
       cases sy:lQ s.sl y with
       | true=>
         obtain ⟨yk,j,yj,hj⟩:=mq sy
         have fj:¬og s.sl (j:Int):=by rw [←yj];exact iO yk yf
         rw [sy] at k6
         obtain ⟨s',c,J⟩:=c397 I hn hM xi yj (by omega) (by omega) fi fj (by rw [←xi];exact xo _ (.var xk)) (by rw [←yj];exact yo _ (.var yk))
         refine ⟨s',0,?_,fun _=>J⟩
         simp at k5 k6 c
         rw [aq (af:=g391) rfl rfl (by decide)]
         simp [g391,k1,k2,k3,k4,k5,k6,h1',h2',c]
       | false=>
         rw [sy] at k6
         obtain ⟨s',e,c,J⟩:=c398 I hn hM hf hS0 (by omega) fi yO yw yo
         refine ⟨s',e,?_,J⟩
         simp [xi] at k3 k5 k6 c
         rw [aq (af:=g391) rfl rfl (by decide)]
         simp [g391,k1,k2,k3,k4,k5,k6,h1',h2',xi,c]
     | false=>
       rw [sx] at k5
       cases sy:lQ s.sl y with
       | true=>
         obtain ⟨yk,j,yj,hj⟩:=mq sy
         have fj:¬og s.sl (j:Int):=by rw [←yj];exact iO yk yf
         rw [sy] at k6
         obtain ⟨s',e,c,J⟩:=c398 I hn hM hf hS0 (by omega) fj xO xw xo
         refine ⟨s',e,?_,J⟩
         simp [yj] at k4 k5 k6 c
         rw [aq (af:=g391) rfl rfl (by decide)]
         simp [g391,k1,k2,k3,k4,k5,k6,h1',h2',yj,c]
       | false=>
         rw [sy] at k6
         simp at k5 k6
         by_cases q:x.kind=y.kind∧x.name=y.name∧x.id=y.id∧x.home=y.home∧x.args.length=y.args.length
         · obtain ⟨q1,q2,q3,q4,q5⟩:=q
           obtain ⟨s2,e2,i2,eq,U⟩:=PG xO q5 H _ 0 rfl (by omega) s 0 (fun _=>⟨I,.inl rfl⟩)
           refine ⟨s2,e2,?_,U⟩
           rw [g391L0e] at eq
           simp [sC,tC,zS] at eq
           rw [aq (af:=g391) rfl rfl (by decide)]
           simp [g391,k1,k2,k3,k4,k5,k6,h1',h2']
           simp only [q1,q2,q3,q4,q5] at *
           simp [g391L0e,eq]
         · refine ⟨s,11,?_,by intro h;cases h⟩
           rw [aq (af:=g391) rfl rfl (by decide)]
           by_cases q1:x.kind=y.kind
           · have p1:=eq_true q1
             by_cases q2:x.name=y.name
             · have p2:=eq_true q2
               by_cases q3:x.id=y.id
               · have p3:=eq_true q3
                 by_cases q4:x.home=y.home
                 · have p4:=eq_true q4
                   have q5:¬x.args.length=y.args.length:=fun e=>q ⟨q1,q2,q3,q4,e⟩
                   have q6:¬(x.args.length:Int)=y.args.length:=by omega
                   clear q q1 q2 q3 q4
                   simp [g391,k1,k2,k3,k4,k5,k6,h1',h2',p1,p2,p3,p4,q5,q6]
                 · clear q q1 q2 q3
                   simp [g391,k1,k2,k3,k4,k5,k6,h1',h2',p1,p2,p3,q4]
               · clear q q1 q2
                 simp [g391,k1,k2,k3,k4,k5,k6,h1',h2',p1,p2,q3]
             · clear q q1
               simp [g391,k1,k2,k3,k4,k5,k6,h1',h2',p1,q2]
           · simp [g391,k1,k2,k3,k4,k5,k6,h1',h2',q1]
theorem pS {S:List Int} {t:Ty} (hw:t.Kw) (h:∀w,gS t w→w∈S):∀z∈t.args,∀w,gS z w→w∈S:=by
 intro z hz w ho
 by_cases k:t.kind=1
 · rw [hw.var k] at hz;cases hz
 · exact h w (.arg k hz ho)
def NT (n M:Nat) (S:List Int) (s:dK):Prop:=∀a b:Ty,a.Ok→b.Ok→a.Kw→b.Kw→(∀w,gS a w→w∈S)→(∀w,gS b w→w∈S)→∃s2 e,(aP AP).p 391 [s.pv,a.pv,b.pv]=some [s2.pv,vI e]∧UR n M S s s2 e
theorem c391r {n M:Nat} {S:List Int} {s:dK} (I:Inv n M S s) (hn:n≤1000000) (hM:M≤100000000) (hf:S.length<1099511627776) (hS0:∀w∈S,0≤w)
   (IH:∀s':dK,ub s'.sl<ub s.sl→Inv n M S s'→NT n M S s') (r:Nat) :
   ∀a b:Ty,Tr s.sl a r→a.Ok→b.Ok→a.Kw→b.Kw→(∀w,gS a w→w∈S)→(∀w,gS b w→w∈S)→∃s2 e,(aP AP).p 391 [s.pv,a.pv,b.pv]=some [s2.pv,vI e]∧UR n M S s s2 e:=by
 induction r using Nat.strongRecOn with
 | ind r ih=>
   intro a b ht ha hb wa wb oa ob
   have hl:=I.len
   have hsm:Sm s.sl:=by unfold Sm;omega
   obtain ⟨r1,k1,_,_,_⟩:=c355 hsm I.ok (m:=200) (by omega) ha
   obtain ⟨ns,hT,hr⟩:=ht.inv
   have xO:(jU s.sl a).Ok:=kL I.ok ha
   have yO:(jU s.sl b).Ok:=kL I.ok hb
   have xw:(jU s.sl a).Kw:=nr I.wf wa
   have yw:(jU s.sl b).Kw:=nr I.wf wb
   have xo:=pS xw (jW I.lC oa:∀w,gS (jU s.sl a) w→w∈S)
   have yo:=pS yw (jW I.lC ob:∀w,gS (jU s.sl b) w→w∈S)
   refine PH I hn hM hf hS0 ha hb wa wb oa ob k1 ?_
   intro _ s' I' hu i x y hx hy
   have hi:i<(jU s.sl a).args.length:=by obtain ⟨h,_⟩:=List.getElem?_eq_some_iff.1 hx;exact h
   have mx:=bm hx
   have my:=bm hy
   rcases hu with rfl | hu
   · obtain ⟨m,hm⟩:=bp (l:=ns) (i:=i) (by rw [hT.1];exact hi)
     have:=uP hm
     exact ih m (by omega) x y (hT.2 i x m hx hm) (xO.fM x mx) (yO.fM y my) (xw.fM x mx) (yw.fM y my) (xo x mx) (yo y my)
   · exact IH s' hu I' x y (xO.fM x mx) (yO.fM y my) (xw.fM x mx) (yw.fM y my) (xo x mx) (yo y my)
theorem c391 {n M:Nat} {S:List Int} (hn:n≤1000000) (hM:M≤100000000) (hf:S.length<1099511627776) (hS0:∀w∈S,0≤w) (u:Nat):∀s:dK,ub s.sl=u→Inv n M S s→NT n M S s:=by
 induction u using Nat.strongRecOn with
 | ind u IH=>
   intro s hu I a b ha hb wa wb oa ob
   have hl:=I.len
   have hsm:Sm s.sl:=by unfold Sm;omega
   have IH':∀s':dK,ub s'.sl<ub s.sl→Inv n M S s'→NT n M S s':=fun s' h I'=>IH _ (by omega) s' rfl I'
   obtain ⟨r1,k1,_,_,ht⟩:=c355 hsm I.ok (m:=200) (by omega) ha
   have xO:(jU s.sl a).Ok:=kL I.ok ha
   have yO:(jU s.sl b).Ok:=kL I.ok hb
   have xw:(jU s.sl a).Kw:=nr I.wf wa
   have yw:(jU s.sl b).Kw:=nr I.wf wb
   have xo:=pS xw (jW I.lC oa:∀w,gS (jU s.sl a) w→w∈S)
   have yo:=pS yw (jW I.lC ob:∀w,gS (jU s.sl b) w→w∈S)
   refine PH I hn hM hf hS0 ha hb wa wb oa ob k1 ?_
   intro h200 s' I' hu i x y hx hy
   have hi:i<(jU s.sl a).args.length:=by obtain ⟨h,_⟩:=List.getElem?_eq_some_iff.1 hx;exact h
   have mx:=bm hx
   have my:=bm hy
   rcases hu with rfl | hu
   · obtain ⟨ns,hT,hr⟩:=(ht h200).inv
     obtain ⟨m,hm⟩:=bp (l:=ns) (i:=i) (by rw [hT.1];exact hi)
     exact c391r I' hn hM hf hS0 IH' m x y (hT.2 i x m hx hm) (xO.fM x mx) (yO.fM y my) (xw.fM x mx) (yw.fM y my) (xo x mx) (yo y my)
   · exact IH' s' hu I' x y (xO.fM x mx) (yO.fM y my) (xw.fM x mx) (yw.fM y my) (xo x mx) (yo y my)
end Go.Ab.Lw
namespace Go.Ab.Lw
open Ev
structure Fit (S:List Int) (t:Ty):Prop where
 ok:t.Ok
 wf:t.Kw
 lC:∀w,gS t w→w∈S
structure QQ (n M:Nat) (S:List Int):Prop where
 n:n≤1000000
 m:M≤100000000
 FH:S.length<1099511627776
 nn:∀w∈S,0≤w
theorem c385 {n M:Nat} {S:List Int} (N:QQ n M S) {s:dK} (I:Inv n M S s) {a b:Ty} (fa:Fit S a) (fb:Fit S b):∃s' e,(aP AP).p 385 [s.pv,a.pv,b.pv]=some [s'.pv,vI e]∧Inv n M S s':=by
 obtain ⟨s',e,c,U⟩:=c391 N.n N.m N.FH N.nn _ s rfl I a b fa.ok fb.ok fa.wf fb.wf fa.lC fb.lC
 simp at c
 by_cases he:e=0
 · refine ⟨s',0,?_,(U he).1⟩
   subst he
   rw [aq (af:=g385) rfl rfl (by decide)]
   simp [g385,c]
 · refine ⟨s,e,?_,I⟩
   rw [aq (af:=g385) rfl rfl (by decide)]
   simp [g385,c,he]
end Go.Ab.Lw
namespace Go.Ab.Lw
open Ev
theorem Jq {n M:Nat} {S:List Int} {s:dK} (I:Inv n M S s) {i:Nat} {o x:Sl} (ho:s.sl[i]?=some o) (hb:x.bd=o.bd) (ht:x.ty=o.ty):Inv n (M+1) S (gw s i o x) where
 len:=by rw [cq,List.length_set,I.len]
 JZ:=by rw [lD,cq,pR ho hb];have:=I.JZ;omega
 ok:=by
   intro y hy
   rw [cq] at hy
   rcases mem_set hy with rfl | hy
   · rw [ht];exact I.ok o (bm ho)
   · exact I.ok y hy
 lC:=by
   intro y hy
   rw [cq] at hy
   rcases mem_set hy with rfl | hy
   · rw [ht];exact I.lC o (bm ho)
   · exact I.lC y hy
 Jn:=by rw [cq];exact xL I.Jn ho hb ht
 wf:=by
   intro y hy
   rw [cq] at hy
   rcases mem_set hy with rfl | hy
   · rw [ht];exact I.wf o (bm ho)
   · exact I.wf y hy
theorem Inv.gB {n M M':Nat} {S S':List Int} {s:dK} (I:Inv n M S s) (h:M≤M') (hS:∀w∈S,w∈S'):Inv n M' S' s:=⟨I.len,by have:=I.JZ;omega,I.ok,fun x hx w ho=>hS w (I.lC x hx w ho),I.Jn,I.wf⟩
theorem c394 {n M:Nat} {S:List Int} (N:QQ n M S) (hS:∀w∈S,w<n) {s:dK} (I:Inv n M S s) {t:Ty} (ft:Fit S t):∃s',(aP AP).p 394 [s.pv,t.pv]=some [s'.pv]∧Inv n (M+1) S s':=by
 have hl:=I.len
 have hn:=N.n
 have hM:=N.m
 have hsm:Sm s.sl:=by unfold Sm;omega
 have k3:=c386 hsm (t:=t)
 have xo:∀w,gS (wk s.sl (s.sl.length+1) t) w→w∈S:=jW I.lC ft.lC
 generalize wk s.sl (s.sl.length+1) t=x at *
 by_cases k:x.kind=1
 · have ho:=xo _ (.var k)
   have h0:=N.nn _ ho
   have h1:=hS _ ho
   obtain ⟨i,hi⟩:∃i:Nat,x.id=i:=⟨x.id.toNat,by omega⟩
   have hil:i<s.sl.length:=by omega
   obtain ⟨o,hoo⟩:=bp hil
   have c:=c393 I.J0 hn (by omega) hoo ⟨o.bd,o.ty,o.home,true⟩
   refine ⟨_,?_,Jq I hoo (x:=⟨o.bd,o.ty,o.home,true⟩) rfl rfl⟩
   generalize gw s i o ⟨o.bd,o.ty,o.home,true⟩=s1 at *
   simp [k,hi] at k3
   simp at c
   rw [aq (af:=g394) rfl rfl (by decide)]
   simp (disch:=omega) [-getElem?_pos,g394,k3,hil,hoo,c]
 · refine ⟨s,?_,I.gB (by omega) (fun _ h=>h)⟩
   simp at k3
   rw [aq (af:=g394) rfl rfl (by decide)]
   simp [g394,k3,k]
def ei (n:Nat):List Int:=(List.range n).map fun k:Nat=>(k:Int)
theorem er {n:Nat} {w:Int}:w∈ei n↔0≤w∧w<n:=by
 simp only [ei,List.mem_map,List.mem_range]
 constructor
 · rintro ⟨k,h,rfl⟩;omega
 · intro h;exact ⟨w.toNat,by omega,by omega⟩
theorem NU {n M:Nat} (hn:n≤1000000) (hM:M≤100000000):QQ n M (ei n):=⟨hn,hM,by simp [ei];omega,fun w h=>(er.1 h).1⟩
theorem te {n M:Nat} {s:dK} (I:Inv n M (ei n) s) (home:Int) (b:Bool) {M':Nat} (hM:M+ub s.sl+n+4≤M'):Inv (n+1) M' (ei (n+1)) (di s home b) where
 len:=by simp [di,I.len]
 JZ:=by
   have:=I.JZ
   have hu:ub (di s home b).sl=ub s.sl+1:=by simp [di,ub,List.countP_append]
   have ht:(di s home b).tr.length=s.tr.length+1:=by simp [di]
   rw [hu,ht]
   have:(n+1+2)*(ub s.sl+1)=(n+2)*ub s.sl+ub s.sl+n+3:=by rw [Nat.mul_add,Nat.add_right_comm n 1 2,Nat.add_mul (n+2) 1];omega
   omega
 ok:=by
   intro x hx
   simp [di] at hx
   rcases hx with hx | rfl
   · exact I.ok x hx
   · exact cO rfl
 lC:=by
   intro x hx w ho
   simp [di] at hx
   rcases hx with hx | rfl
   · have:=er.1 (I.lC x hx w ho);exact er.2 (by omega)
   · cases ho with
     | var q=>simp [bN] at q
     | arg _ ha _=>simp [bN] at ha
 Jn:=I8 I.Jn rfl
 wf:=by
   intro x hx
   simp [di] at hx
   rcases hx with hx | rfl
   · exact I.wf x hx
   · exact ⟨by simp [bN],by simp [bN]⟩
end Go.Ab.Lw
namespace Go.Ab.Lw
open Ev
mutual
def Ty.lR (l:List bS):Ty→Ty
 | ⟨k,n,i,h,as⟩=>if k=5∧0≤ng l n then dd (ng l n) else ⟨k,n,i,h,Ty.Jr l as⟩
def Ty.Jr (l:List bS):List Ty→List Ty
 | []=>[]
 | a::r=>a.lR l::Ty.Jr l r
end
theorem Ty.x5 (l:List bS):∀as:List Ty,Ty.Jr l as=as.map (Ty.lR l)
 | []=>by simp [Ty.Jr]
 | a::r=>by simp [Ty.Jr,Ty.x5 l r]
theorem Ty.BF (l:List bS) (t:Ty):t.lR l=if t.kind=5∧0≤ng l t.name then dd (ng l t.name) else ⟨t.kind,t.name,t.id,t.home,t.args.map (Ty.lR l)⟩:=by
 cases t;simp only [Ty.lR,Ty.x5]
theorem PI {l:List bS} {t:Ty} (hS:Sm t.args) (h:∀x∈t.args,(aP AP).p 198 [x.pv,.aD (l.map .str)]=some [(x.lR l).pv]):∀(n i:Nat),t.args.length-i=n→i≤t.args.length→∀acc:List Ty,acc=(t.args.take i).map (Ty.lR l) →
   cl AP g198L0 ⟨[(1,.pv (.aD (l.map .str))),(2,.az 2 0),(4,.az 4 0),(6,.az 6 0),(7,.pv (vI i))],
     [(2,NA t),(4,[.pv (vI 0),.pv (.str []),.pv (vI 0),.pv (vI 0),.own [] 0]),(6,[.pv (vI t.kind),.pv (.str t.name),.pv (vI t.id),.pv (vI t.home),.own (acc.map Ty.pv) 1])],[],[0,acc.length]⟩ =
     some (.exit 0,⟨[(1,.pv (.aD (l.map .str))),(2,.az 2 0),(4,.az 4 0),(6,.az 6 0),(7,.pv (vI t.args.length)),(26,.pv (.bool false))],
     [(2,NA t),(4,[.pv (vI 0),.pv (.str []),.pv (vI 0),.pv (vI 0),.own [] 0]),(6,[.pv (vI t.kind),.pv (.str t.name),.pv (vI t.id),.pv (vI t.home),.own ((t.args.map (Ty.lR l)).map Ty.pv) 1])],[],[0,t.args.length]⟩)
 | 0,i,hn,hi,acc,ha=>by
   have:i=t.args.length:=by omega
   subst this
   subst ha
   rw [g198L0e]
   simp [g198B0]
 | n+1,i,hn,hi,acc,ha=>by
   have hi:i<t.args.length:=by omega
   obtain ⟨x,hx⟩:=bp hi
   unfold Sm at hS
   have hb:(acc.length+1)*64≤140737488355328:=by subst ha;simp;omega
   have hc:=h x (bm hx)
   have ih:=PI hS h n (i+1) (by omega) (by omega) (acc++[x.lR l]) (by rw [List.take_add_one,hx,ha];simp)
   rw [g198L0e] at ih ⊢
   simp at ih hc
   simp (disch:=omega) [-getElem?_pos,g198B0,hx,hi,hc,hb,au]
   rw [g198L0e]
   simp [ih]
theorem c198 {l:List bS} (hl:Sm l) {t:Ty} (hO:t.Ok) (hC:t.Cw):(aP AP).p 198 [t.pv,.aD (l.map .str)]=some [(t.lR l).pv]:=by
 revert hO hC
 refine Ty.eE (p:=fun t=>t.Ok→t.Cw→(aP AP).p 198 [t.pv,.aD (l.map .str)]=some [(t.lR l).pv]) ?_ t
 intro t ih hO hC
 have k1:=c216 hl (y:=t.name)
 have k2:=c72 (n:=ng l t.name)
 have h:=PI hO.sm (fun x hx=>ih x hx (hO.fM x hx) (hC.fM x hx)) t.args.length 0 (by omega) (by omega) [] (by simp)
 rw [aq (af:=g198) rfl rfl (by decide),Ty.BF]
 rw [g198L0e] at h
 simp at k2 h
 by_cases e1:t.kind=5
 · have ea:=hC.bare (by rw [e1];decide)
   by_cases e2:0≤ng l t.name
   · simp [g198,k1,e1,e2,k2,dd]
   · simp [g198,k1,e1,e2,ea]
 · simp [g198,e1,g198L0e,h]
end Go.Ab.Lw
namespace Go.Ab.Lw
open Ev
def cv (out:List bS) (x:bS):List bS:=if x∈out then out else out++[x]
structure gn (S out:List bS):Prop where
 nodup:out.Nodup
 sub:∀x∈out,x∈S
 FH:S.length<1099511627776
theorem gn.len {S out:List bS} (h:gn S out):Sm out:=by
 have:=fK h.nodup h.sub
 have:=h.FH
 unfold Sm;omega
theorem gn.put {S out:List bS} (h:gn S out) {x:bS} (hx:x∈S):gn S (cv out x):=by
 unfold cv
 split
 · exact h
 · rename_i e
   refine ⟨?_,?_,h.FH⟩
   · rw [List.nodup_append]
     refine ⟨h.nodup,by simp,?_⟩
     intro a ha b hb
     simp at hb
     subst hb
     intro e';subst e';exact e ha
   · intro y hy
     simp at hy
     rcases hy with hy | rfl
     · exact h.sub y hy
     · exact hx
theorem gn.fold {S:List bS}:∀{l:List bS} {out:List bS},gn S out→(∀x∈l,x∈S)→gn S (l.foldl cv out)
 | [],_,h,_=>h
 | x::r,out,h,hx=>by
   simp only [List.foldl_cons]
   exact gn.fold (h.put (hx x (by simp))) (fun y hy=>hx y (by simp [hy]))
theorem oo:∀{l:List bS} {out:List bS} {x:bS},x∈out→x∈l.foldl cv out
 | [],_,_,h=>h
 | y::r,out,x,h=>by
   simp only [List.foldl_cons]
   apply oo
   unfold cv
   split
   · exact h
   · simp [h]
theorem rH:∀(l acc out:List bS),(l.foldl cv acc).foldl cv out=l.foldl cv (acc.foldl cv out)
 | [],_,_=>rfl
 | x::r,acc,out=>by
   simp only [List.foldl_cons]
   rw [rH r]
   congr 1
   have key:∀(l out:List bS) (y:bS),y∈l→y∈l.foldl cv out:=by
     intro l
     induction l with
     | nil=>intro out y h;simp at h
     | cons a l ih=>
       intro out y h
       simp only [List.foldl_cons]
       simp only [List.mem_cons] at h
       rcases h with rfl | h
       · apply oo;unfold cv;split<;>simp_all
       · exact ih _ _ h
   by_cases e:x∈acc
   · have h1:∀(o:List bS),x∈o→cv o x=o:=fun o h=>by unfold cv;rw [if_pos h]
     rw [h1 _ e,h1 _ (key _ _ _ e)]
   · have h1:cv acc x=acc++[x]:=by unfold cv;rw [if_neg e]
     rw [h1,List.foldl_append];rfl
mutual
def Ty.d0:Ty→List bS
 | ⟨k,n,_,_,as⟩=>(if k=5 then [n] else [])++Ty.x6 as
def Ty.x6:List Ty→List bS
 | []=>[]
 | a::r=>a.d0++Ty.x6 r
end
theorem Ty.tf:∀l:List Ty,Ty.x6 l=l.flatMap Ty.d0
 | []=>by simp [Ty.x6]
 | a::r=>by simp [Ty.x6,Ty.tf r]
theorem Ty.pT (t:Ty):t.d0=(if t.kind=5 then [t.name] else [])++t.args.flatMap Ty.d0:=by
 cases t;simp only [Ty.d0,Ty.tf]
def cC (t:Ty):List bS:=t.d0.foldl cv []
theorem PJ {S:List bS} {t:Ty} (hS:Sm t.args) (h:∀x∈t.args,∀out,gn S out→(aP AP).i 222 [.own (out.map .str) 0,.pv x.pv] [] [out.length]=some ([.own ((x.d0.foldl cv out).map .str) 0],[],[(x.d0.foldl cv out).length]))
   (hk:∀y∈t.args.flatMap Ty.d0,y∈S):∀(n i:Nat),t.args.length-i=n→i≤t.args.length→∀out,gn S out →
   cl AP g222L0 ⟨[(0,.own (out.map .str) 0),(3,.az 3 0),(5,.pv (vI i))],[(3,NA t)],[],[out.length]⟩ =
     some (.exit 0,⟨[(0,.own ((((t.args.drop i).flatMap Ty.d0).foldl cv out).map .str) 0),(3,.az 3 0),(5,.pv (vI t.args.length)),(25,.pv (.bool false))],[(3,NA t)],[],[(((t.args.drop i).flatMap Ty.d0).foldl cv out).length]⟩)
 | 0,i,hn,hi,out,hc=>by
   have:i=t.args.length:=by omega
   subst this
   rw [g222L0e]
   simp [g222B0]
 | n+1,i,hn,hi,out,hc=>by
   have hi:i<t.args.length:=by omega
   obtain ⟨x,hx⟩:=bp hi
   unfold Sm at hS
   have hkx:∀y∈x.d0,y∈S:=fun y hy=>hk y (by simp only [List.mem_flatMap];exact ⟨x,bm hx,hy⟩)
   have k:=h x (bm hx) out hc
   have ih:=PJ (t:=t) (by unfold Sm;exact hS) h hk n (i+1) (by omega) (by omega) _ (hc.fold hkx)
   rw [g222L0e] at ih ⊢
   rw [bL hx]
   simp at k ih
   simp (disch:=omega) [-getElem?_pos,g222B0,hx,hi,k,au]
   rw [g222L0e]
   simp [ih]
theorem c222 {S:List bS} {t:Ty} (hO:t.Ok) (hk:∀y∈t.d0,y∈S):∀out,gn S out →
   (aP AP).i 222 [.own (out.map .str) 0,.pv t.pv] [] [out.length]=some ([.own ((t.d0.foldl cv out).map .str) 0],[],[(t.d0.foldl cv out).length]):=by
 revert hO hk
 refine Ty.eE (p:=fun t=>t.Ok→(∀y∈t.d0,y∈S)→∀out,gn S out →
   (aP AP).i 222 [.own (out.map .str) 0,.pv t.pv] [] [out.length]=some ([.own ((t.d0.foldl cv out).map .str) 0],[],[(t.d0.foldl cv out).length])) ?_ t
 intro t ih hO hk out hc
 rw [Ty.pT] at hk ⊢
 have hkb:∀y∈(if t.kind=5 then [t.name] else []),y∈S:=fun y hy=>hk y (List.mem_append_left _ hy)
 have hka:∀y∈t.args.flatMap Ty.d0,y∈S:=fun y hy=>hk y (List.mem_append_right _ hy)
 have h:=PJ (S:=S) hO.sm (fun x hx out hc=>ih x hx (hO.fM x hx) (fun y hy=>hka y (by simp only [List.mem_flatMap];exact ⟨x,hx,hy⟩)) out hc) hka _ 0 rfl (by omega) _ (hc.fold hkb)
 have hl:=hc.len
 have k:=c216 hl (y:=t.name)
 have k2:=IX (s:=out) (y:=t.name)
 unfold Sm at hl
 have hb:(out.length+1)*16≤140737488355328:=by omega
 have hh:bH 1 (out.map PV.str)=true:=by cases out<;>simp
 rw [aK (af:=g222) rfl (by simp [g222]),List.foldl_append]
 rw [g222L0e] at h
 by_cases e1:t.kind=5
 · by_cases e2:t.name∈out
   · simp [e2] at k2
     have k3:¬ng out t.name<0:=by omega
     simp [e1,cv,e2] at h
     simp [g222,e1,k,k3,g222L0e,h,cv,e2]
   · simp [e2] at k2
     simp [e1,cv,e2] at h
     simp [g222,e1,k,k2,g222L0e,h,cv,e2,hb,hh]
 · simp [e1] at h
   simp [g222,e1,g222L0e,h]
theorem c196 {S:List bS} (hS:S.length<1099511627776) {t:Ty} (hO:t.Ok) (hk:∀y∈t.d0,y∈S):(aP AP).p 196 [t.pv]=some [.aD ((cC t).map .str)]:=by
 have k:=c222 hO hk [] ⟨by simp,by simp,hS⟩
 rw [aq (af:=g196) rfl rfl (by decide)]
 unfold cC
 simp at k
 simp [g196,k]
theorem Mn {t:Ty} {l:List bS} (hl:Sm l) {S:List bS} (hs:∀x∈l,x∈S) {i:Nat}:∀(n k:Nat),l.length-k=n→k≤l.length→∀out,gn S out →
   cl AP g195L1 ⟨[(3,.own (out.map .str) 0),(17,.pv (.aD (t.args.map Ty.pv))),(18,.pv (vI t.args.length)),(19,.pv (vI i)),(24,.pv (.aD (l.map .str))),(25,.pv (vI l.length)),(26,.pv (vI k))],[],[],[out.length]⟩ =
     some (.exit 2,⟨[(3,.own (((l.drop k).foldl cv out).map .str) 0),(17,.pv (.aD (t.args.map Ty.pv))),(18,.pv (vI t.args.length)),(19,.pv (vI i)),(24,.pv (.aD (l.map .str))),(25,.pv (vI l.length)),(26,.pv (vI l.length)),(27,.pv (.bool false))],[],[],[((l.drop k).foldl cv out).length]⟩)
 | 0,k,hn,hk,out,hc=>by
   have:k=l.length:=by omega
   subst this
   rw [g195L1e]
   simp [g195B1]
 | n+1,k,hn,hk,out,hc=>by
   have hk:k<l.length:=by omega
   obtain ⟨x,hx⟩:=bp hk
   have hcl:=hc.len
   have c:=c214 hcl (y:=x)
   unfold Sm at hl hcl
   have hb:(out.length+1)*16≤140737488355328:=by omega
   have hh:bH 1 (out.map PV.str)=true:=by cases out<;>simp
   have ih:=Mn (t:=t) (by unfold Sm;exact hl) hs (i:=i) n (k+1) (by omega) (by omega) _ (hc.put (hs x (bm hx)))
   rw [g195L1e] at ih ⊢
   rw [bL hx]
   by_cases e:x∈out
   · rw [decide_eq_true e] at c
     simp [cv,e] at ih
     simp (disch:=omega) [-getElem?_pos,g195B1,hx,hk,c,cv,e,au]
     rw [g195L1e]
     simp [ih]
   · rw [decide_eq_false e] at c
     simp [cv,e] at ih
     simp (disch:=omega) [-getElem?_pos,g195B1,hx,hk,c,cv,e,au,hb,hh]
     rw [g195L1e]
     simp [ih]
theorem PK {S:List bS} (hf:S.length<1099511627776) {t:Ty} (hS:Sm t.args) (h:∀x∈t.args,(aP AP).p 195 [x.pv]=some [.aD ((cC x).map .str)])
   (hk:∀y∈t.args.flatMap Ty.d0,y∈S):∀(n i:Nat),t.args.length-i=n→i≤t.args.length→∀out,gn S out →
   cl AP g195L0 ⟨[(3,.own (out.map .str) 0),(17,.pv (.aD (t.args.map Ty.pv))),(18,.pv (vI t.args.length)),(19,.pv (vI i))],[],[],[out.length]⟩ =
     some (.exit 0,⟨[(3,.own ((((t.args.drop i).flatMap Ty.d0).foldl cv out).map .str) 0),(17,.pv (.aD (t.args.map Ty.pv))),(18,.pv (vI t.args.length)),(19,.pv (vI t.args.length)),(20,.pv (.bool false))],[],[],[(((t.args.drop i).flatMap Ty.d0).foldl cv out).length]⟩)
 | 0,i,hn,hi,out,hc=>by
   have:i=t.args.length:=by omega
   subst this
   rw [g195L0e]
   simp [g195B0]
 | n+1,i,hn,hi,out,hc=>by
   have hi:i<t.args.length:=by omega
   obtain ⟨x,hx⟩:=bp hi
   unfold Sm at hS
   have hkx:∀y∈x.d0,y∈S:=fun y hy=>hk y (by simp only [List.mem_flatMap];exact ⟨x,bm hx,hy⟩)
   have k:=h x (bm hx)
   have hcx:gn S (cC x):=gn.fold (⟨by simp,by simp,hf⟩:gn S []) hkx
   have k2:=Mn (t:=t) hcx.len hcx.sub (i:=i) _ 0 rfl (by omega) out hc
   have ef:(cC x).foldl cv out=x.d0.foldl cv out:=rH _ _ _
   rw [List.drop_zero,ef] at k2
   have ih:=PK hf (t:=t) (by unfold Sm;exact hS) h hk n (i+1) (by omega) (by omega) _ (hc.fold hkx)
   rw [g195L0e] at ih ⊢
   rw [g195L1e] at k2
   rw [bL hx]
   simp at k k2 ih
   simp (disch:=omega) [-getElem?_pos,g195B0,hx,hi,k,au]
   rw [g195L1e]
   simp (disch:=omega) [k2,au]
   rw [g195L0e]
   simp [ih]
theorem c195 {S:List bS} (hf:S.length<1099511627776) {t:Ty} (hO:t.Ok) (hC:t.Cw) (hk:∀y∈t.d0,y∈S):(aP AP).p 195 [t.pv]=some [.aD ((cC t).map .str)]:=by
 revert hO hC hk
 refine Ty.eE (p:=fun t=>t.Ok→t.Cw→(∀y∈t.d0,y∈S)→(aP AP).p 195 [t.pv]=some [.aD ((cC t).map .str)]) ?_ t
 intro t ih hO hC hk
 rw [Ty.pT] at hk
 have hka:∀y∈t.args.flatMap Ty.d0,y∈S:=fun y hy=>hk y (List.mem_append_right _ hy)
 have h:=PK hf hO.sm (fun x hx=>ih x hx (hO.fM x hx) (hC.fM x hx) (fun y hy=>hka y (by simp only [List.mem_flatMap];exact ⟨x,hx,hy⟩))) hka _ 0 rfl (by omega) [] ⟨by simp,by simp,hf⟩
 rw [aq (af:=g195) rfl rfl (by decide)]
 unfold cC
 rw [Ty.pT]
 rw [g195L0e] at h
 simp at h
 by_cases e1:t.kind=5
 · have ea:=hC.bare (by rw [e1];decide)
   simp [g195,e1,ea,cv]
 · simp [g195,e1,g195L0e,h]
end Go.Ab.Lw
namespace Go.Ab.Lw
open Ev
abbrev mr:List (List UInt8):=varNames
inductive fC (ds:List Dt):Nat→Ex→Prop
 | var {n:Nat} {s:List UInt8}:s∈mr→fC ds n ⟨1,0,s,0,[],[],bN⟩
 | int {n:Nat} {m:Int}:0≤m→m<4→fC ds n ⟨3,0,[],m,[],[],bN⟩
 | gq {n:Nat} {d:Dt} {c:gR}:d∈ds→c∈d.cons→fC ds n ⟨2,0,c.name,0,[],[],bN⟩
 | gone {n:Nat}:fC ds n ⟨2,0,[71,111,110,101],0,[],[],bN⟩
 | hole {n:Nat}:fC ds n ⟨10,0,[],0,[],[],bN⟩
 | lam {n:Nat} {s:List UInt8} {a:Ex}:s∈mr→fC ds n a→fC ds (n+1) ⟨4,0,s,0,[a],[],bN⟩
 | app {n:Nat} {a b:Ex}:fC ds n a→fC ds n b→fC ds (n+1) ⟨5,0,[],0,[a,b],[],bN⟩
 | PL {n:Nat} {k:Int} {s:List UInt8} {a b:Ex}:k=6∨k=7→s∈mr→fC ds n a→fC ds n b→fC ds (n+1) ⟨k,0,s,0,[a,b],[],bN⟩
 | Q' {n:Nat} {a:Ex} {t:Ty}:fC ds n a→gm (·∈ds) [] 2 t→fC ds (n+1) ⟨9,0,[],0,[a],[],t⟩
 | held {n:Nat} {a:Ex}:fC ds n a→fC ds (n+1) ⟨11,0,[],0,[a],[],bN⟩
 | up {n:Nat} {a:Ex}:fC ds n a→fC ds (n+1) a
 | Mo {n:Nat} {d:Dt} {a:Ex} {as:List Ar}:d∈ds→fC ds n a→as.length=d.cons.length→(∀x∈as,fC ds n x.body)→(∀x∈as,x.pos=0∧∀v∈x.vars,v∈mr) →
     (∀(i:Nat) (c:gR) (x:Ar),d.cons[i]?=some c→as[i]?=some x→x.gq=c.name∧x.vars.length=c.fields.length)→fC ds (n+1) ⟨8,0,[],0,[a],as,bN⟩
end Go.Ab.Lw
namespace Go.Ab.Lw
open Ev
def D8 (d:Dt):Prop:=d.params.length≤8∧0<d.cons.length∧d.cons.length≤8∧∀c∈d.cons,c.fields.length≤8
theorem Js:∀d∈cu,D8 d:=by
 intro d hd
 simp [cu] at hd
 rcases hd with rfl | rfl | rfl | rfl | rfl | rfl | rfl<;>simp [D8]
structure Ra (e:Ex) (C:List AV):Prop where
 len:C.length=11
 leaf:C.all bf=true
 de:∀sh,d8 sh C=some e.cells
 flat:bE.dQ C=true
 g_:fF C=true
def fQ (f:Bool) (l:List PV):AV:=if f then .bB l else .pv (.aD l)
def dZ (fk fa fg:Bool) (e:Ex):List AV:=[.pv (vI e.kind),.pv (vI e.pos),.pv (.str e.name),.pv (vI e.num),fQ fk (e.kids.map Ex.pv),fQ fa (e.bt.map Ar.pv),.pv (vI e.ty.kind),.pv (.str e.ty.name),.pv (vI e.ty.id),.pv (vI e.ty.home),fQ fg (e.ty.args.map Ty.pv)]
theorem dY (fk fa fg:Bool) (e:Ex):Ra e (dZ fk fa fg e):=by
 refine ⟨rfl,?_,?_,?_,?_⟩
 · cases fk<;>cases fa<;>cases fg<;>rfl
 · intro sh
   rw [Ex.bA]
   cases fk<;>cases fa<;>cases fg<;>simp [dZ,fQ]
 · cases fk<;>cases fa<;>cases fg<;>simp [dZ,fQ]
 · cases fk<;>cases fa<;>cases fg<;>simp [dZ,fQ]
end Go.Ab.Lw
namespace Go.Ab.Lw
open Ev
def Rn (pos:Int) (name:bS) (ps:List bS) (cs:List gR):List AV:=[.pv (vI pos),.pv (.str name),.own (ps.map .str) 1,.own (cs.map gR.pv) 2]
@[simp] theorem QR (pos:Int) (name:bS) (ps:List bS) (cs:List gR):Rn pos name ps cs=[.pv (vI pos),.pv (.str name),.own (ps.map .str) 1,.own (cs.map gR.pv) 2]:=rfl
end Go.Ab.Lw
namespace Go.Ab.Lw
open Ev
structure Small (ds:List Dt):Prop where
 num:Sm ds
 par:∀d∈ds,Sm d.params
 gq:∀d∈ds,Sm d.cons
 Ro:Sm (ds.flatMap Dt.cons)
 Qw:∀d∈ds,∀c∈d.cons,Sm c.fields∧(∀x∈c.fields,x.Ok)∧∀x∈c.fields,x.Cw
theorem Lu {l:List Dt} {b:Nat} (h:∀d∈l,d.cons.length≤b):(l.flatMap Dt.cons).length≤l.length*b:=by
 induction l with
 | nil=>simp
 | cons a r ih=>
   have h1:=h a (by simp)
   have h2:=ih (fun x hx=>h x (by simp [hx]))
   simp only [List.flatMap_cons,List.length_append,List.length_cons,Nat.add_mul]
   omega
end Go.Ab.Lw
