import Derived.Test.YtcjggpmnbcfedaaDoorCodeA
import Derived.KernelRfl
/-
  The program's data.
  The makers: what their functions z7.
  The makers: what their functions z7.
  The data declarations that programs are made of: what the reader makes of their text.
  The makers: data declarations, chosen by bits.
  The makers: types and substitutions off the tape.
  Types and substitutions: what replaces variables.
  Types: rebuilding with new leaves.
  Substitutions: composing; equality of types and of substitutions.
  Names, and which types are valid.
  Functions of package slices over any elements.
  Contexts: their entries; looking names up.
  What the pure data of a parameter looks Et.
  Chapter 3: what its laws make; the laws TypesValid and TypesEqual.
  The variables of types, by the program and by the reference.
  Contexts: schemes, adding, hidden entries; what law 19 makes.
  Law 19 makes contexts; the law EnvironLooks.
  The maker of types over any list of data types.
  Correct types in declarations.
  Tokens, by the reference.
  The reader of tokens, by the reference.
  Expressions.
  Raw expressions: what the maker gives.
  The maker of raw expressions.
  Arrays of structs in shared memory: their cells one behind the other.
  Expressions: children, the part at a path, and the names that are bound.
  How many nodes an expression has; expressions whose texts are known.
  Depths of types and expressions.
  Expressions without positions, by the program.
  The reference's store of type variables: what it looks Et, bound variables, walks.
  Scopes: the errors of a case itself, by the reference.
  Scopes: the first error of an expression.
  Chapter 9: what its laws make.
  Chapter 9: the scheme of a constructor.
  Chapter 9: the first error of a list of declarations, by the program.
  The search's reference: heads.
  The maker of raw expressions: cases; all depths.
  Programs without positions: the loop over data types.
  The holes of an expression.
  The holes of an expression behind a change at a hole.
  Depths of types.
  Texts of types, by the program (over any table of functions that knows the package show) and by the reference.
  Texts of expressions: the parts.
  Texts of expressions: all of them.
  The law ShowPrograms.
  Expressions that the maker makes fill holes.
  Expressions are read, by the reference: holes, lambdas, an application.
  Reading expressions, by the reference: the loop over the atoms of an application, and what stops it.
  Reading expressions, by the reference: atoms, and what begins with a keyword.
  Reading expressions, by the reference: let and let rec, annotations.
  Reading types, by the reference.
  Reading cases, by the reference.
  The tokens of a type's text are read as this type, by the reference.
  The tokens of an expression's text are read as this expression, up to positions, by the reference.
  The tokens of an expression's text are read as this expression, up to positions, by the reference.
  A program of one binding is read, by the reference.
  Texts and their tokens: scanning of general texts, by the reference.
  The words of texts; texts of types and their tokens.
  Texts of made expressions and their tokens.
  Expressions that are equal apart from positions, by the reference.
  Made expressions: bounds, and their texts with tokens.
  What Fs read is neither too deep nor too wide, by the reference.
  Expressions that are not equal apart from positions, by the reference.
  Law 243 (ShowReads).
-/
set_option linter.unusedVariables false
set_option linter.unusedSimpArgs false
set_option linter.unnecessarySimpa false
set_option maxRecDepth 100000
set_option maxHeartbeats 8000000
namespace Go.Ab.Lw
structure Ty where
 kind:Int
 name:List UInt8
 id:Int
 home:Int
 args:List Ty
 deriving Inhabited
noncomputable instance:DecidableEq Ty:=fun _ _=>Classical.propDecidable _
mutual
def Ty.pv:Ty→PV
 | ⟨k,n,i,h,as⟩=>.agg [.int .i64 k,.str n,.int .i64 i,.int .i64 h,.aE (Ty.bZ as)]
def Ty.bZ:List Ty→List PV
 | []=>[]
 | a::r=>a.pv::Ty.bZ r
end
theorem Ty.j0:∀l:List Ty,Ty.bZ l=l.map Ty.pv
 | []=>by simp [Ty.bZ]
 | a::r=>by simp [Ty.bZ,Ty.j0 r]
@[simp] theorem Ty.iH (t:Ty):t.pv=.agg [.int .i64 t.kind,.str t.name,.int .i64 t.id,.int .i64 t.home,.aE (t.args.map Ty.pv)]:=by
 cases t;simp only [Ty.pv,Ty.j0]
theorem Ty.sK {p:Ty→Prop} (h:∀t:Ty,(∀x∈t.args,p x)→p t):∀t,p t
 | ⟨k,n,i,hm,as⟩=>h _ (fun x _hx=>Ty.sK h x)
termination_by t=>SizeOf.sizeOf t
decreasing_by have:=_root_.List.sizeOf_lt_of_mem _hx;simp at *;omega
structure oV where
 pos:Int
 name:List UInt8
 fields:List Ty
 deriving Inhabited
structure Dt where
 pos:Int
 name:List UInt8
 params:List (List UInt8)
 cons:List oV
 deriving Inhabited
def oV.pv (c:oV):PV:=.agg [.int .i64 c.pos,.str c.name,.aE (c.fields.map Ty.pv)]
def Dt.pv (d:Dt):PV:=.agg [.int .i64 d.pos,.str d.name,.aE (d.params.map .str),.aE (d.cons.map oV.pv)]
@[simp] theorem oV.iH (c:oV):c.pv=.agg [.int .i64 c.pos,.str c.name,.aE (c.fields.map Ty.pv)]:=rfl
@[simp] theorem Dt.iH (d:Dt):d.pv=.agg [.int .i64 d.pos,.str d.name,.aE (d.params.map .str),.aE (d.cons.map oV.pv)]:=rfl
structure As where
 id:Int
 ty:Ty
 deriving Inhabited
def As.pv (a:As):PV:=.agg [.int .i64 a.id,.int .i64 a.ty.kind,.str a.ty.name,.int .i64 a.ty.id,.int .i64 a.ty.home,.aE (a.ty.args.map Ty.pv)]
@[simp] theorem As.iH (a:As):a.pv=.agg [.int .i64 a.id,.int .i64 a.ty.kind,.str a.ty.name,.int .i64 a.ty.id,.int .i64 a.ty.home,.aE (a.ty.args.map Ty.pv)]:=rfl
@[simp] theorem As.eta (t:As):As.mk t.id t.ty=t:=rfl
abbrev vI (n:Int):PV:=.int .i64 n
def tp (L:List Int) (i:Int):Sh:=[some [.pv (.aE (L.map vI)),.pv (vI i)]]
@[simp] theorem Hj (L:List Int) (i:Int):tp L i=[some [.pv (.aE (L.map vI)),.pv (vI i)]]:=rfl
def Sm {α:Type} (l:List α):Prop:=l.length<1099511627776
@[simp] theorem GO (n:Nat):((n:Int)<0)↔False:=by simp
@[simp] theorem Gv (n:Nat):((n:Int)+1<0)↔False:=by simp;omega
theorem eg {α:Type} {l:List α} {i:Nat} {x:α} (h:l[i]?=some x):l.drop i=x::l.drop (i+1):=by
 obtain ⟨hi,rfl⟩:=List.getElem?_eq_some_iff.1 h
 exact List.drop_eq_getElem_cons hi
theorem dS {α:Type} {l:List α} {i:Nat} (h:i<l.length):∃x,l[i]?=some x:=⟨_,List.getElem?_eq_getElem h⟩
theorem dm {α:Type} {l:List α} {i:Nat} {x:α} (h:l[i]?=some x):x∈l:=List.mem_of_getElem? h
end Go.Ab.Lw
namespace Go.Ab.Lw
open Ev
theorem c26 {n m:Int} (h1:1≤m) (h2:m<4611686018427387904):∃r,(aD AP).p 26 [vI n,vI m]=some [vI r]∧0≤r∧r<m:=by
 rw [aA (af:=g26) rfl rfl (by decide)]
 have a1:=Int.tmod_lt_of_pos n (show 0<m by omega)
 have a2:=Int.lt_tmod_of_pos n (show 0<m by omega)
 have e1:¬m<1:=by omega
 have e2:¬m=0:=by omega
 by_cases h:n.tmod m<0
 · refine ⟨n.tmod m+m,?_,by omega,by omega⟩
   simp (disch:=omega) [g26,e1,e2,h,aK]
 · refine ⟨n.tmod m,?_,by omega,by omega⟩
   simp [g26,e1,e2,h]
theorem c68 {L:List Int} (hL:Sm L) {i:Nat} (hi:i≤L.length) {n:Int} (h1:1≤n) (h2:n<4611686018427387904) :
   ∃(r:Int) (j:Nat),(aD AP).i 68 [.aJ 0 0,.pv (vI n)] (tp L i) []=some ([.pv (vI r)],tp L j,[])∧0≤r∧r<n∧j≤L.length:=by
 unfold Sm at hL
 rw [az (af:=g68) rfl (by simp [g68])]
 by_cases h:i<L.length
 · obtain ⟨x,hx⟩:=dS h
   obtain ⟨r,e,e1,e2⟩:=c26 (n:=x) h1 h2
   refine ⟨r,i+1,?_,e1,e2,h⟩
   have h':¬L.length≤i:=by omega
   simp (disch:=omega) [-getElem?_pos,g68,h',aK,hx,e]
 · have h':L.length≤i:=by omega
   refine ⟨0,i,?_,by omega,by omega,hi⟩
   simp [g68,h']
theorem c62 {s:List UInt8} {l:List Ty} (h:Sm l):(aD AP).p 62 [.str s,.aE (l.map Ty.pv)]=some [(Ty.mk 4 s 0 0 l).pv]:=by
 unfold Sm at h
 rw [aA (af:=g62) rfl rfl (by decide)]
 cases l with
 | nil=>simp [g62]
 | cons a r=>
   have:(r.length+1)*64≤140737488355328:=by simp at h;omega
   simp [g62,this]
theorem c34:(aD AP).p 34 []=some [(Ty.mk 4 [73,110,116] 0 0 []).pv]:=by
 rw [aA (af:=g34) rfl rfl (by decide)]
 have h:=c62 (s:=[73,110,116]) (l:=[]) (by simp [Sm])
 simp at h
 simp [g34,h]
theorem c69 {a b:Ty}:(aD AP).p 69 [a.pv,b.pv]=some [(Ty.mk 4 [45,62] 0 0 [a,b]).pv]:=by
 rw [aA (af:=g69) rfl rfl (by decide)]
 have h:=c62 (s:=[45,62]) (l:=[a,b]) (by simp [Sm])
 simp at h
 simp [g69,h]
theorem c15 {l:List Int}:(aD AP).p 15 [.aE (l.map vI)]=some [.bool (decide (l.length≤60))]:=by
 rw [aA (af:=g15) rfl rfl (by decide)]
 simp [g15]
 omega
end Go.Ab.Lw
namespace Go.Ab.Lw
open Ev
def i9:Ty:=⟨4,[73,110,116],0,0,[]⟩
end Go.Ab.Lw
namespace Go.Ab.Lw
def F4:List UInt8:=[100,97,116,97,32,66,111,111,108,32,61,32,84,114,117,101,32,124,32,70,97,108,115,101,59,32,100,97,116,97,32,79,112,116,105,111,110,32,97,32,61,32,78,111,110,101,32,124,32,83,111,109,101,32,97,59,32,100,97,116,97,32,76,105,115,116,32,97,32,61,32,78,105,108,32,124,32,67,111,110,115,32,97,32,40,76,105,115,116,32,97,41,59,100,97,116,97,32,80,97,105,114,32,97,32,98,32,61,32,80,97,105,114,32,97,32,98,59,32,100,97,116,97,32,78,97,116,32,61,32,90,101,114,111,32,124,32,83,117,99,99,32,78,97,116,59,32,100,97,116,97,32,70,117,110,32,97,32,98,32,61,32,70,117,110,32,40,97,32,45,62,32,98,41,59,32,100,97,116,97,32,84,119,111,32,97,32,61,32,66,111,116,104,32,97,32,97,32,124,32,79,110,101,32,40,79,112,116,105,111,110,32,97,41,59]
def DY:List PV:=[.aE [.agg [.int .i64 4,.str [100,97,116,97],.int .i64 0],.agg [.int .i64 2,.str [66,111,111,108],.int .i64 5],.agg [.int .i64 5,.str [61],.int .i64 10],.agg [.int .i64 2,.str [84,114,117,101],.int .i64 12],.agg [.int .i64 5,.str [124],.int .i64 17],.agg [.int .i64 2,.str [70,97,108,115,101],.int .i64 19],.agg [.int .i64 5,.str [59],.int .i64 24],.agg [.int .i64 4,.str [100,97,116,97],.int .i64 26],.agg [.int .i64 2,.str [79,112,116,105,111,110],.int .i64 31],.agg [.int .i64 1,.str [97],.int .i64 38],.agg [.int .i64 5,.str [61],.int .i64 40],.agg [.int .i64 2,.str [78,111,110,101],.int .i64 42],.agg [.int .i64 5,.str [124],.int .i64 47],.agg [.int .i64 2,.str [83,111,109,101],.int .i64 49],.agg [.int .i64 1,.str [97],.int .i64 54],.agg [.int .i64 5,.str [59],.int .i64 55],.agg [.int .i64 4,.str [100,97,116,97],.int .i64 57],.agg [.int .i64 2,.str [76,105,115,116],.int .i64 62],.agg [.int .i64 1,.str [97],.int .i64 67],.agg [.int .i64 5,.str [61],.int .i64 69],.agg [.int .i64 2,.str [78,105,108],.int .i64 71],.agg [.int .i64 5,.str [124],.int .i64 75],.agg [.int .i64 2,.str [67,111,110,115],.int .i64 77],.agg [.int .i64 1,.str [97],.int .i64 82],.agg [.int .i64 5,.str [40],.int .i64 84],.agg [.int .i64 2,.str [76,105,115,116],.int .i64 85],.agg [.int .i64 1,.str [97],.int .i64 90],.agg [.int .i64 5,.str [41],.int .i64 91],.agg [.int .i64 5,.str [59],.int .i64 92],.agg [.int .i64 4,.str [100,97,116,97],.int .i64 93],.agg [.int .i64 2,.str [80,97,105,114],.int .i64 98],.agg [.int .i64 1,.str [97],.int .i64 103],.agg [.int .i64 1,.str [98],.int .i64 105],.agg [.int .i64 5,.str [61],.int .i64 107],.agg [.int .i64 2,.str [80,97,105,114],.int .i64 109],.agg [.int .i64 1,.str [97],.int .i64 114],.agg [.int .i64 1,.str [98],.int .i64 116],.agg [.int .i64 5,.str [59],.int .i64 117],.agg [.int .i64 4,.str [100,97,116,97],.int .i64 119],.agg [.int .i64 2,.str [78,97,116],.int .i64 124],.agg [.int .i64 5,.str [61],.int .i64 128],.agg [.int .i64 2,.str [90,101,114,111],.int .i64 130],.agg [.int .i64 5,.str [124],.int .i64 135],.agg [.int .i64 2,.str [83,117,99,99],.int .i64 137],.agg [.int .i64 2,.str [78,97,116],.int .i64 142],.agg [.int .i64 5,.str [59],.int .i64 145],.agg [.int .i64 4,.str [100,97,116,97],.int .i64 147],.agg [.int .i64 2,.str [70,117,110],.int .i64 152],.agg [.int .i64 1,.str [97],.int .i64 156],.agg [.int .i64 1,.str [98],.int .i64 158],.agg [.int .i64 5,.str [61],.int .i64 160],.agg [.int .i64 2,.str [70,117,110],.int .i64 162],.agg [.int .i64 5,.str [40],.int .i64 166],.agg [.int .i64 1,.str [97],.int .i64 167],.agg [.int .i64 5,.str [45,62],.int .i64 169],.agg [.int .i64 1,.str [98],.int .i64 172],.agg [.int .i64 5,.str [41],.int .i64 173],.agg [.int .i64 5,.str [59],.int .i64 174],.agg [.int .i64 4,.str [100,97,116,97],.int .i64 176],.agg [.int .i64 2,.str [84,119,111],.int .i64 181],.agg [.int .i64 1,.str [97],.int .i64 185],.agg [.int .i64 5,.str [61],.int .i64 187],.agg [.int .i64 2,.str [66,111,116,104],.int .i64 189],.agg [.int .i64 1,.str [97],.int .i64 194],.agg [.int .i64 1,.str [97],.int .i64 196],.agg [.int .i64 5,.str [124],.int .i64 198],.agg [.int .i64 2,.str [79,110,101],.int .i64 200],.agg [.int .i64 5,.str [40],.int .i64 204],.agg [.int .i64 2,.str [79,112,116,105,111,110],.int .i64 205],.agg [.int .i64 1,.str [97],.int .i64 212],.agg [.int .i64 5,.str [41],.int .i64 213],.agg [.int .i64 5,.str [59],.int .i64 214]],.agg [.int .i64 0,.int .i64 0]]
def bD:List Dt:=[⟨0,[66,111,111,108],[],[⟨12,[84,114,117,101],[]⟩,⟨19,[70,97,108,115,101],[]⟩]⟩,
 ⟨26,[79,112,116,105,111,110],[[97]],[⟨42,[78,111,110,101],[]⟩,⟨49,[83,111,109,101],[⟨5,[97],0,0,[]⟩]⟩]⟩,
 ⟨57,[76,105,115,116],[[97]],[⟨71,[78,105,108],[]⟩,⟨77,[67,111,110,115],[⟨5,[97],0,0,[]⟩,⟨4,[76,105,115,116],0,0,[⟨5,[97],0,0,[]⟩]⟩]⟩]⟩,
 ⟨93,[80,97,105,114],[[97],[98]],[⟨109,[80,97,105,114],[⟨5,[97],0,0,[]⟩,⟨5,[98],0,0,[]⟩]⟩]⟩,
 ⟨119,[78,97,116],[],[⟨130,[90,101,114,111],[]⟩,⟨137,[83,117,99,99],[⟨4,[78,97,116],0,0,[]⟩]⟩]⟩,
 ⟨147,[70,117,110],[[97],[98]],[⟨162,[70,117,110],[⟨4,[45,62],0,0,[⟨5,[97],0,0,[]⟩,⟨5,[98],0,0,[]⟩]⟩]⟩]⟩,
 ⟨176,[84,119,111],[[97]],[⟨189,[66,111,116,104],[⟨5,[97],0,0,[]⟩,⟨5,[97],0,0,[]⟩]⟩,⟨200,[79,110,101],[⟨4,[79,112,116,105,111,110],0,0,[⟨5,[97],0,0,[]⟩]⟩]⟩]⟩]
theorem F5:(aD AP).p 118 [.str F4]=some DY:=Fc.zB (k:=400) (n:=20) (by kernel_rfl)
def Hk (g:Nat) (x:List PV):Option (List PV):=match g,x with
 | 118,[.str s]=>if s=F4 then some DY else none
 | _,_=>none
theorem EV:∀g x r,Hk g x=some r→(aD AP).p g x=some r:=by
 intro g x r h
 unfold Hk at h
 split at h
 · split at h
   · rename_i e;subst e;cases h;exact F5
   · cases h
 · cases h
theorem c79:(aD AP).p 79 []=some [.aE (bD.map Dt.pv)]:=Fc.F3 (k:=400) (n:=40) EV (by kernel_rfl)
end Go.Ab.Lw
namespace Go.Ab.Lw
open Ev
@[simp] theorem Fy {l:List Dt}:a6 4 (l.map Dt.pv)=true:=by cases l<;>simp
@[simp] theorem zE {l:List Ty}:a6 5 (l.map Ty.pv)=true:=by cases l<;>simp
theorem BR {n:Int} (h1:0≤n) (h2:n<18446744073709551616):IntKind.u64.wrap n=n:=by
 simp [IntKind.wrap,IntKind.bits,IntKind.signed]
 omega
def F6 (bits:Int) (ds:List Dt):Option (aP×St):=
 some (.exit 0,⟨[(0,.pv (vI bits)),(3,.pv (.aE (bD.map Dt.pv))),(4,.own (ds.map Dt.pv) 0),(5,.pv (vI 7)),(24,.pv (.bool false))],[],[],[ds.length]⟩)
theorem Gw (bits:Int):∀(n i:Nat),7-i=n→i≤7→∀acc:List Dt,(∀d∈acc,d∈bD)→acc.length≤1+i →
   ∃ds:List Dt,cl AP g32L0 ⟨[(0,.pv (vI bits)),(3,.pv (.aE (bD.map Dt.pv))),(4,.own (acc.map Dt.pv) 0),(5,.pv (vI i))],[],[],[acc.length]⟩=F6 bits ds ∧
     (∀d∈ds,d∈bD)∧ds.length≤8
 | 0,i,hn,hi,acc,ha,hl=>by
   have:i=7:=by omega
   subst this
   refine ⟨acc,?_,ha,by omega⟩
   rw [g32L0e]
   have h7:bD.length=7:=rfl
   simp [g32B0,h7,F6]
 | n+1,i,hn,hi,acc,ha,hl=>by
   have h7:bD.length=7:=rfl
   have hi:i<7:=by omega
   obtain ⟨x,hx⟩:=dS (l:=bD) (i:=i) (by omega)
   have hb:(acc.length+1)*72≤140737488355328:=by omega
   obtain ⟨d1,e1,m1,l1⟩:=Gw bits n (i+1) (by omega) (by omega) (acc++[x]) (by
     intro d hd;simp at hd;rcases hd with hd | rfl
     · exact ha d hd
     · exact dm hx) (by simp;omega)
   obtain ⟨d2,e2,m2,l2⟩:=Gw bits n (i+1) (by omega) (by omega) acc ha (by omega)
   simp at e1 e2
   have hi':(i:Int)<7:=by omega
   have key:∀S,S=cl AP g32L0 ⟨[(0,.pv (vI bits)),(3,.pv (.aE (bD.map Dt.pv))),(4,.own (acc.map Dt.pv) 0),(5,.pv (vI i))],[],[],[acc.length]⟩→S=F6 bits d1∨S=F6 bits d2:=by
     intro S hS
     rw [g32L0e] at hS
     simp (disch:=omega) [-getElem?_pos,g32B0,h7,hi',hx,aK,BR,hb,e1,e2] at hS
     subst hS
     (repeat' split)<;>simp
   rcases key _ rfl with h | h
   · exact ⟨d1,h,m1,l1⟩
   · exact ⟨d2,h,m2,l2⟩
theorem c32 (bits:Int):∃ds:List Dt,(aD AP).p 32 [vI bits]=some [.aE (ds.map Dt.pv)]∧(∀d∈ds,d∈bD)∧ds.length≤8:=by
 have hp:=c79
 have h7:bD.length=7:=rfl
 obtain ⟨x,hx⟩:=dS (l:=bD) (i:=1) (by decide)
 obtain ⟨d1,e1,m1,l1⟩:=Gw bits 7 0 rfl (by omega) [x] (by intro d hd;simp at hd;subst hd;exact dm hx) (by simp)
 obtain ⟨d2,e2,m2,l2⟩:=Gw bits 7 0 rfl (by omega) [] (by simp) (by simp)
 rw [g32L0e] at e1 e2
 simp at e1 e2
 have key:∀S,S=(aD AP).p 32 [vI bits]→S=some [.aE (d1.map Dt.pv)]∨S=some [.aE (d2.map Dt.pv)]:=by
   intro S hS
   rw [aA (af:=g32) rfl rfl (by decide)] at hS
   simp [-getElem?_pos,g32,hp,g32L0e,hx,e1,e2,F6] at hS
   subst hS
   (repeat' split)<;>simp
 rcases key _ rfl with h | h
 · exact ⟨d1,h,m1,l1⟩
 · exact ⟨d2,h,m2,l2⟩
end Go.Ab.Lw
namespace Go.Ab.Lw
open Ev
def Ty.av (t:Ty):AV:=.agg [.pv (vI t.kind),.pv (.str t.name),.pv (vI t.id),.pv (vI t.home),.pv (.aE (t.args.map Ty.pv))]
@[simp] theorem Ty.Hl (t:Ty):t.av=.agg [.pv (vI t.kind),.pv (.str t.name),.pv (vI t.id),.pv (vI t.home),.pv (.aE (t.args.map Ty.pv))]:=rfl
theorem vT {r:Int} {n:Nat} (h0:0≤r) (h1:r<n):∃m:Nat,r=m∧m<n:=⟨r.toNat,by omega,by omega⟩
end Go.Ab.Lw
namespace Go.Ab.Lw
open Ev
inductive Ty.Ok:Ty→Prop
 | mk {t:Ty}:Sm t.args→(∀x∈t.args,Ty.Ok x)→Ty.Ok t
theorem Ty.Ok.sm {t:Ty} (h:t.Ok):Sm t.args:=by cases h;assumption
theorem Ty.Ok.Hm {t:Ty} (h:t.Ok):∀x∈t.args,x.Ok:=by cases h;assumption
end Go.Ab.Lw
namespace Go.Ab.Lw
open Ev
def dD (sh:Sh):Prop:=∀cs,some cs∈sh→∀v∈cs,∃p,v=AV.pv p
theorem sL {aC ts:aq}:∀{cs:List AV},(∀v∈cs,∃p,v=AV.pv p)→aS aC ts cs=(cs,aC,ts)
 | [],_=>rfl
 | v::r,h=>by
   obtain ⟨p,rfl⟩:=h v (by simp)
   simp only [mW,rQ,sL (cs:=r) (fun v hv=>h v (by simp [hv]))]
theorem dD.norm:∀{sh:Sh},dD sh→∀aC ts,bt aC ts sh=(sh,aC,ts)
 | [],_,_,_=>rfl
 | none::sh,h,aC,ts=>by
   simp only [mX,dD.norm (sh:=sh) (fun cs hc=>h cs (by simp [hc]))]
 | some cs::sh,h,aC,ts=>by
   simp only [mY,sL (h cs (by simp)),dD.norm (sh:=sh) (fun cs hc=>h cs (by simp [hc]))]
theorem dD.app {a b:Sh} (ha:dD a) (hb:dD b):dD (a++b):=by
 intro cs hc
 simp only [List.mem_append] at hc
 rcases hc with hc | hc
 · exact ha cs hc
 · exact hb cs hc
theorem dD.one {cs:List AV} (h:∀v∈cs,∃p,v=AV.pv p):dD [some cs]:=by
 intro cs' hc
 simp at hc
 subst hc
 exact h
theorem j6 {l:List AV} (h:∀v∈l,∃p,v=.pv p):db l=false:=by
 cases l with
 | nil=>rfl
 | cons c r=>obtain ⟨p,rfl⟩:=h c (by simp);rfl
end Go.Ab.Lw
namespace Go.Ab.Lw
open Ev
noncomputable instance:DecidableEq As:=fun _ _=>Classical.propDecidable _
theorem Hn {as bs:List Ty} (hS:Sm as) (hl:as.length=bs.length) (h:∀x∈as,∀y,(aD AP).p 20 [x.pv,y.pv]=some [.bool (decide (x=y))]):∀(n i:Nat),as.length-i=n→i≤as.length →
   cl AP g57L0 ⟨[(0,.pv (.aE (as.map Ty.pv))),(1,.pv (.aE (bs.map Ty.pv))),(5,.pv (.int .i64 i))],[],[],[]⟩ =
     if as.drop i=bs.drop i then some (.exit 0,⟨[(0,.pv (.aE (as.map Ty.pv))),(1,.pv (.aE (bs.map Ty.pv))),(5,.pv (.int .i64 as.length)),(14,.pv (.bool false))],[],[],[]⟩)
     else some (.ret,⟨[(4,.pv (.bool false))],[],[],[]⟩)
 | 0,i,hn,hi=>by
   have:i=as.length:=by omega
   subst this
   rw [g57L0e]
   simp [g57B0,hl]
 | n+1,i,hn,hi=>by
   have hi:i<as.length:=by omega
   obtain ⟨x,hx⟩:=dS hi
   obtain ⟨y,hy⟩:=dS (hl ▸ hi)
   have hc:=h x (dm hx) y
   simp at hc
   rw [g57L0e,eg hx,eg hy]
   unfold Sm at hS
   have ih:=Hn hS hl h n (i+1) (by omega) (by omega)
   simp at ih
   simp (disch:=omega) [-getElem?_pos,g57B0,hx,hy,hi,hc,aK,ih]
   by_cases e:x=y<;>simp [e]
theorem c57 {as bs:List Ty} (hS:Sm as) (h:∀x∈as,∀y,(aD AP).p 20 [x.pv,y.pv]=some [.bool (decide (x=y))]) :
   (aD AP).p 57 [.aE (as.map Ty.pv),.aE (bs.map Ty.pv)]=some [.bool (decide (as=bs))]:=by
 rw [aA (af:=g57) rfl rfl (by decide)]
 by_cases hl:as.length=bs.length
 · have hL:=Hn hS hl h _ 0 rfl (by omega)
   simp at hL
   simp [g57,hl,hL]
   by_cases e:as=bs<;>simp [e]
 · have:¬as=bs:=fun e=>hl (by rw [e])
   simp [g57,hl,this]
   omega
theorem c20 {a b:Ty} (hO:a.Ok):(aD AP).p 20 [a.pv,b.pv]=some [.bool (decide (a=b))]:=by
 revert b hO
 refine Ty.sK (p:=fun a=>∀{b:Ty},a.Ok→(aD AP).p 20 [a.pv,b.pv]=some [.bool (decide (a=b))]) ?_ a
 intro a ih b hO
 have h:=c57 (bs:=b.args) hO.sm (fun x hx y=>ih x hx (hO.Hm x hx))
 rw [aA (af:=g20) rfl rfl (by decide)]
 simp [g20,h]
 cases a;cases b
 simp
 (repeat' split)<;>simp_all
end Go.Ab.Lw
namespace Go.Ab.Lw
open Ev
abbrev vC (c:Int):PV:=.int .u8 c
def sM (c:Int):Bool:=decide (97≤c) && decide (c≤122)
def BS (c:Int):Bool:=decide (65≤c) && decide (c≤90)
def sN (c:Int):Bool:=decide (48≤c) && decide (c≤57)
def fQ (c:Int):Bool:=sM c || BS c || sN c || (c == 95)
def kL (s:List UInt8):Bool:=s.all fun b=>fQ b.toNat
theorem lL {b:UInt8} {r:List UInt8}:kL (b::r)=(fQ b.toNat && kL r):=rfl
end Go.Ab.Lw
namespace Go.Ab.Lw
open Ev
structure El {α:Type} (f:α→PV) (sz:Nat) (ag:Bool):Prop where
 len:∀x,(aL (f x)).length=sz
 of:∀x,bN ag sz (aL (f x))=some (.pv (f x))
theorem El.head {α:Type} {f:α→PV} {sz:Nat} {ag:Bool} (h:El f sz ag) (l:List α):a6 sz (l.map f)=true:=by
 cases l with
 | nil=>rfl
 | cons x r=>simp [a6,h.len x]
theorem EW:El PV.str 1 false:=⟨fun _=>rfl,fun _=>rfl⟩
end Go.Ab.Lw
namespace Go.Ab.Lw
open Ev
abbrev Sc:=As
structure En where
 name:List UInt8
 sc:Sc
 deriving Inhabited
def En.pv (a:En):PV:=.agg [.str a.name,.int .i64 a.sc.id,.int .i64 a.sc.ty.kind,.str a.sc.ty.name,.int .i64 a.sc.ty.id,.int .i64 a.sc.ty.home,.aE (a.sc.ty.args.map Ty.pv)]
@[simp] theorem En.iH (a:En):a.pv=.agg [.str a.name,.int .i64 a.sc.id,.int .i64 a.sc.ty.kind,.str a.sc.ty.name,.int .i64 a.sc.ty.id,.int .i64 a.sc.ty.home,.aE (a.sc.ty.args.map Ty.pv)]:=rfl
@[simp] theorem En.eta (t:En):En.mk t.name t.sc=t:=rfl
noncomputable instance:DecidableEq En:=fun _ _=>Classical.propDecidable _
end Go.Ab.Lw
namespace Go.Ab.Lw
section
variable {P:Program} {n:Nat} {t e:TypeId} {p:PV}
theorem wR (hu:P.underlying t=some (.int .i64)) (h:oP P n t p):∃i,p=vI i:=by
 cases n with
 | zero=>simp [oP] at h
 | succ n=>simp only [oP,hu] at h;obtain ⟨i,rfl,_⟩:=h;exact ⟨i,rfl⟩
theorem BT {α:Type} {f:α→PV} (hu:P.underlying t=some (.slice e)) (he:∀(m:Nat) (q:PV),oP P m e q→∃x,q=f x) (h:oP P n t p):∃l:List α,p=.aE (l.map f):=by
 cases n with
 | zero=>simp [oP] at h
 | succ n=>
   simp only [oP,hu] at h
   obtain ⟨els,rfl,_,h⟩:=h
   have key:∀els:List PV,(∀q∈els,oP P n e q)→∃l:List α,els=l.map f:=by
     intro els
     induction els with
     | nil=>intro _;exact ⟨[],rfl⟩
     | cons q r ih=>
       intro h
       obtain ⟨x,rfl⟩:=he n q (h q (by simp))
       obtain ⟨l,rfl⟩:=ih (fun q hq=>h q (by simp [hq]))
       exact ⟨x::l,rfl⟩
   obtain ⟨l,rfl⟩:=key els h
   exact ⟨l,rfl⟩
theorem BU (hu:P.underlying t=some (.slice e)) (he:P.underlying e=some (.int .i64)) (h:oP P n t p):∃L:List Int,p=.aE (L.map vI):=
 BT hu (fun _ _ h=>wR he h) h
end
end Go.Ab.Lw
namespace Go.Ab.Lw
open Ev
def cH (s:List UInt8):Ty:=⟨5,s,0,0,[]⟩
theorem c106 {s:List UInt8}:(aD AP).p 106 [.str s]=some [(cH s).pv]:=by
 rw [aA (af:=g106) rfl rfl (by decide)]
 simp [g106,cH]
def gv:List Ty:=[cH [97],cH [98],cH [99]]
theorem c67:(aD AP).p 67 []=some [.aE (gv.map Ty.pv)]:=by
 have h1:=c106 (s:=[97]);have h2:=c106 (s:=[98]);have h3:=c106 (s:=[99])
 simp at h1 h2 h3
 rw [aA (af:=g67) rfl rfl (by decide)]
 simp [g67,h1,h2,h3,gv]
end Go.Ab.Lw
namespace Go.Ab.Lw
open Ev
mutual
def Ty.nodes:Ty→List Ty
 | ⟨k,n,i,h,as⟩=>⟨k,n,i,h,as⟩::Ty.nr as
def Ty.nr:List Ty→List Ty
 | []=>[]
 | a::r=>a.nodes++Ty.nr r
end
theorem Ty.oW:∀l:List Ty,Ty.nr l=l.flatMap Ty.nodes
 | []=>by simp [Ty.nr]
 | a::r=>by simp [Ty.nr,Ty.oW r]
theorem Ty.dE (t:Ty):t.nodes=t::t.args.flatMap Ty.nodes:=by cases t;simp only [Ty.nodes,Ty.oW]
def GP (out:List Int) (x:Ty):List Int:=if x.kind=1∧x.id∉out then out++[x.id] else out
def vars (l:List Ty):List Int:=(l.flatMap Ty.nodes).foldl GP []
end Go.Ab.Lw
namespace Go.Ab.Lw
open Ev
def varNames:List (List UInt8):=[[120],[121],[122],[102],[103],[118,49],[118,50],[105,100]]
theorem c175 {L:List Int} (hL:Sm L) {i:Nat} (hi:i≤L.length):∃(s:List UInt8) (j:Nat),(aD AP).i 175 [.aJ 0 0] (tp L i) []=some ([.pv (.str s)],tp L j,[])∧s∈varNames∧j≤L.length:=by
 obtain ⟨k,j,e,k0,k8,hj⟩:=c68 hL hi (n:=8) (by omega) (by omega)
 obtain ⟨m,rfl,hm⟩:=vT (n:=varNames.length) k0 (by simpa [varNames] using k8)
 obtain ⟨s,hs⟩:=dS hm
 refine ⟨s,j,?_,dm hs,hj⟩
 simp at e
 rw [az (af:=g175) rfl (by simp [g175])]
 have hs':([PV.str [120],.str [121],.str [122],.str [102],.str [103],.str [118,49],.str [118,50],.str [105,100]]:List PV)[m]?=some (.str s):=by
   have:([PV.str [120],.str [121],.str [122],.str [102],.str [103],.str [118,49],.str [118,50],.str [105,100]]:List PV)=varNames.map PV.str:=rfl
   rw [this];simp [hs]
 simp [-getElem?_pos,g175,e,hs']
end Go.Ab.Lw
namespace Go.Ab.Lw
open Ev
theorem qf {t:Ty} (h:t.args=[]):t.Ok:=⟨by rw [h];simp [Sm],by rw [h];simp⟩
end Go.Ab.Lw
namespace Go.Ab.Lw
open Ev
inductive eh (D:Dt→Prop) (lv:List Ty):Nat→Ty→Prop
 | leaf {n:Nat} {t:Ty}:t∈lv→eh D lv n t
 | int {n:Nat}:eh D lv n i9
 | d4 {n:Nat} {d:Dt} {args:List Ty}:D d→args.length=d.params.length→(∀x∈args,eh D lv n x)→eh D lv (n+1) ⟨4,d.name,0,0,args⟩
 | arrow {n:Nat} {a b:Ty}:eh D lv n a→eh D lv n b→eh D lv (n+1) ⟨4,[45,62],0,0,[a,b]⟩
def nu (L:List Int) (ds:List Dt) (lv:List Ty) (dep:Nat):Prop:=∀i:Nat,i≤L.length→∃(t:Ty) (j:Nat),
 (aD AP).i 27 [.aJ 0 0,.pv (.aE (ds.map Dt.pv)),.pv (.aE (lv.map Ty.pv)),.pv (vI dep)] (tp L i) []=some ([t.av],tp L j,[])∧eh (·∈ds) lv dep t∧j≤L.length
theorem F7 {L:List Int} {ds:List Dt} {lv:List Ty} {dep:Nat} (hdep:dep<1000) (hg:nu L ds lv dep) {d:Dt} (hS:Sm d.params):∀(n k:Nat),d.params.length-k=n→k≤d.params.length→∀(acc:List Ty) (i:Nat),acc.length=k→(∀x∈acc,eh (·∈ds) lv dep x)→i≤L.length →
   ∃(r:List Ty) (j:Nat),cl AP g27L0 ⟨[(0,.aJ 0 0),(1,.pv (.aE (ds.map Dt.pv))),(2,.pv (.aE (lv.map Ty.pv))),(3,.pv (vI (dep+1))),(8,.aN 8 0),(10,.aN 10 0),(11,.own (acc.map Ty.pv) 0),(12,.pv (vI k))],
     [(8,[.pv (vI 0),.pv (.str []),.pv (vI 0),.pv (vI 0),.own [] 1]),(10,[.pv (vI d.pos),.pv (.str d.name),.pv (.aE (d.params.map .str)),.pv (.aE (d.cons.map oV.pv))])],tp L i,[acc.length,0]⟩ =
     some (.exit 1,⟨[(0,.aJ 0 0),(1,.pv (.aE (ds.map Dt.pv))),(2,.pv (.aE (lv.map Ty.pv))),(3,.pv (vI (dep+1))),(8,.aN 8 0),(10,.aN 10 0),(11,.own (r.map Ty.pv) 0),(12,.pv (vI d.params.length)),(65,.pv (.bool false))],
     [(8,[.pv (vI 0),.pv (.str []),.pv (vI 0),.pv (vI 0),.own [] 1]),(10,[.pv (vI d.pos),.pv (.str d.name),.pv (.aE (d.params.map .str)),.pv (.aE (d.cons.map oV.pv))])],tp L j,[r.length,0]⟩) ∧
     r.length=d.params.length∧(∀x∈r,eh (·∈ds) lv dep x)∧j≤L.length
 | 0,k,hn,hk,acc,i,ha,hm,hi=>by
   have:k=d.params.length:=by omega
   subst this
   refine ⟨acc,i,?_,ha,hm,hi⟩
   rw [g27L0e]
   simp [g27B0]
 | n+1,k,hn,hk,acc,i,ha,hm,hi=>by
   unfold Sm at hS
   have hk:k<d.params.length:=by omega
   have hb:(acc.length+1)*64≤140737488355328:=by omega
   obtain ⟨t,j,e,mt,hj⟩:=hg i hi
   simp at e
   obtain ⟨r,j',e',hr,hm',hj'⟩:=F7 hdep hg hS n (k+1) (by omega) (by omega) (acc++[t]) j (by simp;omega) (by
     intro x hx;simp at hx;rcases hx with hx | rfl
     · exact hm x hx
     · exact mt) hj
   simp at e'
   refine ⟨r,j',?_,hr,hm',hj'⟩
   rw [g27L0e]
   have h1:(dep:Int)+1-1=dep:=by omega
   simp (disch:=omega) [-getElem?_pos,g27B0,hk,aK,h1,e,hb]
   rw [e']
theorem g27_0 {L:List Int} (hL:Sm L) {ds:List Dt} {lv:List Ty} (hlv:Sm lv):nu L ds lv 0:=by
 intro i hi
 obtain ⟨k,j1,e1,k0,k7,hj1⟩:=c68 hL hi (n:=7) (by omega) (by omega)
 simp at e1
 unfold Sm at hlv
 by_cases h1:k<3
 · by_cases h2:lv=[]
   · subst h2
     refine ⟨i9,j1,?_,.int,hj1⟩
     have c:=c34
     simp at c
     rw [az (af:=g27) rfl (by simp [g27])]
     simp [-getElem?_pos,g27,e1,h1,c,i9]
   · have hp:0<lv.length:=List.length_pos_iff.2 h2
     obtain ⟨r,j2,e2,r0,r1,hj2⟩:=c68 hL hj1 (n:=lv.length) (by omega) (by omega)
     obtain ⟨m,rfl,hm⟩:=vT r0 r1
     obtain ⟨x,hx⟩:=dS hm
     simp at e2
     refine ⟨x,j2,?_,.leaf (dm hx),hj2⟩
     rw [az (af:=g27) rfl (by simp [g27])]
     simp [-getElem?_pos,g27,e1,h1,hp,e2,hx]
 · refine ⟨i9,j1,?_,.int,hj1⟩
   have c:=c34
   simp at c
   rw [az (af:=g27) rfl (by simp [g27])]
   simp [-getElem?_pos,g27,e1,h1,c,i9]
theorem g27_s {L:List Int} (hL:Sm L) {ds:List Dt} (hds:ds.length≤20) (hda:∀d∈ds,d.params.length≤8) {lv:List Ty} (hlv:Sm lv) {dep:Nat} (hdep:dep<1000) (hg:nu L ds lv dep):nu L ds lv (dep+1):=by
 intro i hi
 obtain ⟨k,j1,e1,k0,k7,hj1⟩:=c68 hL hi (n:=7) (by omega) (by omega)
 simp at e1
 unfold Sm at hlv
 have hd1:¬((dep:Int)+1<1):=by omega
 have hd2:(dep:Int)+1-1=dep:=by omega
 have leafCase:∀h1:k<3,∀h2:¬lv=[],∃(t:Ty) (j:Nat),(aD AP).i 27 [.aJ 0 0,.pv (.aE (ds.map Dt.pv)),.pv (.aE (lv.map Ty.pv)),.pv (vI ((dep+1:Nat):Int))] (tp L i) []=some ([t.av],tp L j,[])∧eh (·∈ds) lv (dep+1) t∧j≤L.length:=by
   intro h1 h2
   have hp:0<lv.length:=List.length_pos_iff.2 h2
   obtain ⟨r,j2,e2,r0,r1,hj2⟩:=c68 hL hj1 (n:=lv.length) (by omega) (by omega)
   obtain ⟨m,rfl,hm⟩:=vT r0 r1
   obtain ⟨x,hx⟩:=dS hm
   simp at e2
   refine ⟨x,j2,?_,.leaf (dm hx),hj2⟩
   rw [az (af:=g27) rfl (by simp [g27])]
   simp [-getElem?_pos,g27,e1,h1,hp,e2,hx]
 by_cases h1:k<3∧¬lv=[]
 · exact leafCase h1.1 h1.2
 · have h1':¬k<3∨lv=[]:=by
     by_cases h:k<3
     · right;by_cases h':lv=[]
       · exact h'
       · exact absurd ⟨h,h'⟩ h1
     · exact .inl h
   by_cases h2:k<4
   · refine ⟨i9,j1,?_,.int,hj1⟩
     have c:=c34
     simp at c
     rw [az (af:=g27) rfl (by simp [g27])]
     rcases h1' with h | h
     · simp [-getElem?_pos,g27,e1,h,h2,c,i9]
     · subst h
       simp [-getElem?_pos,g27,e1,h2,c,i9]
   · have h3:¬k<3:=by omega
     by_cases h4:(k=4∨k=5)∧¬ds=[]
     · obtain ⟨h4,h5⟩:=h4
       have hp:0<ds.length:=List.length_pos_iff.2 h5
       obtain ⟨r,j2,e2,r0,r1,hj2⟩:=c68 hL hj1 (n:=ds.length) (by omega) (by omega)
       obtain ⟨m,rfl,hm⟩:=vT r0 r1
       obtain ⟨d,hx⟩:=dS hm
       simp at e2
       have hdm:=dm hx
       have hps:Sm d.params:=by
         unfold Sm
         have:=hda d hdm
         omega
       obtain ⟨as,j3,e3,ha,hm3,hj3⟩:=F7 hdep hg hps d.params.length 0 rfl (by omega) [] j2 rfl (by simp) hj2
       rw [g27L0e] at e3
       simp at e3
       have hsa:Sm as:=by unfold Sm at hps ⊢;omega
       have c:=c62 (s:=d.name) (l:=as) hsa
       simp at c
       refine ⟨⟨4,d.name,0,0,as⟩,j3,?_,.d4 hdm ha hm3,hj3⟩
       rw [az (af:=g27) rfl (by simp [g27])]
       rcases h4 with rfl | rfl
       · simp [-getElem?_pos,g27,e1,hp,hd1,e2,hx,g27L0e,e3,c]
       · simp [-getElem?_pos,g27,e1,hp,hd1,e2,hx,g27L0e,e3,c]
     · obtain ⟨a,j2,ea,ma,hj2⟩:=hg j1 hj1
       obtain ⟨b,j3,eb,mb,hj3⟩:=hg j2 hj2
       simp at ea eb
       have c:=c69 (a:=a) (b:=b)
       simp at c
       refine ⟨⟨4,[45,62],0,0,[a,b]⟩,j3,?_,.arrow ma mb,hj3⟩
       rw [az (af:=g27) rfl (by simp [g27])]
       by_cases h5:ds=[]
       · subst h5
         simp at ea eb
         simp (disch:=omega) [-getElem?_pos,g27,e1,h2,h3,hd1,hd2,aK,ea,eb,c]
       · have h6:¬k=4∧¬k=5:=by
           constructor
           · intro h;exact h4 ⟨.inl h,h5⟩
           · intro h;exact h4 ⟨.inr h,h5⟩
         simp (disch:=omega) [-getElem?_pos,g27,e1,h2,h3,h6.1,h6.2,hd1,hd2,aK,ea,eb,c]
theorem EX {L:List Int} (hL:Sm L) {ds:List Dt} (hds:ds.length≤20) (hda:∀d∈ds,d.params.length≤8) {lv:List Ty} (hlv:Sm lv):∀dep:Nat,dep<1000→nu L ds lv dep
 | 0,_=>g27_0 hL hlv
 | dep+1,h=>g27_s hL hds hda hlv (by omega) (EX hL hds hda hlv dep (by omega))
theorem eh.ok {D:Dt→Prop} (hD:∀d,D d→d.params.length≤8) {lv:List Ty} (h:∀t∈lv,t.args=[]) {n:Nat} {t:Ty} (m:eh D lv n t):t.Ok:=by
 induction m with
 | leaf hl=>exact qf (h _ hl)
 | int=>exact qf rfl
 | d4 hd hl _ ih=>exact ⟨by have:=hD _ hd;unfold Sm;simp;omega,ih⟩
 | arrow _ _ ha hb=>exact ⟨by simp [Sm],by intro x hx;simp at hx;rcases hx with rfl | rfl<;>assumption⟩
theorem vU {f:Ty→List Ty} {b:Nat}:∀{l:List Ty},(∀x∈l,(f x).length≤b)→(l.flatMap f).length≤l.length*b
 | [],_=>by simp
 | a::r,h=>by
   have h1:=h a (by simp)
   have h2:=vU (f:=f) (b:=b) (l:=r) (fun x hx=>h x (by simp [hx]))
   simp only [List.flatMap_cons,List.length_append,List.length_cons,Nat.add_mul]
   omega
end Go.Ab.Lw
namespace Go.Ab.Lw
open Ev
abbrev bz:=List UInt8
def HB (t:Ty):List AV:=[.pv (vI t.kind),.pv (.str t.name),.pv (vI t.id),.pv (vI t.home),.pv (.aE (t.args.map Ty.pv))]
@[simp] theorem GQ (t:Ty):HB t=[.pv (vI t.kind),.pv (.str t.name),.pv (vI t.id),.pv (vI t.home),.pv (.aE (t.args.map Ty.pv))]:=rfl
end Go.Ab.Lw
namespace Go.Ab.Lw
open Ev
theorem c109p {c:Int}:(aD AP).p 109 [vC c]=some [.bool (sM c)]:=by
 rw [aA (af:=g109) rfl rfl (by decide)]
 by_cases h:97≤c<;>simp [g109,sM,h]
theorem c111p {c:Int}:(aD AP).p 111 [vC c]=some [.bool (BS c)]:=by
 rw [aA (af:=g111) rfl rfl (by decide)]
 by_cases h:65≤c<;>simp [g111,BS,h]
theorem c124p {c:Int}:(aD AP).p 124 [vC c]=some [.bool (sN c)]:=by
 rw [aA (af:=g124) rfl rfl (by decide)]
 by_cases h:48≤c<;>simp [g124,sN,h]
theorem c117p {c:Int}:(aD AP).p 117 [vC c]=some [.bool (fQ c)]:=by
 have h1:=c109p (c:=c)
 have h2:=c111p (c:=c)
 have h3:=c124p (c:=c)
 rw [aA (af:=g117) rfl rfl (by decide)]
 cases e1:sM c
 · cases e2:BS c
   · cases e3:sN c
     · simp [e1,e2,e3] at h1 h2 h3
       simp [g117,h1,h2,h3,fQ,e1,e2,e3]
     · simp [e1,e2,e3] at h1 h2 h3
       simp [g117,h1,h2,h3,fQ,e1,e2,e3]
   · simp [e1,e2] at h1 h2
     simp [g117,h1,h2,fQ,e1,e2]
 · simp [e1] at h1
   simp [g117,h1,fQ,e1]
theorem GR {s:List UInt8} {k k':IntKind} {l h:Int} (h0:0≤l) (h1:l≤h) (h2:h≤s.length):dX true 0 true true false [.pv (.str s),.pv (.int k l),.pv (.int k' h)]=some (.pv (.str ((s.take h.toNat).drop l.toNat))):=by
 simp [dX,gD,h0,h1,h2]
structure aQ where
 kind:Int
 text:bz
 pos:Int
def aQ.pv (t:aQ):PV:=.agg [vI t.kind,.str t.text,vI t.pos]
@[simp] theorem aQ.iH (t:aQ):t.pv=.agg [vI t.kind,.str t.text,vI t.pos]:=rfl
theorem vV (l:List aQ):a6 3 (l.map aQ.pv)=true:=by cases l<;>simp [a6]
def qo (src:bz) (i:Nat) (acc:List aQ):St:=⟨[(0,.pv (.str src)),(3,.aN 3 0),(4,.own (acc.map aQ.pv) 0),(5,.pv (vI i))],[(3,[.pv (vI 0),.pv (vI 0)])],[],[acc.length]⟩
theorem BV {src:bz} (hS:src.length≤4000) {i:Nat} {acc:List aQ} (hc:src[i]?=some 32) {R:Option (aP×St)} (ih:cl AP g118L0 (qo src (i+1) acc)=R):cl AP g118L0 (qo src i acc)=R:=by
 have hi:=(List.getElem?_eq_some_iff.1 hc).1
 unfold qo at *
 rw [g118L0e] at ih ⊢
 simp at ih
 simp (disch:=omega) [-getElem?_pos,g118B0,hc,hi,aK]
 rw [g118L0e]
 simp [ih]
theorem Dq {src:bz} (hS:src.length≤4000) {i:Nat} {acc:List aQ} (hA:acc.length≤i) {c:UInt8} (hc:src[i]?=some c) {k:Int} (hk:(aD AP).p 125 [.str [c]]=some [vI k]) (h0:k≠0) (hn:fQ c.toNat=false)
   (hx:(c.toNat:Int)≠32∧(c.toNat:Int)≠9∧(c.toNat:Int)≠13∧(c.toNat:Int)≠10∧(c.toNat:Int)≠35∧(c.toNat:Int)≠45) {R:Option (aP×St)} (ih:cl AP g118L0 (qo src (i+1) (acc++[⟨k,[c],i⟩]))=R):cl AP g118L0 (qo src i acc)=R:=by
 have hi:=(List.getElem?_eq_some_iff.1 hc).1
 obtain ⟨x1,x2,x3,x4,x5,x6⟩:=hx
 have c1:=c117p (c:=c.toNat)
 rw [hn] at c1
 have hz:(acc.length+1)*32≤140737488355328:=by omega
 have sl:∀k k':IntKind,dX true 0 true true false [.pv (.str src),.pv (.int k (i:Int)),.pv (.int k' ((i:Int)+1))]=some (.pv (.str [c])):=by
   intro k k'
   rw [GR (by omega) (by omega) (by omega),Int.toNat_natCast,show ((i:Int)+1).toNat=i+1 by omega,List.drop_take,eg hc]
   simp
 unfold qo at *
 rw [g118L0e] at ih ⊢
 simp at ih
 simp (disch:=omega) [-getElem?_pos,g118B0,hc,hi,aK,c1,x1,x2,x3,x4,x5,x6,sl,hk,h0,vV,hz]
 rw [g118L0e]
 simp [ih]
theorem sO {src:bz} (hS:src.length≤4000) {i:Nat} {acc:List aQ}:∀(n k:Nat) (t r:bz),src.drop k=t++r→t.length=n→kL t=true→(∀c,r.head?=some c→fQ c.toNat=false) →
   cl AP g118L2 ⟨[(0,.pv (.str src)),(3,.aN 3 0),(4,.own (acc.map aQ.pv) 0),(5,.pv (vI i)),(7,.pv (vI k))],[(3,[.pv (vI 0),.pv (vI 0)])],[],[acc.length]⟩ =
     some (.exit 5,⟨[(0,.pv (.str src)),(3,.aN 3 0),(4,.own (acc.map aQ.pv) 0),(5,.pv (vI i)),(7,.pv (vI (k+n:Nat))),(66,.pv (.bool false))],[(3,[.pv (vI 0),.pv (vI 0)])],[],[acc.length]⟩)
 | 0,k,t,r,hd,hl,hi,hr=>by
   have:t=[]:=List.length_eq_zero_iff.1 hl
   subst this
   rw [List.nil_append] at hd
   rw [g118L2e]
   cases r with
   | nil=>
     have hk:src.length≤k:=List.drop_eq_nil_iff.1 hd
     have:¬(k:Int)<src.length:=by omega
     simp [-getElem?_pos,g118B2,this]
   | cons c r=>
     have hc:src[k]?=some c:=by have:=congrArg List.head? hd;rw [List.head?_drop] at this;simpa using this
     have hk:=(List.getElem?_eq_some_iff.1 hc).1
     have c1:=c117p (c:=c.toNat)
     rw [hr c rfl] at c1
     simp (disch:=omega) [-getElem?_pos,g118B2,hc,hk,c1]
 | n+1,k,c::t,r,hd,hl,hi,hr=>by
   have hc:src[k]?=some c:=by have:=congrArg List.head? hd;rw [List.head?_drop] at this;simpa using this
   have hk:=(List.getElem?_eq_some_iff.1 hc).1
   rw [lL,Bool.and_eq_true] at hi
   have c1:=c117p (c:=c.toNat)
   rw [hi.1] at c1
   have ih:=sO hS (acc:=acc) (i:=i) n (k+1) t r (by rw [eg hc,List.cons_append] at hd;exact (List.cons.inj hd).2) (by simpa using hl) hi.2 hr
   have e:k+1+n=k+(n+1):=by omega
   rw [e] at ih
   rw [g118L2e] at ih ⊢
   simp at ih
   simp (disch:=omega) [-getElem?_pos,g118B2,hc,hk,aK,c1]
   rw [g118L2e]
   simp [ih]
theorem Dr {src:bz} (hS:src.length≤4000) {i:Nat} {acc:List aQ} (hA:acc.length≤i) {c:UInt8} {t r:bz} (hd:src.drop i=c::t++r) (hi:kL (c::t)=true) (hr:∀x,r.head?=some x→fQ x.toNat=false)
   {k:Int} (hk:(aD AP).p 125 [.str (c::t)]=some [vI k]) (h0:k≠0) {R:Option (aP×St)} (ih:cl AP g118L0 (qo src (i+(t.length+1)) (acc++[⟨k,c::t,i⟩]))=R):cl AP g118L0 (qo src i acc)=R:=by
 have hc:src[i]?=some c:=by have:=congrArg List.head? hd;rw [List.head?_drop] at this;simpa using this
 have hil:=(List.getElem?_eq_some_iff.1 hc).1
 have hin:=hi
 rw [lL,Bool.and_eq_true] at hi
 have w:=sO hS (acc:=acc) (i:=i) t.length (i+1) t r (by rw [eg hc,List.cons_append] at hd;exact (List.cons.inj hd).2) rfl hi.2 hr
 have c1:=c117p (c:=c.toNat)
 rw [hi.1] at c1
 have hle:i+(t.length+1)≤src.length:=by
   have:=congrArg List.length hd
   simp at this;omega
 have e:i+1+t.length=i+(t.length+1):=by omega
 rw [e] at w
 have hz:(acc.length+1)*32≤140737488355328:=by omega
 have x:(c.toNat:Int)≠32∧(c.toNat:Int)≠9∧(c.toNat:Int)≠13∧(c.toNat:Int)≠10∧(c.toNat:Int)≠35:=by
   have:=hi.1
   simp only [fQ,sM,BS,sN,Bool.or_eq_true,Bool.and_eq_true,decide_eq_true_eq,beq_iff_eq] at this
   omega
 obtain ⟨x1,x2,x3,x4,x5⟩:=x
 have sl:∀k k':IntKind,dX true 0 true true false [.pv (.str src),.pv (.int k (i:Int)),.pv (.int k' ((i:Int)+((t.length:Int)+1)))]=some (.pv (.str (c::t))):=by
   intro k k'
   rw [GR (by omega) (by omega) (by omega),Int.toNat_natCast,show ((i:Int)+((t.length:Int)+1)).toNat=i+(t.length+1) by omega,List.drop_take,hd]
   simp
 unfold qo at *
 rw [g118L0e] at ih ⊢
 rw [g118L2e] at w
 simp at ih w
 simp (disch:=omega) [-getElem?_pos,g118B0,hc,hil,aK,c1,x1,x2,x3,x4,x5,g118L2e,w,sl,hk,h0,vV,hz]
 rw [g118L0e]
 simp [ih]
theorem EY {src:bz} {acc:List aQ} {R:Option (aP×St)} (h:some (.exit 0,⟨[(0,.pv (.str src)),(3,.aN 3 0),(4,.own (acc.map aQ.pv) 0),(5,.pv (vI src.length)),(16,.pv (.bool false))],[(3,[.pv (vI 0),.pv (vI 0)])],[],[acc.length]⟩)=R):cl AP g118L0 (qo src src.length acc)=R:=by
 subst h
 unfold qo
 rw [g118L0e]
 simp [g118B0]
theorem c118 {src:bz} (hS:src.length≤4000) {T:List aQ} (h:∀R,some (.exit 0,⟨[(0,.pv (.str src)),(3,.aN 3 0),(4,.own (T.map aQ.pv) 0),(5,.pv (vI src.length)),(16,.pv (.bool false))],[(3,[.pv (vI 0),.pv (vI 0)])],[],[T.length]⟩)=R→cl AP g118L0 (qo src 0 [])=R) :
   (aD AP).p 118 [.str src]=some [.aE (T.map aQ.pv),.agg [vI 0,vI 0]]:=by
 have k:=h _ rfl
 have hn:¬(4000:Int)<src.length:=by omega
 unfold qo at k
 rw [g118L0e] at k
 simp at k
 rw [aA (af:=g118) rfl rfl (by decide)]
 simp [g118,hn,g118L0e,k]
end Go.Ab.Lw
namespace Go.Ab.Lw
open Ev
def rd (L:List aQ) (I:Nat):Sh:=[some [.pv (.aE (L.map aQ.pv)),.pv (vI I),.pv (.bool false),.pv (vI 0)]]
@[simp] theorem Ho (L:List aQ) (I:Nat):rd L I=[some [.pv (.aE (L.map aQ.pv)),.pv (vI I),.pv (.bool false),.pv (vI 0)]]:=rfl
theorem c126r {L:List aQ} {I:Nat} {t:aQ} (h:L[I]?=some t):(aD AP).i 126 [.aJ 0 0] (rd L I) []=some ([.pv (vI t.pos)],rd L I,[]):=by
 have hi:=(List.getElem?_eq_some_iff.1 h).1
 rw [az (af:=g126) rfl (by simp [g126])]
 simp (disch:=omega) [-getElem?_pos,g126,h,hi]
theorem c129r {L:List aQ} {I:Nat} {t:aQ} (h:L[I]?=some t) {k:Int}:(aD AP).i 129 [.aJ 0 0,.pv (vI k)] (rd L I) []=some ([.pv (.bool (decide (t.kind=k)))],rd L I,[]):=by
 have hi:=(List.getElem?_eq_some_iff.1 h).1
 rw [az (af:=g129) rfl (by simp [g129])]
 by_cases q:t.kind=k
 · simp (disch:=omega) [-getElem?_pos,g129,h,hi,q]
 · simp (disch:=omega) [-getElem?_pos,g129,h,hi,q]
def aQ.d3 (t:aQ) (s:bz):Bool:=(decide (t.kind=5) || decide (t.kind=4)) && decide (t.text=s)
theorem c120r {L:List aQ} {I:Nat} {t:aQ} (h:L[I]?=some t) {s:bz}:(aD AP).i 120 [.aJ 0 0,.pv (.str s)] (rd L I) []=some ([.pv (.bool (t.d3 s))],rd L I,[]):=by
 have hi:=(List.getElem?_eq_some_iff.1 h).1
 rw [az (af:=g120) rfl (by simp [g120])]
 by_cases q:t.kind=5
 · by_cases p:t.text=s
   · simp (disch:=omega) [-getElem?_pos,g120,h,hi,q,p,aQ.d3]
   · simp (disch:=omega) [-getElem?_pos,g120,h,hi,q,p,aQ.d3]
 · by_cases q4:t.kind=4
   · by_cases p:t.text=s
     · simp (disch:=omega) [-getElem?_pos,g120,h,hi,q4,p,aQ.d3]
     · simp (disch:=omega) [-getElem?_pos,g120,h,hi,q4,p,aQ.d3]
   · simp (disch:=omega) [-getElem?_pos,g120,h,hi,q,q4,aQ.d3]
theorem c132f {L:List aQ} {I:Nat} {t:aQ} (h:L[I]?=some t) {s:bz} (hs:t.d3 s=false):(aD AP).i 132 [.aJ 0 0,.pv (.str s)] (rd L I) []=some ([.pv (.bool false)],rd L I,[]):=by
 have k:=c120r h (s:=s)
 rw [hs] at k
 rw [az (af:=g132) rfl (by simp [g132])]
 simp at k
 simp [g132,k]
theorem c132t {L:List aQ} {I:Nat} {t:aQ} (h:L[I]?=some t) (hL:L.length≤4000) {s:bz} (hs:t.d3 s=true):(aD AP).i 132 [.aJ 0 0,.pv (.str s)] (rd L I) []=some ([.pv (.bool true)],rd L (I+1),[]):=by
 have hi:=(List.getElem?_eq_some_iff.1 h).1
 have k:=c120r h (s:=s)
 rw [hs] at k
 rw [az (af:=g132) rfl (by simp [g132])]
 simp at k
 simp (disch:=omega) [g132,k,aK]
theorem c127r {L:List aQ} {I:Nat} {t:aQ} (h:L[I]?=some t) (hL:L.length≤4000) {s:bz} (hs:t.d3 s=true):(aD AP).i 127 [.aJ 0 0,.pv (.str s)] (rd L I) []=some ([],rd L (I+1),[]):=by
 have k:=c132t h hL hs
 rw [az (af:=g127) rfl (by simp [g127])]
 simp at k
 simp [g127,k]
theorem c128r {L:List aQ} {I:Nat} {t:aQ} (h:L[I]?=some t) (hL:L.length≤4000) {k:Int} (hk:t.kind=k):(aD AP).i 128 [.aJ 0 0,.pv (vI k)] (rd L I) []=some ([.pv (.str t.text)],rd L (I+1),[]):=by
 have hi:=(List.getElem?_eq_some_iff.1 h).1
 have e:=c129r h (k:=k)
 rw [decide_eq_true hk] at e
 rw [az (af:=g128) rfl (by simp [g128])]
 simp at e
 simp (disch:=omega) [-getElem?_pos,g128,e,h,hi,aK]
end Go.Ab.Lw
namespace Go.Ab.Lw
structure eO (E:Type) where
 pos:Int
 d4:List UInt8
 vars:List (List UInt8)
 body:E
structure Ex where
 kind:Int
 pos:Int
 name:List UInt8
 num:Int
 kids:List Ex
 aG:List (eO Ex)
 ty:Ty
abbrev Ar:=eO Ex
def ca:Ty:=⟨0,[],0,0,[]⟩
instance:Inhabited Ex:=⟨⟨0,0,[],0,[],[],ca⟩⟩
instance:Inhabited Ar:=⟨⟨0,[],[],default⟩⟩
def Ty.cells (t:Ty):List PV:=[.int .i64 t.kind,.str t.name,.int .i64 t.id,.int .i64 t.home,.aE (t.args.map Ty.pv)]
mutual
def Ex.cells:Ex→List PV
 | ⟨k,p,n,m,ks,as,t⟩=>.int .i64 k::.int .i64 p::.str n::.int .i64 m::.aE (Ex.bZ ks)::.aE (Ex.F8 as)::t.cells
def Ex.bZ:List Ex→List PV
 | []=>[]
 | e::r=>.agg (Ex.cells e)::Ex.bZ r
def Ex.F8:List (eO Ex)→List PV
 | []=>[]
 | ⟨p,c,v,b⟩::r=>.agg (.int .i64 p::.str c::.aE (v.map .str)::Ex.cells b)::Ex.F8 r
end
def Ex.pv (e:Ex):PV:=.agg e.cells
def Ar.pv (a:Ar):PV:=.agg (.int .i64 a.pos::.str a.d4::.aE (a.vars.map .str)::a.body.cells)
theorem Ex.j0:∀l:List Ex,Ex.bZ l=l.map Ex.pv
 | []=>by simp [Ex.bZ]
 | e::r=>by simp [Ex.bZ,Ex.j0 r,Ex.pv]
theorem Ex.wS:∀l:List Ar,Ex.F8 l=l.map Ar.pv
 | []=>by simp [Ex.F8]
 | ⟨p,c,v,b⟩::r=>by simp [Ex.F8,Ex.wS r,Ar.pv]
theorem Ex.aV (e:Ex):e.cells=[.int .i64 e.kind,.int .i64 e.pos,.str e.name,.int .i64 e.num,.aE (e.kids.map Ex.pv),.aE (e.aG.map Ar.pv),.int .i64 e.ty.kind,.str e.ty.name,.int .i64 e.ty.id,.int .i64 e.ty.home,.aE (e.ty.args.map Ty.pv)]:=by
 cases e;simp only [Ex.cells,Ex.j0,Ex.wS,Ty.cells]
@[simp] theorem Ex.iH (e:Ex):e.pv=.agg [.int .i64 e.kind,.int .i64 e.pos,.str e.name,.int .i64 e.num,.aE (e.kids.map Ex.pv),.aE (e.aG.map Ar.pv),.int .i64 e.ty.kind,.str e.ty.name,.int .i64 e.ty.id,.int .i64 e.ty.home,.aE (e.ty.args.map Ty.pv)]:=by
 rw [Ex.pv,Ex.aV]
@[simp] theorem Ar.iH (a:Ar):a.pv=.agg [.int .i64 a.pos,.str a.d4,.aE (a.vars.map .str),.int .i64 a.body.kind,.int .i64 a.body.pos,.str a.body.name,.int .i64 a.body.num,.aE (a.body.kids.map Ex.pv),.aE (a.body.aG.map Ar.pv),.int .i64 a.body.ty.kind,.str a.body.ty.name,.int .i64 a.body.ty.id,.int .i64 a.body.ty.home,.aE (a.body.ty.args.map Ty.pv)]:=by
 rw [Ar.pv,Ex.aV]
theorem F9:El Ex.pv 11 true:=⟨fun x=>by simp,fun x=>by simp⟩
theorem EZ:El Ar.pv 14 true:=⟨fun x=>by simp,fun x=>by simp⟩
@[simp] theorem Fz {l:List Ex}:a6 11 (l.map Ex.pv)=true:=F9.head l
@[simp] theorem FA {l:List Ar}:a6 14 (l.map Ar.pv)=true:=EZ.head l
@[simp] theorem E_ {l:List (List UInt8)}:a6 1 (l.map PV.str)=true:=EW.head l
def Ex.ch (e:Ex):List Ex:=e.kids++e.aG.map eO.body
theorem eO.oX (a:Ar):SizeOf.sizeOf a.body<SizeOf.sizeOf a:=by cases a;simp;omega
theorem Ex.sK {p:Ex→Prop} (h:∀e:Ex,(∀x∈e.kids,p x)→(∀a∈e.aG,p a.body)→p e):∀e,p e
 | ⟨k,ps,n,m,ks,as,t⟩=>h _ (fun x _hx=>Ex.sK h x) (fun a _ha=>Ex.sK h a.body)
termination_by e=>SizeOf.sizeOf e
decreasing_by
 · have:=_root_.List.sizeOf_lt_of_mem _hx;simp at *;omega
 · have:=_root_.List.sizeOf_lt_of_mem _ha;have:=eO.oX a;simp at *;omega
theorem Ex.recC {p:Ex→Prop} (h:∀e:Ex,(∀x∈e.ch,p x)→p e):∀e,p e:=Ex.sK fun e h1 h2=>h e fun x hx=>by
 rw [Ex.ch,List.mem_append,List.mem_map] at hx
 rcases hx with hx | ⟨a,ha,rfl⟩
 · exact h1 x hx
 · exact h2 a ha
end Go.Ab.Lw
namespace Go.Ab.Lw
open Ev
abbrev iI:List (List UInt8):=varNames
inductive dF (ds:List Dt):Nat→Ex→Prop
 | var {n:Nat} {s:List UInt8}:s∈iI→dF ds n ⟨1,0,s,0,[],[],ca⟩
 | int {n:Nat} {m:Int}:0≤m→m<4→dF ds n ⟨3,0,[],m,[],[],ca⟩
 | d4 {n:Nat} {d:Dt} {c:oV}:d∈ds→c∈d.cons→dF ds n ⟨2,0,c.name,0,[],[],ca⟩
 | gone {n:Nat}:dF ds n ⟨2,0,[71,111,110,101],0,[],[],ca⟩
 | hole {n:Nat}:dF ds n ⟨10,0,[],0,[],[],ca⟩
 | lam {n:Nat} {s:List UInt8} {a:Ex}:s∈iI→dF ds n a→dF ds (n+1) ⟨4,0,s,0,[a],[],ca⟩
 | app {n:Nat} {a b:Ex}:dF ds n a→dF ds n b→dF ds (n+1) ⟨5,0,[],0,[a,b],[],ca⟩
 | vW {n:Nat} {k:Int} {s:List UInt8} {a b:Ex}:k=6∨k=7→s∈iI→dF ds n a→dF ds n b→dF ds (n+1) ⟨k,0,s,0,[a,b],[],ca⟩
 | Fa {n:Nat} {a:Ex} {t:Ty}:dF ds n a→eh (·∈ds) [] 2 t→dF ds (n+1) ⟨9,0,[],0,[a],[],t⟩
 | held {n:Nat} {a:Ex}:dF ds n a→dF ds (n+1) ⟨11,0,[],0,[a],[],ca⟩
 | up {n:Nat} {a:Ex}:dF ds n a→dF ds (n+1) a
 | nv {n:Nat} {d:Dt} {a:Ex} {as:List Ar}:d∈ds→dF ds n a→as.length=d.cons.length→(∀x∈as,dF ds n x.body)→(∀x∈as,x.pos=0∧∀v∈x.vars,v∈iI) →
     (∀(i:Nat) (c:oV) (x:Ar),d.cons[i]?=some c→as[i]?=some x→x.d4=c.name∧x.vars.length=c.fields.length)→dF ds (n+1) ⟨8,0,[],0,[a],as,ca⟩
end Go.Ab.Lw
namespace Go.Ab.Lw
open Ev
def D8 (d:Dt):Prop:=d.params.length≤8∧0<d.cons.length∧d.cons.length≤8∧∀c∈d.cons,c.fields.length≤8
theorem Fb:∀d∈bD,D8 d:=by
 intro d hd
 simp [bD] at hd
 rcases hd with rfl | rfl | rfl | rfl | rfl | rfl | rfl<;>simp [D8]
structure HC (e:Ex) (C:List AV):Prop where
 len:C.length=11
 leaf:C.all aH=true
 eo:∀sh,cU sh C=some e.cells
 flat:bj.d5 C=true
 nY:dN C=true
def dK (f:Bool) (l:List PV):AV:=if f then .cI l else .pv (.aE l)
def dn (fk fa fg:Bool) (e:Ex):List AV:=[.pv (vI e.kind),.pv (vI e.pos),.pv (.str e.name),.pv (vI e.num),dK fk (e.kids.map Ex.pv),dK fa (e.aG.map Ar.pv),.pv (vI e.ty.kind),.pv (.str e.ty.name),.pv (vI e.ty.id),.pv (vI e.ty.home),dK fg (e.ty.args.map Ty.pv)]
theorem dd (fk fa fg:Bool) (e:Ex):HC e (dn fk fa fg e):=by
 refine ⟨rfl,?_,?_,?_,?_⟩
 · cases fk<;>cases fa<;>cases fg<;>rfl
 · intro sh
   rw [Ex.aV]
   cases fk<;>cases fa<;>cases fg<;>simp [dn,dK]
 · cases fk<;>cases fa<;>cases fg<;>simp [dn,dK]
 · cases fk<;>cases fa<;>cases fg<;>simp [dn,dK]
def qg (L:List Int) (ds:List Dt) (dep:Nat):Prop:=∀i:Nat,i≤L.length→∃(e:Ex) (fk fa fg:Bool) (j:Nat),
 (aD AP).i 247 [.aJ 0 0,.pv (.aE (ds.map Dt.pv)),.pv (vI dep)] (tp L i) []=some ([.agg (dn fk fa fg e)],tp L j,[])∧dF ds dep e∧j≤L.length
theorem sP {L:List Int} (hL:Sm L) {ds:List Dt} (hds:ds.length≤8) (hD:∀d∈ds,D8 d) {dep:Nat} {i j1:Nat} {k:Int} (hj1:j1≤L.length)
   (e1:(aD AP).i 68 [.aJ 0 0,.pv (vI 14)] (tp L i) []=some ([.pv (vI k)],tp L j1,[])) (k0:0≤k) (hk:if dep=0 then True else k<5) :
   ∃(e:Ex) (fk fa fg:Bool) (j:Nat),(aD AP).i 247 [.aJ 0 0,.pv (.aE (ds.map Dt.pv)),.pv (vI dep)] (tp L i) []=some ([.agg (dn fk fa fg e)],tp L j,[])∧dF ds dep e∧j≤L.length:=by
 simp at e1
 obtain ⟨r,hr,hr0,hr1⟩:∃r:Int,(if dep=0 then k.tmod 5 else k)=r∧0≤r∧r<5:=by
   by_cases h:dep=0
   · refine ⟨k.tmod 5,by simp [h],?_,?_⟩
     · exact Int.tmod_nonneg 5 k0
     · exact Int.tmod_lt_of_pos k (by omega)
   · simp [h] at hk
     exact ⟨k,by simp [h],k0,hk⟩
 have hcase:r=0∨r=1∨r=2∨r=3∨r=4:=by omega
 have hd:dep=0∧k.tmod 5=r∨¬((dep:Int)<1)∧k=r:=by
   by_cases h:dep=0
   · simp [h] at hr;exact .inl ⟨h,hr⟩
   · simp [h] at hr;exact .inr ⟨by omega,hr⟩
 clear hr
 have hvar:r=0∨r=1→∃(e:Ex) (fk fa fg:Bool) (j:Nat),(aD AP).i 247 [.aJ 0 0,.pv (.aE (ds.map Dt.pv)),.pv (vI dep)] (tp L i) []=some ([.agg (dn fk fa fg e)],tp L j,[])∧dF ds dep e∧j≤L.length:=by
   intro h
   obtain ⟨s,j,e2,hs,hj⟩:=c175 hL hj1
   simp at e2
   refine ⟨⟨1,0,s,0,[],[],ca⟩,true,true,true,j,?_,.var hs,hj⟩
   rw [az (af:=g247) rfl (by simp [g247])]
   rcases h with rfl | rfl<;>rcases hd with ⟨rfl,h2⟩ | ⟨h1,rfl⟩
   · simp [g247,e1,h2,e2,dn,dK,ca]
   · simp [g247,e1,h1,e2,dn,dK,ca]
   · simp [g247,e1,h2,e2,dn,dK,ca]
   · simp [g247,e1,h1,e2,dn,dK,ca]
 rcases hcase with rfl | rfl | rfl | rfl | rfl
 · exact hvar (.inl rfl)
 · exact hvar (.inr rfl)
 · obtain ⟨m,j,e2,m0,m4,hj⟩:=c68 hL hj1 (n:=4) (by omega) (by omega)
   simp at e2
   refine ⟨⟨3,0,[],m,[],[],ca⟩,true,true,true,j,?_,.int m0 m4,hj⟩
   rw [az (af:=g247) rfl (by simp [g247])]
   rcases hd with ⟨rfl,h2⟩ | ⟨h1,rfl⟩
   · simp [g247,e1,h2,e2,dn,dK,ca]
   · simp [g247,e1,h1,e2,dn,dK,ca]
 · by_cases h0:ds=[]
   · subst h0
     refine ⟨⟨2,0,[71,111,110,101],0,[],[],ca⟩,true,true,true,j1,?_,.gone,hj1⟩
     rw [az (af:=g247) rfl (by simp [g247])]
     rcases hd with ⟨rfl,h2⟩ | ⟨h1,rfl⟩
     · simp [g247,e1,h2,dn,dK,ca]
     · simp [g247,e1,h1,dn,dK,ca]
   · have hp:0<ds.length:=List.length_pos_iff.2 h0
     obtain ⟨n,j2,e2,n0,n1,hj2⟩:=c68 hL hj1 (n:=ds.length) (by omega) (by omega)
     obtain ⟨m,rfl,hm⟩:=vT n0 n1
     obtain ⟨d,hx⟩:=dS hm
     obtain ⟨_,hc0,hc8,_⟩:=hD d (dm hx)
     obtain ⟨n',j3,e3,n0',n1',hj3⟩:=c68 hL hj2 (n:=d.cons.length) (by omega) (by omega)
     obtain ⟨m',rfl,hm'⟩:=vT n0' n1'
     obtain ⟨c,hy⟩:=dS hm'
     simp at e2 e3
     refine ⟨⟨2,0,c.name,0,[],[],ca⟩,true,true,true,j3,?_,.d4 (dm hx) (dm hy),hj3⟩
     rw [az (af:=g247) rfl (by simp [g247])]
     rcases hd with ⟨rfl,h2⟩ | ⟨h1,rfl⟩
     · simp [-getElem?_pos,g247,e1,h2,e2,e3,hp,hx,hy,dn,dK,ca]
     · simp [-getElem?_pos,g247,e1,h1,e2,e3,hp,hx,hy,dn,dK,ca]
 · refine ⟨⟨10,0,[],0,[],[],ca⟩,true,true,true,j1,?_,.hole,hj1⟩
   rw [az (af:=g247) rfl (by simp [g247])]
   rcases hd with ⟨rfl,h2⟩ | ⟨h1,rfl⟩
   · simp [g247,e1,h2,dn,dK,ca]
   · simp [g247,e1,h1,dn,dK,ca]
theorem BW {L:List Int} (hL:Sm L) {ds:List Dt} (hds:ds.length≤8) (hD:∀d∈ds,D8 d) {dep:Nat} (hdep:dep<1000) (hg:qg L ds dep) {i j1:Nat} {k:Int} (hj1:j1≤L.length)
   (e1:(aD AP).i 68 [.aJ 0 0,.pv (vI 14)] (tp L i) []=some ([.pv (vI k)],tp L j1,[])) (k5:5≤k) (k12:k≤12) :
   ∃(e:Ex) (fk fa fg:Bool) (j:Nat),(aD AP).i 247 [.aJ 0 0,.pv (.aE (ds.map Dt.pv)),.pv (vI (dep+1:Nat))] (tp L i) []=some ([.agg (dn fk fa fg e)],tp L j,[])∧dF ds (dep+1) e∧j≤L.length:=by
 simp at e1
 have h1:¬((dep:Int)+1<1):=by omega
 have h2:(dep:Int)+1-1=dep:=by omega
 have hc:k=5∨k=6∨k=7∨k=8∨k=9∨k=10∨k=11∨k=12:=by omega
 have hlam:k=5∨k=6→∃(e:Ex) (fk fa fg:Bool) (j:Nat),(aD AP).i 247 [.aJ 0 0,.pv (.aE (ds.map Dt.pv)),.pv (vI (dep+1:Nat))] (tp L i) []=some ([.agg (dn fk fa fg e)],tp L j,[])∧dF ds (dep+1) e∧j≤L.length:=by
   intro h
   obtain ⟨s,j2,e2,hs,hj2⟩:=c175 hL hj1
   obtain ⟨a,f1,f2,f3,j3,e3,ha,hj3⟩:=hg j2 hj2
   have hA:=dd f1 f2 f3 a
   generalize dn f1 f2 f3 a=A at e3 hA
   simp at e2 e3
   refine ⟨⟨4,0,s,0,[a],[],ca⟩,true,true,true,j3,?_,.lam hs ha,hj3⟩
   rw [az (af:=g247) rfl (by simp [g247])]
   have ac:=Ex.aV a
   rcases h with rfl | rfl<;>simp (disch:=omega) [g247,e1,h1,h2,aK,e2,e3,hA.eo,hA.flat,hA.nY,hA.len,hA.leaf,ac,dn,dK,ca]
 have happ:k=7∨k=8∨k=9→∃(e:Ex) (fk fa fg:Bool) (j:Nat),(aD AP).i 247 [.aJ 0 0,.pv (.aE (ds.map Dt.pv)),.pv (vI (dep+1:Nat))] (tp L i) []=some ([.agg (dn fk fa fg e)],tp L j,[])∧dF ds (dep+1) e∧j≤L.length:=by
   intro h
   obtain ⟨a,f1,f2,f3,j2,e2,ha,hj2⟩:=hg j1 hj1
   obtain ⟨b,f4,f5,f6,j3,e3,hb,hj3⟩:=hg j2 hj2
   have hA:=dd f1 f2 f3 a
   generalize dn f1 f2 f3 a=A at e2 hA
   have hB:=dd f4 f5 f6 b
   generalize dn f4 f5 f6 b=B at e3 hB
   simp at e2 e3
   refine ⟨⟨5,0,[],0,[a,b],[],ca⟩,true,true,true,j3,?_,.app ha hb,hj3⟩
   rw [az (af:=g247) rfl (by simp [g247])]
   have ac:=Ex.aV a
   have bc:=Ex.aV b
   have tA:A.take 11=A:=List.take_of_length_le (by rw [hA.len];omega)
   rcases h with rfl | rfl | rfl<;>simp (disch:=omega) [g247,e1,h1,h2,aK,e2,e3,hA.eo,hA.flat,hA.nY,hA.len,hA.leaf,hB.eo,hB.flat,hB.nY,hB.len,hB.leaf,tA,ac,bc,dC,dn,dK,ca]
 rcases hc with h | h | h | h | h | rfl | rfl | rfl
 · exact hlam (.inl h)
 · exact hlam (.inr h)
 · exact happ (.inl h)
 · exact happ (.inr (.inl h))
 · exact happ (.inr (.inr h))
 · obtain ⟨r,j2,e2,r0,r1,hj2⟩:=c68 hL hj1 (n:=2) (by omega) (by omega)
   obtain ⟨s,j3,e3,hs,hj3⟩:=c175 hL hj2
   obtain ⟨a,f1,f2,f3,j4,e4,ha,hj4⟩:=hg j3 hj3
   obtain ⟨b,f4,f5,f6,j5,e5,hb,hj5⟩:=hg j4 hj4
   have hA:=dd f1 f2 f3 a
   generalize dn f1 f2 f3 a=A at e4 hA
   have hB:=dd f4 f5 f6 b
   generalize dn f4 f5 f6 b=B at e5 hB
   simp at e2 e3 e4 e5
   have ac:=Ex.aV a
   have bc:=Ex.aV b
   have tA:A.take 11=A:=List.take_of_length_le (by rw [hA.len];omega)
   have hk:6+r=6∨6+r=7:=by omega
   refine ⟨⟨6+r,0,s,0,[a,b],[],ca⟩,true,true,true,j5,?_,.vW hk hs ha hb,hj5⟩
   rw [az (af:=g247) rfl (by simp [g247])]
   simp (disch:=omega) [g247,e1,h1,h2,aK,e2,e3,e4,e5,hA.eo,hA.flat,hA.nY,hA.len,hA.leaf,hB.eo,hB.flat,hB.nY,hB.len,hB.leaf,tA,ac,bc,dC,dn,dK,ca]
 · obtain ⟨a,f1,f2,f3,j2,e2,ha,hj2⟩:=hg j1 hj1
   have hA:=dd f1 f2 f3 a
   generalize dn f1 f2 f3 a=A at e2 hA
   obtain ⟨t,j3,e3,ht,hj3⟩:=EX hL (ds:=ds) (by omega) (fun d hd=>(hD d hd).1) (lv:=[]) (by simp [Sm]) 2 (by omega) j2 hj2
   simp [Ty.av] at e2 e3
   have ac:=Ex.aV a
   refine ⟨⟨9,0,[],0,[a],[],t⟩,true,true,false,j3,?_,.Fa ha ht,hj3⟩
   rw [az (af:=g247) rfl (by simp [g247])]
   simp (disch:=omega) [g247,e1,h1,h2,aK,e2,e3,hA.eo,hA.flat,hA.nY,hA.len,hA.leaf,ac,dn,dK,ca]
 · obtain ⟨a,f1,f2,f3,j2,e2,ha,hj2⟩:=hg j1 hj1
   have hA:=dd f1 f2 f3 a
   generalize dn f1 f2 f3 a=A at e2 hA
   simp at e2
   have ac:=Ex.aV a
   refine ⟨⟨11,0,[],0,[a],[],ca⟩,true,true,true,j2,?_,.held ha,hj2⟩
   rw [az (af:=g247) rfl (by simp [g247])]
   simp (disch:=omega) [g247,e1,h1,h2,aK,e2,hA.eo,hA.flat,hA.nY,hA.len,hA.leaf,ac,dn,dK,ca]
end Go.Ab.Lw
namespace Go.Ab.Lw
open Ev
structure Row {α:Type} (f:α→List PV) (sz:Nat):Prop where
 pos:0<sz
 len:∀x,(f x).length=sz
section
variable {α:Type} {f:α→List PV} {sz:Nat}
def eV (f:α→List PV) (l:List α):List AV:=l.flatMap fun x=>(f x).map .pv
theorem Du:eV f []=[]:=rfl
theorem ny {x:α} {l:List α}:eV f (x::l)=(f x).map .pv++eV f l:=rfl
theorem Dv {l m:List α}:eV f (l++m)=eV f l++eV f m:=by simp [eV]
theorem j7 (h:Row f sz):∀{l:List α},(eV f l).length=l.length*sz
 | []=>by simp [eV]
 | x::r=>by rw [ny,List.length_append,List.length_map,h.len,j7 h,List.length_cons,Nat.add_mul];omega
theorem jw {l:List α}:∀v∈eV f l,∃p,v=AV.pv p:=by
 intro v hv
 simp only [eV,List.mem_flatMap,List.mem_map] at hv
 obtain ⟨x,_,p,_,rfl⟩:=hv
 exact ⟨p,rfl⟩
theorem sQ (h:Row f sz):∀{l:List α} {i:Nat} {x:α},l[i]?=some x→(eV f l).drop (i*sz)=(f x).map .pv++eV f (l.drop (i+1))
 | x::r,0,y,e=>by simp at e;subst e;simp [eV]
 | x::r,i+1,y,e=>by
   have ih:=sQ h (l:=r) (i:=i) (x:=y) (by simpa using e)
   rw [ny,List.drop_append,List.drop_eq_nil_of_le (by rw [List.length_map,h.len,Nat.add_mul];omega),List.length_map,h.len,show (i+1)*sz-sz=i*sz from by rw [Nat.add_mul];omega,ih]
   simp
 | [],_,_,e=>by simp at e
theorem wT (h:Row f sz) {l:List α} {i:Nat} {x:α} (e:l[i]?=some x) {o k:Nat} (hk:o+k≤sz):((eV f l).drop (i*sz+o)).take k=(((f x).drop o).take k).map .pv:=by
 rw [←List.drop_drop,sQ h e,List.drop_append,List.take_append,List.length_drop,List.length_map,h.len]
 have e1:k-(sz-o)=0:=by omega
 rw [e1,List.take_zero,List.append_nil,←List.map_drop,←List.map_take]
theorem wU (h:Row f sz):∀{l:List α},∃ps,fm (eV f l)=some ps∧(chunk sz l.length ps).map PV.agg=l.map fun x=>.agg (f x)
 | []=>⟨[],rfl,rfl⟩
 | x::r=>by
   obtain ⟨ps,h1,h2⟩:=wU h (l:=r)
   have key:∀(a:List PV) (b:List AV),fm b=some ps→fm (a.map AV.pv++b)=some (a++ps):=by
     intro a b hb
     induction a with
     | nil=>simpa using hb
     | cons c a ih=>simp only [List.map_cons,List.cons_append,fm,ja,ih]
   refine ⟨f x++ps,key _ _ h1,?_⟩
   simp only [List.length_cons,chunk,List.map_cons]
   rw [List.take_left' (h.len x),List.drop_left' (h.len x),h2]
theorem Dw (h:Row f sz) {l:List α}:((fm (eV f l)).bind (ey sz true l.length)).map PV.aE=some (.aE (l.map fun x=>.agg (f x))):=by
 obtain ⟨ps,h1,h2⟩:=wU h (l:=l)
 rw [h1]
 simp only [Option.bind_some,ey,if_true,Option.map_some,h2]
theorem Dx (h:Row f sz) {l:List α}:((l.map fun x=>PV.agg (f x)).flatMap aL).map AV.pv=eV f l:=by
 induction l with
 | nil=>rfl
 | cons x r ih=>simp only [List.map_cons,List.flatMap_cons,List.map_append,ih,ny,aL]
end
abbrev nn (k:Nat):Sh:=List.replicate k none
theorem sR (k:Nat):dD (nn k):=by
 intro cs hc
 simp [nn,List.mem_replicate] at hc
end Go.Ab.Lw
namespace Go.Ab.Lw
open Ev
inductive Ex.Ok:Ex→Prop
 | mk {e:Ex}:e.kids.length≤1000→e.aG.length≤1000→(∀a∈e.aG,a.vars.length≤1000)→e.ty.Ok→(∀x∈e.ch,x.Ok)→e.Ok
theorem Ex.Ok.k {e:Ex} (h:e.Ok):e.kids.length≤1000:=by cases h;assumption
theorem Ex.Ok.a {e:Ex} (h:e.Ok):e.aG.length≤1000:=by cases h;assumption
theorem Ex.Ok.v {e:Ex} (h:e.Ok):∀a∈e.aG,a.vars.length≤1000:=by cases h;assumption
theorem Ex.Ok.t {e:Ex} (h:e.Ok):e.ty.Ok:=by cases h;assumption
theorem Ex.Ok.c {e:Ex} (h:e.Ok):∀x∈e.ch,x.Ok:=by cases h;assumption
theorem Ex.iJ {e:Ex}:e.ch.length=e.kids.length+e.aG.length:=by simp [Ex.ch]
@[simp] def Ex.cl (e:Ex):List AV:=[.pv (vI e.kind),.pv (vI e.pos),.pv (.str e.name),.pv (vI e.num),.pv (.aE (e.kids.map Ex.pv)),.pv (.aE (e.aG.map Ar.pv)),.pv (vI e.ty.kind),.pv (.str e.ty.name),.pv (vI e.ty.id),.pv (vI e.ty.home),.pv (.aE (e.ty.args.map Ty.pv))]
theorem qh:Row Ex.cells 11:=⟨by omega,fun x=>by rw [Ex.aV];rfl⟩
def Ar.cells (a:Ar):List PV:=.int .i64 a.pos::.str a.d4::.aE (a.vars.map .str)::a.body.cells
theorem qi:Row Ar.cells 14:=⟨by omega,fun x=>by simp [Ar.cells,Ex.aV]⟩
theorem Ex.F_ (e:Ex):e.cells.map AV.pv=e.cl:=by rw [Ex.aV];rfl
@[simp] def Ex.F' (e:Ex) (A:AV):List AV:=[.pv (vI e.kind),.pv (vI e.pos),.pv (.str e.name),.pv (vI e.num),.pv (.aE (e.kids.map Ex.pv)),A,.pv (vI e.ty.kind),.pv (.str e.ty.name),.pv (vI e.ty.id),.pv (vI e.ty.home),.pv (.aE (e.ty.args.map Ty.pv))]
def Gx (A:AV) (as:List Ar) (X:Sh):Prop:=A=.pv (.aE (as.map Ar.pv))∨∃b,b<X.length∧A=.aX b 14 as.length true∧X[b]?=some (some (eV Ar.cells as))
theorem Gx.app {A:AV} {as:List Ar} {X Y:Sh} (h:Gx A as X):Gx A as (X++Y):=by
 rcases h with h | ⟨b,h1,h2,h3⟩
 · exact .inl h
 · exact .inr ⟨b,by rw [List.length_append];omega,h2,by rw [List.getElem?_append_left h1];exact h3⟩
def hV (X:Sh) (l:List Ex):AV:=if l=[] then .own [] 0 else .aX X.length 11 l.length true
def hS (X:Sh) (l:List Ex):Sh:=if l=[] then X else X++[some (eV Ex.cells l)]
def hT (l:List Ex):aq:=if l=[] then [0] else []
theorem BX {X:Sh} (h:dD X) (l:List Ex):dD (hS X l):=by
 unfold hS
 by_cases h0:l=[]
 · rw [if_pos h0];exact h
 · rw [if_neg h0];exact h.app (dD.one jw)
theorem Fe {e:Ex} {A:AV} (ha:e.aG.length≤1000):∀(n i:Nat),e.aG.length-i=n→i≤e.aG.length→∀(X:Sh) (acc:List Ex),dD X→Gx A e.aG X→acc.length+n≤1000000→∃k,
   cl AP g145L0 ⟨[(1,.aN 1 0),(3,hV X acc),(4,.pv (vI i))],[(1,e.F' A)],hS X acc,hT acc⟩ =
     some (.exit 0,⟨[(1,.aN 1 0),(3,hV (X++nn k) (acc++(e.aG.drop i).map eO.body)),(4,.pv (vI e.aG.length)),(12,.pv (.bool false))],[(1,e.F' A)],hS (X++nn k) (acc++(e.aG.drop i).map eO.body),hT (acc++(e.aG.drop i).map eO.body)⟩)
 | 0,i,hn,hi,X,acc,hX,hA,hl=>by
   have:i=e.aG.length:=by omega
   subst this
   refine ⟨0,?_⟩
   rw [List.drop_length,List.map_nil,List.append_nil,show nn 0=[] from rfl,List.append_nil]
   have hn:=(BX hX acc).norm
   have vc:(hV X acc=.own [] 0∧hT acc=[0])∨(∃b z k g,hV X acc=.aX b z k g∧hT acc=[]):=by
     unfold hV hT
     by_cases h0:acc=[]
     · left;simp [h0]
     · right;exact ⟨X.length,11,acc.length,true,by simp [h0],by simp [h0]⟩
   rw [g145L0e]
   rcases vc with ⟨v1,t1⟩ | ⟨b1,z1,k1,f1,v1,t1⟩<;>rw [v1,t1]<;>generalize hS X acc=S0 at hn ⊢ <;>
     rcases hA with rfl | ⟨b,hb,rfl,hx⟩<;>simp [g145B0,hn]
 | n+1,i,hn,hi,X,acc,hX,hA,hl=>by
   have hi:i<e.aG.length:=by omega
   obtain ⟨x,hx⟩:=dS hi
   have hnX:=hX.norm
   have hB11:∀m:Nat,m≤1000000→m*152≤140737488355328:=by omega
   have hcl:=Ex.aV x.body
   rw [eg hx,List.map_cons]
   have step:∃k,cl AP g145L0 ⟨[(1,.aN 1 0),(3,hV (if acc=[] then X else X++[none]) (acc++[x.body])),(4,.pv (vI (i+1:Nat)))],[(1,e.F' A)],hS (if acc=[] then X else X++[none]) (acc++[x.body]),hT (acc++[x.body])⟩ =
     some (.exit 0,⟨[(1,.aN 1 0),(3,hV (X++nn k) (acc++(x.body::(e.aG.drop (i+1)).map eO.body))),(4,.pv (vI e.aG.length)),(12,.pv (.bool false))],[(1,e.F' A)],hS (X++nn k) (acc++(x.body::(e.aG.drop (i+1)).map eO.body)),hT (acc++(x.body::(e.aG.drop (i+1)).map eO.body))⟩):=by
     by_cases h0:acc=[]
     · rw [if_pos h0]
       obtain ⟨k,ih⟩:=Fe ha n (i+1) (by omega) (by omega) X (acc++[x.body]) hX hA (by simp;omega)
       refine ⟨k,?_⟩
       rw [ih]
       simp only [List.append_assoc,List.singleton_append]
     · rw [if_neg h0]
       obtain ⟨k,ih⟩:=Fe ha n (i+1) (by omega) (by omega) (X++[none]) (acc++[x.body]) (hX.app (sR 1)) hA.app (by simp;omega)
       refine ⟨k+1,?_⟩
       have e1:X++[none]++nn k=X++nn (k+1):=by simp [nn,List.replicate_succ]
       rw [ih,e1]
       simp only [List.append_assoc,List.singleton_append]
   obtain ⟨k,ih⟩:=step
   refine ⟨k,?_⟩
   generalize hV (X++nn k) (acc++(x.body::(e.aG.drop (i+1)).map eO.body))=V2 at ih ⊢
   generalize hS (X++nn k) (acc++(x.body::(e.aG.drop (i+1)).map eO.body))=S2 at ih ⊢
   generalize hT (acc++(x.body::(e.aG.drop (i+1)).map eO.body))=T2 at ih ⊢
   have hne:acc++[x.body]≠[]:=by simp
   have hn1:∀Y,dD Y→∀aC ts,bt aC ts (Y++[some (eV Ex.cells (acc++[x.body]))])=(Y++[some (eV Ex.cells (acc++[x.body]))],aC,ts):=fun Y hY=>(hY.app (dD.one jw)).norm
   have hfl:eV Ex.cells (acc++[x.body])=eV Ex.cells acc++x.body.cl:=by rw [Dv,←Ex.F_];simp [eV]
   by_cases h0:acc=[]
   · subst h0
     rw [if_pos rfl] at ih
     have hn2:=hn1 X hX
     simp only [List.nil_append] at hne hn2 hfl ih
     simp only [hV,hS,hT,if_neg hne,if_true] at ih ⊢
     rw [hfl] at hn2 ih
     simp only [Du,List.nil_append] at hn2 ih
     simp only [Ex.cl] at hn2
     rw [g145L0e] at ih ⊢
     rcases hA with rfl | ⟨b,hb,rfl,hxb⟩
     · simp [hn2] at ih
       simp (disch:=omega) [-getElem?_pos,g145B0,hx,hi,aK,hnX]
       rw [g145L0e]
       simp [hn2,ih]
     · have q1:=wT qi hx (o:=3) (k:=11) (by omega)
       have q2:i*14+3+11≤e.aG.length*14:=by omega
       have q3:(eV Ar.cells e.aG).length=e.aG.length*14:=j7 qi
       have q4:db (eV Ar.cells e.aG)=false:=j6 jw
       have q5:(((Ar.cells x).drop 3).take 11).map AV.pv=x.body.cl:=by simp [Ar.cells,hcl]
       rw [q5] at q1
       generalize eV Ar.cells e.aG=T at *
       simp [hn2] at ih q1
       simp (disch:=omega) [-getElem?_pos,g145B0,hx,hi,aK,hnX,hxb,q1,q2,q3,q4]
       rw [g145L0e]
       simp [hn2,ih]
   · rw [if_neg h0] at ih
     have hn2:=hn1 (X++[none]) (hX.app (sR 1))
     have hn3:∀aC ts,bt aC ts (X++[some (eV Ex.cells acc)])=(X++[some (eV Ex.cells acc)],aC,ts):=(hX.app (dD.one jw)).norm
     simp only [hV,hS,hT,if_neg hne,if_neg h0] at ih ⊢
     have r1:(eV Ex.cells acc).length=acc.length*11:=j7 qh
     have r2:db (eV Ex.cells acc)=false:=j6 jw
     have r3:(eV Ex.cells acc).take (acc.length*11)=eV Ex.cells acc:=List.take_of_length_le (by omega)
     have hb2:(acc.length+1)*152≤140737488355328:=by omega
     rw [hfl] at hn2 ih
     rw [List.length_append,List.length_singleton,List.length_append,List.length_singleton] at ih
     have s1:∀u w:Option (List AV),(X++[u]).set X.length w=X++[w]:=fun u w=>by simp
     have s2:∀u:Option (List AV),(X++[u])[X.length]?=some u:=fun u=>by simp
     simp only [Ex.cl] at hn2
     rw [g145L0e] at ih ⊢
     rcases hA with rfl | ⟨b,hb,rfl,hxb⟩
     · generalize eV Ex.cells acc=F at *
       simp [hn2] at ih
       simp (disch:=omega) [-getElem?_pos,g145B0,hx,hi,aK,hn3,r1,r2,r3,s1,s2,hb2]
       rw [g145L0e]
       simp [hn2,ih]
     · have q1:=wT qi hx (o:=3) (k:=11) (by omega)
       have q2:i*14+3+11≤e.aG.length*14:=by omega
       have q3:(eV Ar.cells e.aG).length=e.aG.length*14:=j7 qi
       have q4:db (eV Ar.cells e.aG)=false:=j6 jw
       have q5:(((Ar.cells x).drop 3).take 11).map AV.pv=x.body.cl:=by simp [Ar.cells,hcl]
       have q6:∀u:Option (List AV),(X++[u])[b]?=X[b]?:=fun u=>List.getElem?_append_left hb
       rw [q5] at q1
       generalize eV Ar.cells e.aG=T at *
       generalize eV Ex.cells acc=F at *
       simp [hn2] at ih q1
       simp (disch:=omega) [-getElem?_pos,g145B0,hx,hi,aK,hn3,r1,r2,r3,s1,s2,hb2,hxb,q1,q2,q3,q4,q6]
       rw [g145L0e]
       simp [hn2,ih]
theorem Ff {l:List Ex}:((fm (eV Ex.cells l)).bind (ey 11 true l.length)).map PV.aE=some (.aE (l.map Ex.pv)):=Dw qh
theorem Fg {l:List Ex}:((l.map Ex.pv).flatMap aL).map AV.pv=eV Ex.cells l:=Dx qh
theorem c145 {e:Ex} (h:e.Ok):(aD AP).p 145 [e.pv]=some [.aE (e.ch.map Ex.pv)]:=by
 have hk:=h.k
 have ha:=h.a
 obtain ⟨k,h2⟩:=Fe (A:=.pv (.aE (e.aG.map Ar.pv))) ha _ 0 rfl (by omega) [] e.kids (by intro cs h;simp at h) (.inl rfl) (by omega)
 rw [List.drop_zero] at h2
 change cl AP g145L0 _=some (.exit 0,⟨[(1,.aN 1 0),(3,hV ([]++nn k) e.ch),(4,.pv (vI e.aG.length)),(12,.pv (.bool false))],[(1,e.F' (.pv (.aE (e.aG.map Ar.pv))))],hS ([]++nn k) e.ch,hT e.ch⟩) at h2
 have hb2:e.kids.length*152≤140737488355328:=by omega
 have hm:=Fg (l:=e.kids)
 have hl:=Ff (l:=e.ch)
 have hlen:(eV Ex.cells e.ch).length=e.ch.length*11:=j7 qh
 have hq0:∀aC ts,bt aC ts ([some (eV Ex.cells e.kids)])=([some (eV Ex.cells e.kids)],aC,ts):=(dD.one jw).norm
 rw [aA (af:=g145) rfl rfl (by decide)]
 by_cases hc:e.ch=[]
 · have h0:e.kids=[]∧e.aG=[]:=by have:=hc;simpa [Ex.ch] using this
   simp only [hc,hV,hS,hT,if_true,h0.1] at h2 ⊢
   rw [g145L0e] at h2
   simp [h0.1,h0.2] at h2
   simp [g145,h0.1,h0.2,g145L0e,h2]
 · have hg:∀Z:Option (List AV),([]++nn k++[Z])[k]?=some Z:=fun Z=>by simp
   by_cases h0:e.kids=[]
   · simp only [hV,hS,hT,if_neg hc,h0,if_true] at h2 ⊢
     have hg1:=hg (some (eV Ex.cells e.ch))
     generalize []++nn k++[some (eV Ex.cells e.ch)]=S2 at *
     generalize eV Ex.cells e.ch=F at *
     rw [g145L0e] at h2
     simp [h0] at h2
     simp at hl
     simp [-getElem?_pos,g145,h0,g145L0e,h2,hg1,hlen,hl]
   · simp only [hV,hS,hT,if_neg hc,if_neg h0] at h2 ⊢
     have hg1:=hg (some (eV Ex.cells e.ch))
     generalize []++nn k++[some (eV Ex.cells e.ch)]=S2 at *
     generalize eV Ex.cells e.ch=F at *
     generalize eV Ex.cells e.kids=F0 at *
     rw [g145L0e] at h2
     simp [hq0] at h2 hl
     simp [-getElem?_pos,g145,h0,hb2,hm,hq0,g145L0e,h2,hg1,hlen,hl]
def zO:List AV:=[.pv (vI 0),.pv (vI 0),.pv (.str []),.pv (vI 0),.own [] 0,.own [] 1,.pv (vI 0),.pv (.str []),.pv (vI 0),.pv (vI 0),.own [] 2]
end Go.Ab.Lw
namespace Go.Ab.Lw
open Ev
theorem Ex.l6 {e x:Ex} (h:x∈e.ch):SizeOf.sizeOf x<SizeOf.sizeOf e:=by
 rw [Ex.ch,List.mem_append,List.mem_map] at h
 cases e
 rcases h with h | ⟨a,ha,rfl⟩
 · have:=_root_.List.sizeOf_lt_of_mem h;simp at *;omega
 · have:=_root_.List.sizeOf_lt_of_mem ha;have:=eO.oX a;simp at *;omega
def Ex.sz (e:Ex):Nat:=1+(e.ch.attach.map fun x=>x.1.sz).sum
termination_by SizeOf.sizeOf e
decreasing_by exact Ex.l6 x.2
theorem Ex.j8 (e:Ex):e.sz=1+(e.ch.map Ex.sz).sum:=by
 rw [Ex.sz,List.map_attach_eq_pmap,List.pmap_eq_map]
theorem Ex.qj (e:Ex):1≤e.sz:=by rw [Ex.j8];omega
theorem vX {α:Type} {l:List α} {f:α→Nat} {M:Nat} (h:∀x∈l,f x≤M):(l.map f).sum≤l.length*M:=by
 induction l with
 | nil=>simp
 | cons a r ih=>
   have h1:=h a (by simp)
   have h2:=ih fun x hx=>h x (by simp [hx])
   simp only [List.map_cons,List.sum_cons,List.length_cons,Nat.add_mul]
   omega
theorem jx {α:Type} {l:List α} {f:α→Nat} {x:α} (h:x∈l):f x≤(l.map f).sum:=by
 induction l with
 | nil=>cases h
 | cons a r ih=>
   simp only [List.map_cons,List.sum_cons]
   rcases List.mem_cons.1 h with rfl | h
   · omega
   · have:=ih h;omega
theorem Ex.vY {e x:Ex} (h:x∈e.ch):x.sz<e.sz:=by
 have:=jx (f:=Ex.sz) h
 rw [e.j8]
 omega
end Go.Ab.Lw
namespace Go.Ab.Lw
open Ev
def nG:Nat→List Nat→Nat
 | m,[]=>m
 | m,d::r=>nG (max m (1+d)) r
theorem kM {B:Nat}:∀{l:List Nat} {m:Nat},m≤B→(∀d∈l,1+d≤B)→nG m l≤B
 | [],_,h,_=>h
 | d::r,m,h,hl=>kM (l:=r) (m:=max m (1+d)) (Nat.max_le.2 ⟨h,hl d (by simp)⟩) fun x hx=>hl x (by simp [hx])
def Ex.dp (e:Ex):Nat:=nG 0 (e.ch.attach.map fun x=>x.1.dp)
termination_by SizeOf.sizeOf e
decreasing_by exact Ex.l6 x.2
theorem Ex.gk (e:Ex):e.dp=nG 0 (e.ch.map Ex.dp):=by
 rw [Ex.dp,List.map_attach_eq_pmap,List.pmap_eq_map]
theorem Ex.BY (e:Ex):e.dp<e.sz:=by
 refine Ex.recC (p:=fun e=>e.dp<e.sz) ?_ e
 intro e ih
 rw [Ex.gk]
 have hp:=e.qj
 have:nG 0 (e.ch.map Ex.dp)≤e.sz-1:=kM (by omega) (by
   intro d hd
   rw [List.mem_map] at hd
   obtain ⟨x,hx,rfl⟩:=hd
   have h1:=ih x hx
   have h2:=Ex.vY hx
   omega)
 omega
theorem Ga {ch:List Ex} (hN:ch.length≤1000000) (hB:∀x∈ch,x.dp≤100000000) (ih:∀x∈ch,(aD AP).p 143 [x.pv]=some [vI x.dp]):∀(n i:Nat),ch.length-i=n→i≤ch.length→∀m:Nat,m≤100000001 →
   cl AP g143L0 ⟨[(3,.pv (vI m)),(4,.pv (.aE (ch.map Ex.pv))),(5,.pv (vI i))],[],[],[]⟩ =
     some (.exit 0,⟨[(3,.pv (vI (nG m ((ch.drop i).map Ex.dp):Nat))),(4,.pv (.aE (ch.map Ex.pv))),(5,.pv (vI ch.length)),(11,.pv (.bool false))],[],[],[]⟩)
 | 0,i,hn,hi,m,hm=>by
   have:i=ch.length:=by omega
   subst this
   rw [g143L0e]
   simp [g143B0,nG]
 | n+1,i,hn,hi,m,hm=>by
   have hi:i<ch.length:=by omega
   obtain ⟨x,hx⟩:=dS hi
   have k:=ih x (dm hx)
   have hb:=hB x (dm hx)
   have e:=Ga hN hB ih n (i+1) (by omega) (by omega) (max m (1+x.dp)) (by omega)
   rw [eg hx,List.map_cons]
   simp only [nG]
   generalize nG (max m (1+x.dp)) ((ch.drop (i+1)).map Ex.dp)=M at *
   generalize hd:x.dp=d at *
   rw [g143L0e] at e ⊢
   simp at k e
   by_cases q:m<1+d
   · have q1:(m:Int)<1+d:=by omega
     rw [Nat.max_eq_right (by omega)] at e
     simp at e
     simp (disch:=omega) [-getElem?_pos,g143B0,hx,hi,k,aK,q1]
     rw [g143L0e]
     simp [e]
   · have q1:¬(m:Int)<1+d:=by omega
     rw [Nat.max_eq_left (by omega)] at e
     simp (disch:=omega) [-getElem?_pos,g143B0,hx,hi,k,aK,q1]
     rw [g143L0e]
     simp [e]
theorem c143 (e:Ex):e.Ok→e.sz≤100000000→(aD AP).p 143 [e.pv]=some [vI e.dp]:=by
 refine Ex.recC (p:=fun e=>e.Ok→e.sz≤100000000→(aD AP).p 143 [e.pv]=some [vI e.dp]) ?_ e
 intro e ih ho hs
 have k:=c145 ho
 have hN:e.ch.length≤1000000:=by rw [Ex.iJ];have:=ho.k;have:=ho.a;omega
 rw [aA (af:=g143) rfl rfl (by decide)]
 rw [Ex.gk]
 have e1:=Ga hN (fun x hx=>by have:=x.BY;have:=Ex.vY hx;omega) (fun x hx=>ih x hx (ho.c x hx) (by have:=Ex.vY hx;omega)) _ 0 rfl (by omega) 0 (by omega)
 rw [List.drop_zero] at e1
 generalize nG 0 (e.ch.map Ex.dp)=M at *
 rw [g143L0e] at e1
 simp at k e1
 simp [g143,k,g143L0e,e1]
def Ty.dp (t:Ty):Nat:=nG 0 (t.args.attach.map fun x=>x.1.dp)
termination_by SizeOf.sizeOf t
decreasing_by
 have:=_root_.List.sizeOf_lt_of_mem x.2
 cases t
 simp at *
 omega
theorem Ty.gk (t:Ty):t.dp=nG 0 (t.args.map Ty.dp):=by
 rw [Ty.dp,List.map_attach_eq_pmap,List.pmap_eq_map]
end Go.Ab.Lw
namespace Go.Ab.Lw
open Ev
theorem Hp {α β:Type} (l:List α) (f:α→β):(l.attach.map fun x=>f x.1)=l.map f:=by rw [List.map_attach_eq_pmap,List.pmap_eq_map]
def Ex.strip (e:Ex):Ex:=⟨e.kind,0,e.name,e.num,e.kids.attach.map fun x=>x.1.strip,e.aG.attach.map fun a=>⟨0,a.1.d4,a.1.vars,a.1.body.strip⟩,e.ty⟩
termination_by SizeOf.sizeOf e
decreasing_by
 · exact Ex.l6 (by rw [Ex.ch,List.mem_append];exact .inl x.2)
 · exact Ex.l6 (by rw [Ex.ch,List.mem_append,List.mem_map];exact .inr ⟨a.1,a.2,rfl⟩)
theorem Ex.dG (e:Ex):e.strip=⟨e.kind,0,e.name,e.num,e.kids.map Ex.strip,e.aG.map fun a=>⟨0,a.d4,a.vars,a.body.strip⟩,e.ty⟩:=by
 have h1:=Hp e.kids Ex.strip
 have h2:=Hp e.aG fun a=>(⟨0,a.d4,a.vars,a.body.strip⟩:Ar)
 rw [Ex.strip,h1,h2]
end Go.Ab.Lw
namespace Go.Ab.Lw
open Ev
structure Sl where
 bd:Bool
 ty:Ty
 home:Int
 base:Bool
def Sl.pv (x:Sl):PV:=.agg [.bool x.bd,vI x.ty.kind,.str x.ty.name,vI x.ty.id,vI x.ty.home,.aE (x.ty.args.map Ty.pv),vI x.home,.bool x.base]
@[simp] theorem Sl.iH (x:Sl):x.pv=.agg [.bool x.bd,.int .i64 x.ty.kind,.str x.ty.name,.int .i64 x.ty.id,.int .i64 x.ty.home,.aE (x.ty.args.map Ty.pv),.int .i64 x.home,.bool x.base]:=rfl
structure Ch where
 id:Int
 aC:Sl
 nw:Bool
def Ch.pv (x:Ch):PV:=.agg [vI x.id,.bool x.aC.bd,vI x.aC.ty.kind,.str x.aC.ty.name,vI x.aC.ty.id,vI x.aC.ty.home,.aE (x.aC.ty.args.map Ty.pv),vI x.aC.home,.bool x.aC.base,.bool x.nw]
@[simp] theorem Ch.iH (x:Ch):x.pv=.agg [.int .i64 x.id,.bool x.aC.bd,.int .i64 x.aC.ty.kind,.str x.aC.ty.name,.int .i64 x.aC.ty.id,.int .i64 x.aC.ty.home,.aE (x.aC.ty.args.map Ty.pv),.int .i64 x.aC.home,.bool x.aC.base,.bool x.nw]:=rfl
structure Gy where
 sl:List Sl
 tr:List Ch
def Gy.pv (s:Gy):PV:=.agg [.aE (s.sl.map Sl.pv),.aE (s.tr.map Ch.pv)]
@[simp] theorem Gy.iH (s:Gy):s.pv=.agg [.aE (s.sl.map Sl.pv),.aE (s.tr.map Ch.pv)]:=rfl
end Go.Ab.Lw
namespace Go.Ab.Lw
open Ev
abbrev GS:=Int×Int
def fP (f:GS):PV:=.agg [vI f.1,vI f.2]
@[simp] theorem BF (f:GS):fP f=.agg [vI f.1,vI f.2]:=rfl
abbrev m2 (f:GS):List AV:=[.pv (vI f.1),.pv (vI f.2)]
end Go.Ab.Lw
namespace Go.Ab.Lw
open Ev
inductive Ex.nZ (P:Ex→Prop):Ex→Prop
 | mk {e:Ex}:P e→(∀x∈e.ch,Ex.nZ P x)→Ex.nZ P e
theorem Ex.nZ.h {P:Ex→Prop} {e:Ex} (h:e.nZ P):P e:=by cases h;assumption
theorem Ex.nZ.c {P:Ex→Prop} {e:Ex} (h:e.nZ P):∀x∈e.ch,x.nZ P:=by cases h;assumption
end Go.Ab.Lw
namespace Go.Ab.Lw
open Ev
theorem sS:∀t,t∈gv→t.args=[]:=by
 intro t ht
 simp [gv,cH] at ht
 rcases ht with rfl | rfl | rfl<;>rfl
end Go.Ab.Lw
namespace Go.Ab.Lw
open Ev
def HD (d:Dt):List AV:=[.pv (vI d.pos),.pv (.str d.name),.pv (.aE (d.params.map .str)),.pv (.aE (d.cons.map oV.pv))]
@[simp] theorem GU (d:Dt):HD d=[.pv (vI d.pos),.pv (.str d.name),.pv (.aE (d.params.map .str)),.pv (.aE (d.cons.map oV.pv))]:=rfl
end Go.Ab.Lw
namespace Go.Ab.Lw
open Ev
def HE (a b:List (PV×PV)):Sh:=[some [.dT a],some [.dT b]]
@[simp] theorem GV (a b:List (PV×PV)):HE a b=[some [.dT a],some [.dT b]]:=rfl
def GW (c:oV):List AV:=[.pv (vI c.pos),.pv (.str c.name),.pv (.aE (c.fields.map Ty.pv))]
@[simp] theorem Gz (c:oV):GW c=[.pv (vI c.pos),.pv (.str c.name),.pv (.aE (c.fields.map Ty.pv))]:=rfl
end Go.Ab.Lw
namespace Go.Ab.Lw
open Ev
structure Hd where
 name:bz
 d4:Bool
 args:List Ty
 types:List Ty
def Hd.pv (h:Hd):PV:=.agg [.str h.name,.bool h.d4,.aE (h.args.map Ty.pv),.aE (h.types.map Ty.pv)]
@[simp] theorem Hd.iH (h:Hd):h.pv=.agg [.str h.name,.bool h.d4,.aE (h.args.map Ty.pv),.aE (h.types.map Ty.pv)]:=rfl
end Go.Ab.Lw
namespace Go.Ab.Lw
open Ev
def m6:List AV:=[.pv (vI 0),.pv (vI 0),.pv (.str []),.pv (vI 0),.own [] 0,.own [] 1,.pv (vI 0),.pv (.str []),.pv (vI 0),.pv (vI 0),.own [] 2]
def Dy (d:Dt):List AV:=[.pv (vI d.pos),.pv (.str d.name),.pv (.aE (d.params.map .str)),.pv (.aE (d.cons.map oV.pv))]
def Dz (a:Ex) (as:List Ar):List AV:=[.pv (vI 8),.pv (vI 0),.pv (.str []),.pv (vI 0),.own [a.pv] 3,.own (as.map Ar.pv) 4,.pv (vI 0),.pv (.str []),.pv (vI 0),.pv (vI 0),.own [] 5]
def Gb (c:oV) (vs:List bz):List AV:=[.pv (vI 0),.pv (.str c.name),.own (vs.map .str) 6,.pv (vI 0),.pv (vI 0),.pv (.str []),.pv (vI 0),.own [] 7,.own [] 8,.pv (vI 0),.pv (.str []),.pv (vI 0),.pv (vI 0),.own [] 9]
theorem DZ {L:List Int} (hL:Sm L) {ds:List Dt} {dep:Nat} {d:Dt} {a:Ex} {as:List Ar} {ci:Nat} {c:oV} (hc:d.cons[ci]?=some c) (h8:c.fields.length≤8):∀(n k:Nat),c.fields.length-k=n→k≤c.fields.length→∀(vs:List bz) (i:Nat),vs.length=k→(∀v∈vs,v∈iI)→i≤L.length →
   ∃(r:List bz) (j:Nat),cl AP g247L1 ⟨[(0,.aJ 0 0),(1,.pv (.aE (ds.map Dt.pv))),(2,.pv (vI (dep+1))),(6,.aN 6 0),(13,.aN 13 0),(14,.aN 14 0),(15,.pv (vI ci)),(16,.aN 16 0),(17,.pv (vI k))],
     [(6,m6),(13,Dy d),(14,Dz a as),(16,Gb c vs)],tp L i,[0,0,0,1,as.length,0,vs.length,0,0,0]⟩ =
     some (.exit 3,⟨[(0,.aJ 0 0),(1,.pv (.aE (ds.map Dt.pv))),(2,.pv (vI (dep+1))),(6,.aN 6 0),(13,.aN 13 0),(14,.aN 14 0),(15,.pv (vI ci)),(16,.aN 16 0),(17,.pv (vI c.fields.length)),(179,.pv (.bool false))],
     [(6,m6),(13,Dy d),(14,Dz a as),(16,Gb c r)],tp L j,[0,0,0,1,as.length,0,r.length,0,0,0]⟩) ∧
     r.length=c.fields.length∧(∀v∈r,v∈iI)∧j≤L.length
 | 0,k,hn,hk,vs,i,hv,hm,hi=>by
   have:k=c.fields.length:=by omega
   subst this
   refine ⟨vs,i,?_,hv,hm,hi⟩
   have hcl:=(List.getElem?_eq_some_iff.1 hc).1
   rw [g247L1e]
   simp [-getElem?_pos,g247B1,m6,Dy,Dz,Gb,hc,hcl]
 | n+1,k,hn,hk,vs,i,hv,hm,hi=>by
   have hk:k<c.fields.length:=by omega
   have hcl:=(List.getElem?_eq_some_iff.1 hc).1
   have hb:(vs.length+1)*16≤140737488355328:=by omega
   obtain ⟨s,j,e,hs,hj⟩:=c175 hL hi
   simp at e
   obtain ⟨r,j',e',hr,hm',hj'⟩:=DZ hL hc h8 (a:=a) (as:=as) (ds:=ds) (dep:=dep) n (k+1) (by omega) (by omega) (vs++[s]) j (by simp;omega) (by
     intro x hx;simp at hx;rcases hx with hx | rfl
     · exact hm x hx
     · exact hs) hj
   refine ⟨r,j',?_,hr,hm',hj'⟩
   simp [m6,Dy,Dz,Gb] at e' ⊢
   rw [g247L1e]
   simp (disch:=omega) [-getElem?_pos,g247B1,hc,hcl,hk,aK,e,hb,dC]
   exact e'
def vZ (ds:List Dt) (dep:Nat) (d:Dt) (as:List Ar):Prop:=
 (∀x∈as,dF ds dep x.body)∧(∀x∈as,x.pos=0∧∀v∈x.vars,v∈iI)∧(∀(i:Nat) (c:oV) (x:Ar),d.cons[i]?=some c→as[i]?=some x→x.d4=c.name∧x.vars.length=c.fields.length)
theorem D0 {L:List Int} (hL:Sm L) {ds:List Dt} {dep:Nat} (hdep:dep<1000) (hg:qg L ds dep) {d:Dt} (hD:D8 d) {a:Ex}:∀(n k:Nat),d.cons.length-k=n→k≤d.cons.length→∀(as:List Ar) (i:Nat),as.length=k→vZ ds dep d as→i≤L.length →
   ∃(r:List Ar) (j:Nat),cl AP g247L0 ⟨[(0,.aJ 0 0),(1,.pv (.aE (ds.map Dt.pv))),(2,.pv (vI (dep+1))),(6,.aN 6 0),(13,.aN 13 0),(14,.aN 14 0),(15,.pv (vI k))],
     [(6,m6),(13,Dy d),(14,Dz a as)],tp L i,[0,0,0,1,as.length,0]⟩ =
     some (.exit 1,⟨[(0,.aJ 0 0),(1,.pv (.aE (ds.map Dt.pv))),(2,.pv (vI (dep+1))),(6,.aN 6 0),(13,.aN 13 0),(14,.aN 14 0),(15,.pv (vI d.cons.length)),(161,.pv (.bool false))],
     [(6,m6),(13,Dy d),(14,Dz a r)],tp L j,[0,0,0,1,r.length,0]⟩) ∧
     r.length=d.cons.length∧vZ ds dep d r∧j≤L.length
 | 0,k,hn,hk,as,i,ha,hm,hi=>by
   have:k=d.cons.length:=by omega
   subst this
   refine ⟨as,i,?_,ha,hm,hi⟩
   rw [g247L0e]
   simp [g247B0,m6,Dy,Dz]
 | n+1,k,hn,hk,as,i,ha,hm,hi=>by
   have hk:k<d.cons.length:=by omega
   obtain ⟨c,hc⟩:=dS hk
   obtain ⟨_,_,h8,hf⟩:=hD
   obtain ⟨vs,j,e,hv,hvm,hj⟩:=DZ hL (ds:=ds) (dep:=dep) (a:=a) (as:=as) hc (hf c (dm hc)) _ 0 rfl (by omega) [] i rfl (by simp) hi
   obtain ⟨b,f1,f2,f3,j2,e2,hb,hj2⟩:=hg j hj
   have hB:=dd f1 f2 f3 b
   generalize dn f1 f2 f3 b=B at e2 hB
   have bc:=Ex.aV b
   have tB:B.take 11=B:=List.take_of_length_le (by rw [hB.len];omega)
   have hbb:(as.length+1)*200≤140737488355328:=by omega
   have hm2:vZ ds dep d (as++[⟨0,c.name,vs,b⟩]):=by
     refine ⟨?_,?_,?_⟩
     · intro x hx
       simp at hx
       rcases hx with hx | rfl
       · exact hm.1 x hx
       · exact hb
     · intro x hx
       simp at hx
       rcases hx with hx | rfl
       · exact hm.2.1 x hx
       · exact ⟨rfl,hvm⟩
     · intro i c' x h1 h2
       by_cases hlt:i<as.length
       · rw [List.getElem?_append_left hlt] at h2
         exact hm.2.2 i c' x h1 h2
       · rw [List.getElem?_append_right (by omega)] at h2
         have:i-as.length=0:=by
           have:=(List.getElem?_eq_some_iff.1 h2).1
           simpa using this
         have hik:i=k:=by omega
         subst hik
         rw [hc] at h1
         cases h1
         rw [this] at h2
         simp at h2
         subst h2
         exact ⟨rfl,hv⟩
   obtain ⟨r,j',e',hr,hm',hj'⟩:=D0 hL hdep hg ⟨by assumption,by assumption,h8,hf⟩ (a:=a) n (k+1) (by omega) (by omega) (as++[⟨0,c.name,vs,b⟩]) j2 (by simp;omega) hm2 hj2
   refine ⟨r,j',?_,hr,hm',hj'⟩
   have hd1:(dep:Int)+1-1=dep:=by omega
   rw [g247L1e] at e
   rw [g247L0e] at e'
   simp [m6,Dy,Dz,Gb] at e e' e2 ⊢
   rw [g247L0e]
   simp (disch:=omega) [-getElem?_pos,g247B0,hc,hk,aK,hd1,g247L1e,e,e2,hbb,dC,hB.eo,hB.flat,hB.nY,hB.len,hB.leaf,tB,bc]
   rw [g247L0e]
   simp [e']
theorem BZ {L:List Int} (hL:Sm L) {ds:List Dt} (hds:ds.length≤8) (hD:∀d∈ds,D8 d) {dep:Nat} (hdep:dep<1000) (hg:qg L ds dep) {i j1:Nat} {k:Int} (hj1:j1≤L.length)
   (e1:(aD AP).i 68 [.aJ 0 0,.pv (vI 14)] (tp L i) []=some ([.pv (vI k)],tp L j1,[])) (k13:k=13) :
   ∃(e:Ex) (fk fa fg:Bool) (j:Nat),(aD AP).i 247 [.aJ 0 0,.pv (.aE (ds.map Dt.pv)),.pv (vI (dep+1:Nat))] (tp L i) []=some ([.agg (dn fk fa fg e)],tp L j,[])∧dF ds (dep+1) e∧j≤L.length:=by
 subst k13
 simp at e1
 have h1:¬((dep:Int)+1<1):=by omega
 have h2:(dep:Int)+1-1=dep:=by omega
 by_cases h0:ds=[]
 · subst h0
   obtain ⟨a,f1,f2,f3,j2,e2,ha,hj2⟩:=hg j1 hj1
   refine ⟨a,f1,f2,f3,j2,?_,.up ha,hj2⟩
   rw [az (af:=g247) rfl (by simp [g247])]
   cases f1<;>cases f2<;>cases f3<;>simp [dn,dK] at e2<;>simp (disch:=omega) [g247,e1,h1,h2,aK,e2,dn,dK,dC]
 · have hp:0<ds.length:=List.length_pos_iff.2 h0
   obtain ⟨r,j2,e2,r0,r1,hj2⟩:=c68 hL hj1 (n:=ds.length) (by omega) (by omega)
   obtain ⟨m,rfl,hm⟩:=vT r0 r1
   obtain ⟨d,hx⟩:=dS hm
   have hDd:=hD d (dm hx)
   obtain ⟨a,f1,f2,f3,j3,e3,ha,hj3⟩:=hg j2 hj2
   have hA:=dd f1 f2 f3 a
   generalize dn f1 f2 f3 a=A at e3 hA
   have ac:=Ex.aV a
   obtain ⟨as,j4,e4,HF,hao,hj4⟩:=D0 hL hdep hg hDd (a:=a) _ 0 rfl (by omega) [] j3 rfl ⟨by simp,by simp,by simp⟩ hj3
   simp at e2 e3
   refine ⟨⟨8,0,[],0,[a],as,ca⟩,false,false,false,j4,?_,.nv (dm hx) ha HF hao.1 hao.2.1 hao.2.2,hj4⟩
   rw [az (af:=g247) rfl (by simp [g247])]
   rw [g247L0e] at e4
   simp [m6,Dy,Dz] at e4
   simp (disch:=omega) [-getElem?_pos,g247,e1,h1,h2,h0,aK,e2,e3,hp,hx,hA.eo,hA.flat,hA.nY,hA.len,hA.leaf,ac,g247L0e,e4,dC,dn,dK,ca]
theorem c247 {L:List Int} (hL:Sm L) {ds:List Dt} (hds:ds.length≤8) (hD:∀d∈ds,D8 d):∀dep:Nat,dep<1000→qg L ds dep
 | 0,_=>fun i hi=>by
   obtain ⟨k,j1,e1,k0,k14,hj1⟩:=c68 hL hi (n:=14) (by omega) (by omega)
   exact sP hL hds hD hj1 e1 k0 (by simp)
 | dep+1,h=>fun i hi=>by
   obtain ⟨k,j1,e1,k0,k14,hj1⟩:=c68 hL hi (n:=14) (by omega) (by omega)
   have hg:=c247 hL hds hD dep (by omega)
   by_cases h5:k<5
   · exact sP hL hds hD hj1 e1 k0 (by simpa using h5)
   · by_cases h12:k≤12
     · exact BW hL hds hD (by omega) hg hj1 e1 (by omega) h12
     · exact BZ hL hds hD (by omega) hg hj1 e1 (by omega)
end Go.Ab.Lw
namespace Go.Ab.Lw
open Ev
def GX:AV→List Nat
 | .aX b _ _ _=>[b]
 | _=>[]
theorem wE (l:List PV):(l.map AV.pv).flatMap GX=[]:=by
 induction l with
 | nil=>rfl
 | cons a r ih=>rw [List.map_cons,List.flatMap_cons,ih];rfl
end Go.Ab.Lw
namespace Go.Ab.Lw
open Ev
def HG (p:List Int):PV:=.aE (p.map vI)
@[simp] theorem GY (p:List Int):HG p=.aE (p.map vI):=rfl
end Go.Ab.Lw
namespace Go.Ab.Lw
open Ev
theorem oY (e:Ex):e.strip.ch=e.ch.map Ex.strip:=by
 rw [Ex.dG]
 simp only [Ex.ch,List.map_append,List.map_map,Function.comp_def]
theorem sT (e:Ex):e.strip.sz=e.sz:=by
 refine Ex.recC (p:=fun e=>e.strip.sz=e.sz) ?_ e
 intro e ih
 rw [Ex.j8,Ex.j8 e,oY,List.map_map]
 have:e.ch.map (Ex.sz ∘ Ex.strip)=e.ch.map Ex.sz:=List.map_congr_left fun x hx=>ih x hx
 rw [this]
end Go.Ab.Lw
namespace Go.Ab.Lw
open Ev
theorem kN {t x:Ty} (h:x∈t.args):x.nodes.length<t.nodes.length:=by
 have:=jx (f:=fun y:Ty=>y.nodes.length) h
 have h2:t.nodes.length=1+(t.args.map fun y=>y.nodes.length).sum:=by
   rw [Ty.dE,List.length_cons,List.length_flatMap]
   omega
 omega
theorem Ty.BY (t:Ty):t.dp<t.nodes.length:=by
 refine Ty.sK (p:=fun t=>t.dp<t.nodes.length) ?_ t
 intro t ih
 rw [Ty.gk]
 have hp:1≤t.nodes.length:=by cases t;rw [Ty.nodes];simp
 have:nG 0 (t.args.map Ty.dp)≤t.nodes.length-1:=kM (by omega) (by
   intro d hd
   rw [List.mem_map] at hd
   obtain ⟨x,hx,rfl⟩:=hd
   have h1:=ih x hx
   have h2:=kN hx
   omega)
 omega
def sU (t:Ty):List AV:=[.pv (vI t.kind),.pv (.str t.name),.pv (vI t.id),.pv (vI t.home),.pv (.aE (t.args.map Ty.pv))]
theorem Hq {t:Ty} {ch:List Ty} (hch:ch=t.args) (hN:ch.length≤1000000000000000000) (hB:∀x∈ch,x.dp≤100000000) (ih:∀x∈ch,(aD AP).p 52 [x.pv]=some [vI x.dp]):∀(n i:Nat),ch.length-i=n→i≤ch.length→∀m:Nat,m≤100000001 →
   cl AP g52L0 ⟨[(1,.aN 1 0),(3,.pv (vI m)),(4,.pv (vI i))],[(1,sU t)],[],[]⟩ =
     some (.exit 0,⟨[(1,.aN 1 0),(3,.pv (vI (nG m ((ch.drop i).map Ty.dp):Nat))),(4,.pv (vI ch.length)),(9,.pv (.bool false))],[(1,sU t)],[],[]⟩)
 | 0,i,hn,hi,m,hm=>by
   have:i=ch.length:=by omega
   subst this
   rw [g52L0e]
   simp [g52B0,nG,sU,hch]
 | n+1,i,hn,hi,m,hm=>by
   have hi:i<ch.length:=by omega
   obtain ⟨x,hx⟩:=dS hi
   have k:=ih x (dm hx)
   have hb:=hB x (dm hx)
   have e:=Hq hch hN hB ih n (i+1) (by omega) (by omega) (max m (1+x.dp)) (by omega)
   rw [eg hx,List.map_cons]
   simp only [nG]
   generalize nG (max m (1+x.dp)) ((ch.drop (i+1)).map Ty.dp)=M at *
   generalize hd:x.dp=d at *
   subst hch
   rw [g52L0e] at e ⊢
   simp [sU] at k e
   by_cases q:m<1+d
   · have q1:(m:Int)<1+d:=by omega
     rw [Nat.max_eq_right (by omega)] at e
     simp [sU] at e
     simp (disch:=omega) [-getElem?_pos,g52B0,sU,hx,hi,k,aK,q1]
     rw [g52L0e]
     simp [e]
   · have q1:¬(m:Int)<1+d:=by omega
     rw [Nat.max_eq_left (by omega)] at e
     simp (disch:=omega) [-getElem?_pos,g52B0,sU,hx,hi,k,aK,q1]
     rw [g52L0e]
     simp [e]
theorem c52 (t:Ty):t.Ok→t.nodes.length≤100000000→(aD AP).p 52 [t.pv]=some [vI t.dp]:=by
 refine Ty.sK (p:=fun t=>t.Ok→t.nodes.length≤100000000→(aD AP).p 52 [t.pv]=some [vI t.dp]) ?_ t
 intro t ih ho hs
 have hN:t.args.length≤1000000000000000000:=by have:=ho.sm;unfold Sm at this;omega
 rw [aA (af:=g52) rfl rfl (by decide)]
 rw [Ty.gk]
 have e1:=Hq (t:=t) rfl hN (fun x hx=>by have:=x.BY;have:=kN hx;omega) (fun x hx=>ih x hx (ho.Hm x hx) (by have:=kN hx;omega)) _ 0 rfl (by omega) 0 (by omega)
 rw [List.drop_zero] at e1
 generalize nG 0 (t.args.map Ty.dp)=M at *
 rw [g52L0e] at e1
 simp [sU] at e1
 simp [g52,g52L0e,e1]
end Go.Ab.Lw
namespace Go.Ab.Lw
open Ev
theorem eD {a b:List UInt8} (h:a.length+b.length≤9223372036854775807):a5 (.bin .add) [.pv (.str a),.pv (.str b)]=some (.pv (.str (a++b))):=by rw [cT,if_pos h]
structure iK (AQ:Nat→Option aB):Prop where
 HH:AQ 248=some g248
 HI:AQ 252=some g252
 GZ:AQ 255=some g255
 G4:AQ 257=some g257
 G5:AQ 258=some g258
 G6:AQ 259=some g259
 G7:AQ 260=some g260
 G8:AQ 264=some g264
 G9:AQ 265=some g265
 G_:AQ 269=some g269
def fR (b:Bool) (s:bz):bz:=if b then 40::(s++[41]) else s
theorem gI {b:Bool} {s:bz}:(fR b s).length≤s.length+2:=by cases b<;>simp [fR]
theorem skolem {α β:Type} [Inhabited β] {l:List α} {P:α→β→Prop} (h:∀x∈l,∃y,P x y):∃f:α→β,∀x∈l,P x (f x):=by
 classical
 refine ⟨fun x=>if hx:x∈l then Classical.choose (h x hx) else default,fun x hx=>?_⟩
 simp only [hx,dif_pos]
 exact Classical.choose_spec (h x hx)
section
variable {AQ:Nat→Option aB}
theorem c258 (hQ:iK AQ) {s:bz} {b:Bool} (h:s.length≤1000000000000000000):(aD AQ).p 258 [.str s,.bool b]=some [.str (fR b s)]:=by
 rw [aA (af:=g258) hQ.G5 rfl (by decide)]
 cases b<;>simp (disch:=first | omega | (simp only [List.length_append,List.length_cons,List.length_nil];omega)) [-cT,eD,g258,fR]
def Ty.cX (t:Ty):Bool:=decide (t.kind=4) && (decide (t.name=[45,62]) && decide (t.args.length=2))
theorem c264 (hQ:iK AQ) {t:Ty}:(aD AQ).p 264 [t.pv]=some [.bool t.cX]:=by
 rw [aA (af:=g264) hQ.G8 rfl (by decide)]
 by_cases h1:t.kind=4
 · by_cases h2:t.name=[45,62]
   · have e:decide ((t.args.length:Int)=2)=decide (t.args.length=2):=by simp;omega
     simp [g264,Ty.cX,h1,h2,e]
     omega
   · simp [g264,Ty.cX,h1,h2]
 · simp [g264,Ty.cX,h1]
theorem c265 (hQ:iK AQ) {t:Ty} {s:bz} (h:(aD AQ).p 252 [t.pv]=some [.str s]) (hs:s.length≤1000000000000000000) :
   (aD AQ).p 265 [t.pv]=some [.str (fR (decide (t.kind=4) && decide (t.args≠[])) s)]:=by
 have k:∀b,(aD AQ).p 258 [.str s,.bool b]=some [.str (fR b s)]:=fun b=>c258 hQ (b:=b) hs
 rw [aA (af:=g265) hQ.G9 rfl (by decide)]
 have kt:=k true
 have kf:=k false
 clear k
 simp [fR] at kt kf
 by_cases h1:t.kind=4
 · by_cases h2:t.args=[]
   · simp [h1,h2] at h
     simp [g265,h,h1,h2,kf,fR]
   · have h3:0<t.args.length:=List.length_pos_iff.2 h2
     simp [h1] at h
     simp [g265,h,h1,h2,h3,kt,fR]
 · simp at h
   simp [g265,h,h1,kf,fR]
theorem Gc (hQ:iK AQ) {args:List Ty} {f:Ty→bz} {M:Nat} (hA:args.length≤10000) (hM:M≤10000000000) (hf:∀x∈args,(aD AQ).p 265 [x.pv]=some [.str (f x)]∧(f x).length≤M) :
   ∀(n i:Nat),args.length-i=n→i≤args.length→∀acc:bz,acc.length≤100+i*(M+1) →
   cl AQ g252L0 ⟨[(3,.pv (.str acc)),(52,.pv (.aE (args.map Ty.pv))),(53,.pv (vI args.length)),(54,.pv (vI i))],[],[],[]⟩ =
     some (.exit 1,⟨[(3,.pv (.str (acc++(args.drop i).flatMap fun x=>32::f x))),(52,.pv (.aE (args.map Ty.pv))),(53,.pv (vI args.length)),(54,.pv (vI args.length)),(55,.pv (.bool false))],[],[],[]⟩)
 | 0,i,hn,hi,acc,ha=>by
   have:i=args.length:=by omega
   subst this
   rw [g252L0e]
   simp [g252B0]
 | n+1,i,hn,hi,acc,ha=>by
   have hi:i<args.length:=by omega
   obtain ⟨x,hx⟩:=dS hi
   obtain ⟨c,hl⟩:=hf x (dm hx)
   have hmul:(i+1)*(M+1)=i*(M+1)+(M+1):=Nat.add_mul _ _ _ |>.trans (by omega)
   have hi10:i*(M+1)≤10000*(M+1):=Nat.mul_le_mul_right _ (by omega)
   have ih:=Gc hQ hA hM hf n (i+1) (by omega) (by omega) (acc++32::f x) (by simp;omega)
   rw [g252L0e] at ih ⊢
   rw [eg hx]
   simp at c ih
   simp (disch:=first | omega | (simp only [List.length_append,List.length_cons,List.length_nil];omega)) [-cT,eD,-getElem?_pos,g252B0,hi,hx,c,aK]
   rw [g252L0e]
   simp [ih]
end
theorem B0 {l:List Ty} {g:Ty→bz} (h:∀x∈l,(g x).length≤105*x.nodes.length):(l.flatMap g).length≤105*(l.flatMap Ty.nodes).length:=by
 induction l with
 | nil=>simp
 | cons a r ih=>
   have h1:=h a (by simp)
   have h2:=ih fun x hx=>h x (by simp [hx])
   simp only [List.flatMap_cons,List.length_append]
   omega
theorem zF {t x:Ty} (h:x∈t.args):x.nodes.length<t.nodes.length:=by
 have:=jx (f:=fun x:Ty=>x.nodes.length) h
 rw [t.dE]
 simp only [List.length_cons,List.length_flatMap]
 omega
end Go.Ab.Lw
namespace Go.Ab.Lw
open Ev
def Ex.bl (e:Ex):Bool:=decide (e.kind=1) || (decide (e.kind=2) || (decide (e.kind=3) || (decide (e.kind=10) || (decide (e.kind=9) || decide (e.kind=11)))))
section
variable {AQ:Nat→Option aB}
theorem c255 (hQ:iK AQ) {n:Int} (h0:0≤n) (h4:n<4):(aD AQ).p 255 [vI n]=some [.str (Lib.decDigits n.toNat)]:=by
 rw [wA hQ.GZ rfl]
 have h1:-9223372036854775808≤n:=by omega
 have h2:n≤9223372036854775807:=by omega
 have h3:¬n<0:=by omega
 simp [l5,Lib.itoa,h1,h2,h3]
theorem c259 (hQ:iK AQ) {e:Ex}:(aD AQ).p 259 [e.pv]=some [.bool e.bl]:=by
 rw [aA (af:=g259) hQ.G6 rfl (by decide)]
 by_cases h1:e.kind=1
 · simp [g259,Ex.bl,h1]
 · by_cases h2:e.kind=2
   · simp [g259,Ex.bl,h2]
   · by_cases h3:e.kind=3
     · simp [g259,Ex.bl,h3]
     · by_cases h4:e.kind=10
       · simp [g259,Ex.bl,h4]
       · by_cases h5:e.kind=9
         · simp [g259,Ex.bl,h5]
         · by_cases h6:e.kind=11
           · simp [g259,Ex.bl,h6]
           · simp [g259,Ex.bl,h1,h2,h3,h4,h5,h6]
theorem c257 (hQ:iK AQ) {e:Ex} {i:Nat} {x:Ex} (hx:e.kids[i]?=some x) {s:bz} (h:(aD AQ).p 248 [x.pv]=some [.str s]) :
   (aD AQ).i 257 [.pv (vI i),.aJ 0 0] [some e.cl] []=some ([.pv (.str s)],[some e.cl],[]):=by
 have hi:=(List.getElem?_eq_some_iff.1 hx).1
 rw [az (af:=g257) hQ.G4 (by simp [g257])]
 simp at h
 simp [-getElem?_pos,g257,hx,h,hi]
theorem c269 (hQ:iK AQ) {xs:List bz} {sep:bz} (h1:xs.length≤1000000000) (h2:(Lib.join xs sep).length≤140737488355328):(aD AQ).p 269 [.aE (xs.map .str),.str sep]=some [.str (Lib.join xs sep)]:=by
 rw [wA hQ.G_ rfl]
 simp only [qd,vP]
 rw [if_pos ⟨h1,h2⟩]
def dW (f:Ar→bz) (a:Ar):bz:=Lib.join (a.d4::a.vars) [32]++[46,32]++f a
def jy (T:List bz):List AV:=T.map fun s=>.pv (.str s)
theorem wV {T:List bz}:(jy T).length=T.length:=by simp [jy]
theorem DA {T:List bz} {i:Nat} {s:bz} (hi:i<T.length):aO (jy T) i [.pv (.str s)]=jy (T.set i s):=by
 unfold jy
 rw [List.map_set,List.set_eq_take_append_cons_drop,if_pos (by simpa using hi)]
 simp [aO]
theorem DB {T:List bz}:((fm (jy T)).bind (ey 1 false T.length)).map PV.aE=some (.aE (T.map .str)):=by
 have:fm (jy T)=some (T.map .str):=by
   induction T with
   | nil=>rfl
   | cons x r ih=>simp only [jy,List.map_cons,fm,ja] at ih ⊢;rw [ih]
 rw [this]
 simp [ey]
theorem nA {T:List bz}:∀v∈jy T,∃p,v=AV.pv p:=by
 intro v hv
 simp only [jy,List.mem_map] at hv
 obtain ⟨s,_,rfl⟩:=hv
 exact ⟨_,rfl⟩
theorem Ge (hQ:iK AQ) {aG:List Ar} {f:Ar→bz} {M:Nat} (hA:aG.length≤10) (hM:M≤1000000000000000) (hf:∀x∈aG,(aD AQ).p 248 [x.body.pv]=some [.str (f x)]∧(f x).length≤M∧x.vars.length≤10∧(Lib.join (x.d4::x.vars) [32]).length≤10000) :
   ∀(n i:Nat),aG.length-i=n→i≤aG.length→∀T:List bz,T.length=aG.length →
   cl AQ g260L0 ⟨[(3,.aX 0 1 aG.length false),(9,.pv (.aE (aG.map Ar.pv))),(10,.pv (vI aG.length)),(11,.pv (vI i))],[],[some (jy T)],[]⟩ =
     some (.exit 0,⟨[(3,.aX 0 1 aG.length false),(9,.pv (.aE (aG.map Ar.pv))),(10,.pv (vI aG.length)),(11,.pv (vI aG.length)),(12,.pv (.bool false))],[],[some (jy (T.take i++(aG.drop i).map (dW f)))],[]⟩)
 | 0,i,hn,hi,T,hT=>by
   have:i=aG.length:=by omega
   subst this
   rw [List.take_of_length_le (by omega),List.drop_length]
   have hq:∀aC ts,bt aC ts [some (jy T)]=([some (jy T)],aC,ts):=(dD.one nA).norm
   simp only [List.map_nil,List.append_nil]
   generalize jy T=X at *
   rw [g260L0e]
   simp [g260B0,hq]
 | n+1,i,hn,hi,T,hT=>by
   have hi:i<aG.length:=by omega
   obtain ⟨x,hx⟩:=dS hi
   obtain ⟨cb,lb,lv,lj⟩:=hf x (dm hx)
   have cj:=c269 hQ (xs:=x.d4::x.vars) (sep:=[32]) (by simp;omega) (by omega)
   have ih:=Ge hQ hA hM hf n (i+1) (by omega) (by omega) (T.set i (dW f x)) (by simpa using hT)
   have e1:(T.set i (dW f x)).take (i+1)++(aG.drop (i+1)).map (dW f)=T.take i++(aG.drop i).map (dW f):=by
     rw [List.set_eq_take_append_cons_drop,if_pos (by omega),eg hx,List.take_append,List.take_of_length_le (by simp;omega)]
     have:i+1-(T.take i).length=1:=by simp;omega
     rw [this]
     simp
   rw [e1] at ih
   have hset:=DA (T:=T) (i:=i) (s:=dW f x) (by omega)
   have hq:∀aC ts,bt aC ts [some (jy T)]=([some (jy T)],aC,ts):=(dD.one nA).norm
   have hq1:∀aC ts,bt aC ts [some (jy (T.set i (dW f x)))]=([some (jy (T.set i (dW f x)))],aC,ts):=(dD.one nA).norm
   have hB:db (jy T)=false:=j6 nA
   have hlen:(jy T).length=aG.length:=by rw [wV,hT]
   have hb:(x.vars.length+1)*16≤140737488355328:=by omega
   have hb2:(1+x.vars.length)*16≤140737488355328:=by omega
   clear e1
   generalize jy (T.set i (dW f x))=X1 at *
   generalize jy T=X at *
   generalize jy (T.take i++(aG.drop i).map (dW f))=X2 at *
   unfold dW at hset
   generalize Lib.join (x.d4::x.vars) [32]=J at *
   rw [g260L0e] at ih ⊢
   simp at cb ih cj
   simp at hset
   have hle:i+1≤aG.length:=by omega
   have hqL:∀aC ts,aS aC ts X1=(X1,aC,ts):=fun aC ts=>by have:=hq1 aC ts;simp [bt] at this;exact Prod.ext this.1 (Prod.ext this.2.1 this.2.2)
   try simp only [hqL] at ih
   by_cases hv:x.vars=[]
   · simp [hv] at cj
     simp (disch:=first | omega | (simp only [List.length_append,List.length_cons,List.length_nil];omega)) [-cT,eD,-getElem?_pos,g260B0,hq,hi,hx,cb,cj,hv,hB,hlen,hle,hset,aK]
     rw [g260L0e]
     simp [hqL,ih]
   · simp (disch:=first | omega | (simp only [List.length_append,List.length_cons,List.length_nil];omega)) [-cT,eD,-getElem?_pos,g260B0,hq,hi,hx,cb,cj,hv,hb,hb2,hB,hlen,hle,hset,aK]
     rw [g260L0e]
     simp [hqL,ih]
theorem c260 (hQ:iK AQ) {aG:List Ar} {f:Ar→bz} {M:Nat} (hA:aG.length≤10) (hM:M≤1000000000000000) (hf:∀x∈aG,(aD AQ).p 248 [x.body.pv]=some [.str (f x)]∧(f x).length≤M∧x.vars.length≤10∧(Lib.join (x.d4::x.vars) [32]).length≤10000)
   (hj:(Lib.join (aG.map (dW f)) [32,124,32]).length≤140737488355328):(aD AQ).p 260 [.aE (aG.map Ar.pv)]=some [.str (Lib.join (aG.map (dW f)) [32,124,32])]:=by
 have h:=Ge hQ hA hM hf _ 0 rfl (by omega) (List.replicate aG.length []) (by simp)
 have c:=c269 hQ (xs:=aG.map (dW f)) (sep:=[32,124,32]) (by simp;omega) hj
 have hfr:=DB (T:=aG.map (dW f))
 have hlen:=wV (T:=aG.map (dW f))
 have hrep:(List.replicate aG.length [AV.pv (PV.str [])]).flatten=jy (List.replicate aG.length []):=by
   simp [jy]
 have hb:(aG.length:Int)*16≤140737488355328:=by omega
 have h9:(aG.length:Int)≤9223372036854775807:=by omega
 rw [List.drop_zero,List.take_zero,List.nil_append] at h
 rw [List.length_map] at hfr hlen
 have hq:∀aC ts,bt aC ts [some (jy (List.replicate aG.length []))]=([some (jy (List.replicate aG.length []))],aC,ts):=(dD.one nA).norm
 generalize Lib.join (aG.map (dW f)) [32,124,32]=J at *
 generalize aG.map (dW f)=Y at *
 generalize jy Y=Z at *
 generalize jy (List.replicate aG.length [])=X at *
 rw [aA (af:=g260) hQ.G7 rfl (by decide)]
 rw [g260L0e] at h
 simp [hq] at h
 simp at hfr c hrep
 simp [-getElem?_pos,g260,hb,h9,hrep,g260L0e,hq,h,hlen,hfr,c]
end
end Go.Ab.Lw
namespace Go.Ab.Lw
open Ev
theorem join_le {l:List bz} {sep:bz} {M:Nat} (h:∀x∈l,x.length≤M):(Lib.join l sep).length≤l.length*(M+sep.length):=by
 cases l with
 | nil=>simp [Lib.join_nil]
 | cons x r=>
   rw [Lib.join_cons]
   have h1:=h x (by simp)
   have:∀r:List bz,(∀y∈r,y.length≤M)→(Lib.joinTail sep r).length≤r.length*(M+sep.length):=by
     intro r
     induction r with
     | nil=>intro _;simp [Lib.joinTail]
     | cons y r ih=>
       intro hl
       have a1:=ih fun z hz=>hl z (by simp [hz])
       have a2:=hl y (by simp)
       simp only [Lib.joinTail,List.map_cons,List.flatten_cons,List.length_append,List.length_cons,Nat.add_mul] at a1 ⊢
       omega
   have a:=this r fun y hy=>h y (by simp [hy])
   simp only [List.length_append,List.length_cons,Nat.add_mul] at a ⊢
   omega
theorem B1 {α:Type} {l:List α} {f:α→bz} {sep:bz} {g:α→Nat} (h:∀x∈l,(f x).length+sep.length≤g x):(Lib.join (l.map f) sep).length≤(l.map g).sum:=by
 have tail:∀r:List α,(∀x∈r,(f x).length+sep.length≤g x)→(Lib.joinTail sep (r.map f)).length≤(r.map g).sum:=by
   intro r
   induction r with
   | nil=>intro _;simp [Lib.joinTail]
   | cons y r ih=>
     intro hl
     have a1:=ih fun z hz=>hl z (by simp [hz])
     have a2:=hl y (by simp)
     simp only [Lib.joinTail,List.map_cons,List.flatten_cons,List.length_append,List.sum_cons] at a1 ⊢
     omega
 cases l with
 | nil=>simp [Lib.join_nil]
 | cons x r=>
   rw [List.map_cons,Lib.join_cons]
   have h1:=h x (by simp)
   have a:=tail r fun y hy=>h y (by simp [hy])
   simp only [List.length_append,List.map_cons,List.sum_cons] at a ⊢
   omega
theorem v3 {e a:Ex} (h:e.kids=[a]):a.sz+1≤e.sz:=by
 rw [e.j8,Ex.ch,h];simp;omega
theorem v5 {e a b:Ex} (h:e.kids=[a,b]):a.sz+b.sz+1≤e.sz:=by
 rw [e.j8,Ex.ch,h];simp;omega
def gw:List Ar→Nat
 | []=>0
 | x::r=>x.body.sz+gw r
theorem nB:∀{l:List Ar} {x:Ar},x∈l→x.body.sz≤gw l
 | y::r,x,h=>by
   simp only [gw]
   rcases List.mem_cons.1 h with rfl | h
   · omega
   · have:=nB h;omega
theorem DC {e a:Ex} (h:e.kids=[a]):a.sz+gw e.aG+1=e.sz:=by
 have:∀l:List Ar,((l.map eO.body).map Ex.sz).sum=gw l:=by
   intro l
   induction l with
   | nil=>rfl
   | cons x r ih=>simp only [List.map_cons,List.sum_cons,gw,ih]
 rw [e.j8,Ex.ch,h,List.map_append,List.sum_append,this]
 simp only [List.map_cons,List.map_nil,List.sum_cons,List.sum_nil]
 omega
end Go.Ab.Lw
namespace Go.Ab.Lw
open Ev
theorem dL:iK AP:=⟨rfl,rfl,rfl,rfl,rfl,rfl,rfl,rfl,rfl,rfl⟩
theorem c244:(aD AP).p 244 []=some [.bool true]:=Fc.zB (k:=400) (n:=40) (by kernel_rfl)
end Go.Ab.Lw
namespace Go.Ab.Lw
open Ev
theorem zG:ca.nodes.length≤100000000:=by rw [Ty.dE];simp [ca]
end Go.Ab.Lw
namespace Go.Ab.Lw
open Ev
def Hr (p:Int):Ex:=⟨10,p,[],0,[],[],ca⟩
def Gf (p:Int) (s:bz) (e:Ex):Ex:=⟨4,p,s,0,[e],[],ca⟩
def B2 (p:Int) (a b:Ex):Ex:=⟨5,p,[],0,[a,b],[],ca⟩
theorem zH {L:List aQ} {I:Nat} {t:aQ} (h:L[I]?=some t) (hL:L.length≤4000) (hk:t.kind=5) (ht:t.text=[63]):∃a b c,(aD AP).i 141 [.aJ 0 0] (rd L I) []=some ([.agg (dn a b c (Hr t.pos))],rd L (I+1),[]):=by
 refine ⟨true,true,true,?_⟩
 have k1:=c126r h
 have k2:=c129r h (k:=1)
 have k3:=c129r h (k:=2)
 have k4:=c129r h (k:=3)
 have k5:=c132t h hL (s:=[63]) (by simp [aQ.d3,hk,ht])
 rw [hk] at k2 k3 k4
 rw [az (af:=g141) rfl (by simp [g141])]
 simp at k1 k2 k3 k4 k5
 simp [g141,k1,k2,k3,k4,k5,dn,dK,Hr,ca]
def i_ (g:Nat) (L:List aQ) (I:Nat) (e:Ex) (J:Nat):Prop:=∃a b c,(aD AP).i g [.aJ 0 0] (rd L I) []=some ([.agg (dn a b c e)],rd L J,[])
theorem v7 {L:List aQ} {I J:Nat} {t u:aQ} {e:Ex} (h:L[I]?=some t) (hL:L.length≤4000) (hk:t.kind=5) (ht:t.text=[40]) (hr:i_ 134 L (I+1) e J) (hu:L[J]?=some u) (huk:u.kind=5) (hut:u.text=[41]):i_ 141 L I e (J+1):=by
 obtain ⟨a,b,c,r⟩:=hr
 have k1:=c126r h
 have k2:=c129r h (k:=1)
 have k3:=c129r h (k:=2)
 have k4:=c129r h (k:=3)
 have k5:=c132f h (s:=[63]) (by simp [aQ.d3,ht])
 have k6:=c132f h (s:=[123]) (by simp [aQ.d3,ht])
 have k7:=c127r h hL (s:=[40]) (by simp [aQ.d3,ht,hk])
 have k8:=c132f hu (s:=[58]) (by simp [aQ.d3,hut])
 have k9:=c127r hu hL (s:=[41]) (by simp [aQ.d3,hut,huk])
 rw [hk] at k2 k3 k4
 refine ⟨a,b,c,?_⟩
 rw [az (af:=g141) rfl (by simp [g141])]
 simp at k1 k2 k3 k4 k5 k6 k7 k8 k9
 cases a<;>cases b<;>cases c<;>simp [dn,dK] at r<;>simp [g141,k1,k2,k3,k4,k5,k6,k7,k8,k9,r,dn,dK]
theorem B3 {L:List aQ} {I J:Nat} {t u v:aQ} {e:Ex} (h:L[I]?=some t) (hu:L[I+1]?=some u) (hv:L[I+2]?=some v) (hL:L.length≤4000) (hk:t.kind=5) (ht:t.text=[92]) (huk:u.kind=1) (hvk:v.kind=5) (hvt:v.text=[46]) (hr:i_ 134 L (I+3) e J) :
   i_ 134 L I (Gf t.pos u.text e) J:=by
 obtain ⟨a,b,c,r⟩:=hr
 have k1:=c126r h
 have k2:=c132t h hL (s:=[92]) (by simp [aQ.d3,ht,hk])
 have k3:(aD AP).i 128 [.aJ 0 0,.pv (vI 1)] (rd L (I+1)) []=some ([.pv (.str u.text)],rd L (I+2),[]):=c128r hu hL (k:=1) huk
 have k4:(aD AP).i 127 [.aJ 0 0,.pv (.str [46])] (rd L (I+2)) []=some ([],rd L (I+3),[]):=c127r hv hL (s:=[46]) (by simp [aQ.d3,hvt,hvk])
 refine ⟨true,true,true,?_⟩
 have hA:=dd a b c e
 generalize dn a b c e=A at *
 have tA:List.take 11 A=A:=List.take_of_length_le (by rw [hA.len];omega)
 have ec:=Ex.aV e
 rw [az (af:=g134) rfl (by simp [g134])]
 simp at k1 k2 k3 k4 r
 simp (disch:=omega) [-getElem?_pos,g134,k1,k2,k3,k4,r,hA.eo,hA.flat,hA.nY,hA.len,hA.leaf,tA,ec,dn,dK,Gf,ca]
end Go.Ab.Lw
namespace Go.Ab.Lw
open Ev
def aQ.st (t:aQ):Bool:=decide (t.kind=1) || (decide (t.kind=2) || (decide (t.kind=3) || (decide (t.kind=5) && (decide (t.text=[63]) || (decide (t.text=[40]) || decide (t.text=[123]))))))
theorem c142a {t:aQ}:(aD AP).p 142 [t.pv]=some [.bool t.st]:=by
 rw [aA (af:=g142) rfl rfl (by decide)]
 by_cases k1:t.kind=1
 · simp [g142,k1,aQ.st]
 by_cases k2:t.kind=2
 · simp [g142,k2,aQ.st]
 by_cases k3:t.kind=3
 · simp [g142,k3,aQ.st]
 by_cases k5:t.kind=5
 · have e:∀a b:bz,(a == b)=decide (a=b):=fun a b=>by rw [Bool.eq_iff_iff];simp
   by_cases h1:t.text=[63]
   · simp [g142,k5,h1,aQ.st]
   · by_cases h2:t.text=[40]
     · simp [g142,k5,h1,h2,aQ.st]
     · simp [g142,k5,h1,h2,aQ.st,e]
 · simp [g142,k1,k2,k3,k5,aQ.st]
def Stop (L:List aQ) (I:Nat):Prop:=L.length=I∨∃t,L[I]?=some t∧t.st=false
def j9 (f:Bool) (l:List PV) (k:Nat):AV:=if f then .own l k else .pv (.aE l)
def sV (a b c:Bool) (e:Ex):List AV:=[.pv (vI e.kind),.pv (vI e.pos),.pv (.str e.name),.pv (vI e.num),j9 a (e.kids.map Ex.pv) 3,j9 b (e.aG.map Ar.pv) (3+a.toNat),.pv (vI e.ty.kind),.pv (.str e.ty.name),.pv (vI e.ty.id),.pv (vI e.ty.home),j9 c (e.ty.args.map Ty.pv) (3+a.toNat+b.toNat)]
def sW (a b c:Bool) (e:Ex):aq:=[0,0,0]++((if a then [e.kids.length] else [])++((if b then [e.aG.length] else [])++(if c then [e.ty.args.length] else [])))
def Lp (L:List aQ) (I:Nat) (a b c:Bool) (e:Ex) (J:Nat) (r:Ex):Prop:=∃a' b' c',
 cl AP g134L0 ⟨[(0,.aJ 0 0),(2,.aN 2 0),(8,.aN 8 0)],[(2,zO),(8,sV a b c e)],rd L I,sW a b c e⟩=some (.exit 1,⟨[(0,.aJ 0 0),(2,.aN 2 0),(8,.aN 8 0),(98,.pv (.bool false))],[(2,zO),(8,sV a' b' c' r)],rd L J,sW a' b' c' r⟩)
theorem wW {L:List aQ} {I:Nat} {a b c:Bool} {e:Ex} (h:Stop L I):Lp L I a b c e I e:=by
 refine ⟨a,b,c,?_⟩
 rw [g134L0e]
 rcases h with h | ⟨t,h,ht⟩
 · subst h
   cases a<;>cases b<;>cases c<;>simp [g134B0,zO,sV,sW,j9]
 · have hi:=(List.getElem?_eq_some_iff.1 h).1
   have k:=c142a (t:=t)
   rw [ht] at k
   simp at k
   cases a<;>cases b<;>cases c<;>simp (disch:=omega) [-getElem?_pos,g134B0,zO,sV,sW,j9,h,hi,k]
theorem DD {L:List aQ} {I I2 J:Nat} {t:aQ} {a b c:Bool} {e x r:Ex} (h:L[I]?=some t) (ht:t.st=true) (hx:i_ 141 L I x I2) (ih:Lp L I2 true true true (B2 e.pos e x) J r):Lp L I a b c e J r:=by
 obtain ⟨a1,a2,a3,ra⟩:=hx
 have hi:=(List.getElem?_eq_some_iff.1 h).1
 have k:=c142a (t:=t)
 rw [ht] at k
 have hA:=dd a1 a2 a3 x
 generalize dn a1 a2 a3 x=A at *
 have tA:List.take 11 A=A:=List.take_of_length_le (by rw [hA.len];omega)
 have ec:=Ex.aV e
 have xc:=Ex.aV x
 obtain ⟨a',b',c',ih⟩:=ih
 refine ⟨a',b',c',?_⟩
 generalize hR:sV a' b' c' r=R at *
 generalize sW a' b' c' r=TR at *
 clear hR
 rw [g134L0e] at ih ⊢
 simp [B2,ca,zO,sV,sW,j9] at ih
 simp at k ra
 cases a<;>cases b<;>cases c<;>(
   simp (disch:=omega) [-getElem?_pos,g134B0,zO,sV,sW,j9,h,hi,k,ra,hA.eo,hA.flat,hA.nY,hA.len,hA.leaf,tA,ec,xc]
   rw [g134L0e]
   simp [ih])
end Go.Ab.Lw
namespace Go.Ab.Lw
open Ev
theorem DE {L:List aQ} {I I2 J:Nat} {t:aQ} {x r:Ex} (h:L[I]?=some t) (n1:t.d3 [92]=false) (n2:t.d3 [108,101,116]=false) (n3:t.d3 [99,97,115,101]=false)
   (hx:i_ 141 L I x I2) (hl:∀a b c,Lp L I2 a b c x J r):i_ 134 L I r J:=by
 obtain ⟨a,b,c,rx⟩:=hx
 obtain ⟨a',b',c',hl⟩:=hl a b c
 have k1:=c126r h
 have k2:=c132f h n1
 have k3:=c132f h n2
 have k4:=c132f h n3
 refine ⟨false,false,false,?_⟩
 rw [az (af:=g134) rfl (by simp [g134])]
 rw [g134L0e] at hl
 simp at k1 k2 k3 k4
 cases a<;>cases b<;>cases c<;>simp [dn,dK] at rx<;>simp [zO,sV,sW,j9] at hl <;>
   cases a'<;>cases b'<;>cases c'<;>simp at hl<;>simp (disch:=omega) [-getElem?_pos,g134,g134L0e,k1,k2,k3,k4,rx,hl,dn,dK]
theorem zI {L:List aQ} {I:Nat} {t:aQ} (h:L[I]?=some t) (hL:L.length≤4000) (hk:t.kind=1∨t.kind=2):i_ 141 L I ⟨t.kind,t.pos,t.text,0,[],[],ca⟩ (I+1):=by
 refine ⟨true,true,true,?_⟩
 have k1:=c126r h
 have k2:=c129r h (k:=1)
 have k3:=c129r h (k:=2)
 rw [az (af:=g141) rfl (by simp [g141])]
 rcases hk with hk | hk
 · have k4:=c128r h hL hk
   rw [hk] at k2
   simp at k1 k2 k4
   simp [g141,k1,k2,k4,dn,dK,ca,hk]
 · have k4:=c128r h hL hk
   rw [hk] at k2 k3
   simp at k1 k2 k3 k4
   simp [g141,k1,k2,k3,k4,dn,dK,ca,hk]
theorem Ha:(aD AP).p 146 [.str [48]]=some [vI 0]∧(aD AP).p 146 [.str [49]]=some [vI 1]∧(aD AP).p 146 [.str [50]]=some [vI 2]∧(aD AP).p 146 [.str [51]]=some [vI 3]:=by
 refine ⟨?_,?_,?_,?_⟩<;>exact Fc.zB (k:=400) (n:=40) (by kernel_rfl)
theorem B4 {L:List aQ} {I:Nat} {t:aQ} {n:Int} (h:L[I]?=some t) (hL:L.length≤4000) (hk:t.kind=3) (hn:(aD AP).p 146 [.str t.text]=some [vI n]):i_ 141 L I ⟨3,t.pos,[],n,[],[],ca⟩ (I+1):=by
 refine ⟨true,true,true,?_⟩
 have k1:=c126r h
 have k2:=c129r h (k:=1)
 have k3:=c129r h (k:=2)
 have k4:=c129r h (k:=3)
 have k5:=c128r h hL hk
 rw [hk] at k2 k3 k4
 rw [az (af:=g141) rfl (by simp [g141])]
 simp at k1 k2 k3 k4 k5 hn
 simp [g141,k1,k2,k3,k4,k5,hn,dn,dK,ca]
theorem zJ {L:List aQ} {I J:Nat} {t u:aQ} {e:Ex} (h:L[I]?=some t) (hL:L.length≤4000) (hk:t.kind=5) (ht:t.text=[123]) (hr:i_ 134 L (I+1) e J) (hu:L[J]?=some u) (huk:u.kind=5) (hut:u.text=[125]):i_ 141 L I ⟨11,t.pos,[],0,[e],[],ca⟩ (J+1):=by
 obtain ⟨a,b,c,r⟩:=hr
 have k1:=c126r h
 have k2:=c129r h (k:=1)
 have k3:=c129r h (k:=2)
 have k4:=c129r h (k:=3)
 have k5:=c132f h (s:=[63]) (by simp [aQ.d3,ht])
 have k6:=c132t h hL (s:=[123]) (by simp [aQ.d3,ht,hk])
 have k9:=c127r hu hL (s:=[125]) (by simp [aQ.d3,hut,huk])
 rw [hk] at k2 k3 k4
 refine ⟨true,true,true,?_⟩
 have hA:=dd a b c e
 generalize dn a b c e=A at *
 have tA:List.take 11 A=A:=List.take_of_length_le (by rw [hA.len];omega)
 have ec:=Ex.aV e
 rw [az (af:=g141) rfl (by simp [g141])]
 simp at k1 k2 k3 k4 k5 k6 k9 r
 simp (disch:=omega) [-getElem?_pos,g141,k1,k2,k3,k4,k5,k6,k9,r,hA.eo,hA.flat,hA.nY,hA.len,hA.leaf,tA,ec,dn,dK,ca]
end Go.Ab.Lw
namespace Go.Ab.Lw
open Ev
theorem B5 {L:List aQ} {I J K:Nat} {t u v w:aQ} {a b:Ex} (h:L[I]?=some t) (hu:L[I+1]?=some u) (hv:L[I+2]?=some v) (hw:L[J]?=some w) (hL:L.length≤4000) (hk:t.kind=4) (ht:t.text=[108,101,116]) (huk:u.kind=1) (hvk:v.kind=5) (hvt:v.text=[61])
   (hr:i_ 134 L (I+3) a J) (hwk:w.kind=4) (hwt:w.text=[105,110]) (hr2:i_ 134 L (J+1) b K):i_ 134 L I ⟨6,t.pos,u.text,0,[a,b],[],ca⟩ K:=by
 obtain ⟨a1,b1,c1,r1⟩:=hr
 obtain ⟨a2,b2,c2,r2⟩:=hr2
 have k1:=c126r h
 have k2:=c132f h (s:=[92]) (by simp [aQ.d3,ht])
 have k3:=c132t h hL (s:=[108,101,116]) (by simp [aQ.d3,ht,hk])
 have k4:=c132f hu (s:=[114,101,99]) (by simp [aQ.d3,huk])
 have k5:(aD AP).i 128 [.aJ 0 0,.pv (vI 1)] (rd L (I+1)) []=some ([.pv (.str u.text)],rd L (I+2),[]):=c128r hu hL (k:=1) huk
 have k6:(aD AP).i 127 [.aJ 0 0,.pv (.str [61])] (rd L (I+2)) []=some ([],rd L (I+3),[]):=c127r hv hL (by simp [aQ.d3,hvt,hvk])
 have k7:=c127r hw hL (s:=[105,110]) (by simp [aQ.d3,hwt,hwk])
 refine ⟨true,true,true,?_⟩
 have hA:=dd a1 b1 c1 a
 have hB:=dd a2 b2 c2 b
 generalize dn a2 b2 c2 b=B at *
 have tB:List.take 11 B=B:=List.take_of_length_le (by rw [hB.len];omega)
 have ac:=Ex.aV a
 have bc:=Ex.aV b
 clear hA
 rw [az (af:=g134) rfl (by simp [g134])]
 simp at k1 k2 k3 k4 k5 k6 k7 r2
 cases a1<;>cases b1<;>cases c1<;>simp [dn,dK] at r1<;>simp (disch:=omega) [-getElem?_pos,g134,k1,k2,k3,k4,k5,k6,k7,r1,r2,hB.eo,hB.flat,hB.nY,hB.len,hB.leaf,tB,ac,bc,dn,dK,ca]
theorem B6 {L:List aQ} {I J K:Nat} {t z u v w:aQ} {a b:Ex} (h:L[I]?=some t) (hz:L[I+1]?=some z) (hu:L[I+2]?=some u) (hv:L[I+3]?=some v) (hw:L[J]?=some w) (hL:L.length≤4000) (hk:t.kind=4) (ht:t.text=[108,101,116]) (hzk:z.kind=4) (hzt:z.text=[114,101,99]) (huk:u.kind=1) (hvk:v.kind=5) (hvt:v.text=[61])
   (hr:i_ 134 L (I+4) a J) (hwk:w.kind=4) (hwt:w.text=[105,110]) (hr2:i_ 134 L (J+1) b K):i_ 134 L I ⟨7,t.pos,u.text,0,[a,b],[],ca⟩ K:=by
 obtain ⟨a1,b1,c1,r1⟩:=hr
 obtain ⟨a2,b2,c2,r2⟩:=hr2
 have k1:=c126r h
 have k2:=c132f h (s:=[92]) (by simp [aQ.d3,ht])
 have k3:=c132t h hL (s:=[108,101,116]) (by simp [aQ.d3,ht,hk])
 have k4:(aD AP).i 132 [.aJ 0 0,.pv (.str [114,101,99])] (rd L (I+1)) []=some ([.pv (.bool true)],rd L (I+2),[]):=c132t hz hL (by simp [aQ.d3,hzt,hzk])
 have k5:(aD AP).i 128 [.aJ 0 0,.pv (vI 1)] (rd L (I+2)) []=some ([.pv (.str u.text)],rd L (I+3),[]):=c128r hu hL (k:=1) huk
 have k6:(aD AP).i 127 [.aJ 0 0,.pv (.str [61])] (rd L (I+3)) []=some ([],rd L (I+4),[]):=c127r hv hL (by simp [aQ.d3,hvt,hvk])
 have k7:=c127r hw hL (s:=[105,110]) (by simp [aQ.d3,hwt,hwk])
 refine ⟨true,true,true,?_⟩
 have hB:=dd a2 b2 c2 b
 generalize dn a2 b2 c2 b=B at *
 have tB:List.take 11 B=B:=List.take_of_length_le (by rw [hB.len];omega)
 have ac:=Ex.aV a
 have bc:=Ex.aV b
 rw [az (af:=g134) rfl (by simp [g134])]
 simp at k1 k2 k3 k4 k5 k6 k7 r2
 cases a1<;>cases b1<;>cases c1<;>simp [dn,dK] at r1<;>simp (disch:=omega) [-getElem?_pos,g134,k1,k2,k3,k4,k5,k6,k7,r1,r2,hB.eo,hB.flat,hB.nY,hB.len,hB.leaf,tB,ac,bc,dn,dK,ca]
def n_ (f:Bool) (t:Ty):List AV:=[.pv (vI t.kind),.pv (.str t.name),.pv (vI t.id),.pv (vI t.home),dK f (t.args.map Ty.pv)]
def qk (g:Nat) (L:List aQ) (I:Nat) (t:Ty) (J:Nat):Prop:=∃f,(aD AP).i g [.aJ 0 0] (rd L I) []=some ([.agg (n_ f t)],rd L J,[])
theorem B7 {L:List aQ} {I J K:Nat} {t u v:aQ} {e:Ex} {ty:Ty} (h:L[I]?=some t) (hL:L.length≤4000) (hk:t.kind=5) (ht:t.text=[40]) (hr:i_ 134 L (I+1) e J) (hu:L[J]?=some u) (huk:u.kind=5) (hut:u.text=[58]) (hT:qk 133 L (J+1) ty K)
   (hv:L[K]?=some v) (hvk:v.kind=5) (hvt:v.text=[41]):i_ 141 L I ⟨9,t.pos,[],0,[e],[],ty⟩ (K+1):=by
 obtain ⟨a,b,c,r⟩:=hr
 obtain ⟨f,r2⟩:=hT
 have k1:=c126r h
 have k2:=c129r h (k:=1)
 have k3:=c129r h (k:=2)
 have k4:=c129r h (k:=3)
 have k5:=c132f h (s:=[63]) (by simp [aQ.d3,ht])
 have k6:=c132f h (s:=[123]) (by simp [aQ.d3,ht])
 have k7:=c127r h hL (s:=[40]) (by simp [aQ.d3,ht,hk])
 have k8:=c132t hu hL (s:=[58]) (by simp [aQ.d3,hut,huk])
 have k9:=c127r hv hL (s:=[41]) (by simp [aQ.d3,hvt,hvk])
 rw [hk] at k2 k3 k4
 refine ⟨true,true,f,?_⟩
 have ec:=Ex.aV e
 rw [az (af:=g141) rfl (by simp [g141])]
 simp at k1 k2 k3 k4 k5 k6 k7 k8 k9
 cases a<;>cases b<;>cases c<;>simp [dn,dK] at r<;>cases f<;>simp [n_,dK] at r2<;>simp (disch:=omega) [-getElem?_pos,g141,k1,k2,k3,k4,k5,k6,k7,k8,k9,r,r2,ec,dn,dK]
end Go.Ab.Lw
namespace Go.Ab.Lw
open Ev
theorem c129e {L:List aQ} {k:Int}:(aD AP).i 129 [.aJ 0 0,.pv (vI k)] (rd L L.length) []=some ([.pv (.bool false)],rd L L.length,[]):=by
 rw [az (af:=g129) rfl (by simp [g129])]
 simp (disch:=omega) [-getElem?_pos,g129]
theorem c120e {L:List aQ} {s:bz}:(aD AP).i 120 [.aJ 0 0,.pv (.str s)] (rd L L.length) []=some ([.pv (.bool false)],rd L L.length,[]):=by
 rw [az (af:=g120) rfl (by simp [g120])]
 simp (disch:=omega) [-getElem?_pos,g120]
theorem c132e {L:List aQ} {s:bz}:(aD AP).i 132 [.aJ 0 0,.pv (.str s)] (rd L L.length) []=some ([.pv (.bool false)],rd L L.length,[]):=by
 have k:=c120e (L:=L) (s:=s)
 rw [az (af:=g132) rfl (by simp [g132])]
 simp at k
 simp [g132,k]
def aQ.Ck (t:aQ):Bool:=decide (t.kind=1) || (decide (t.kind=2) || t.d3 [40])
theorem c130r {L:List aQ} {I:Nat} {t:aQ} (h:L[I]?=some t):(aD AP).i 130 [.aJ 0 0] (rd L I) []=some ([.pv (.bool t.Ck)],rd L I,[]):=by
 have k1:=c129r h (k:=1)
 have k2:=c129r h (k:=2)
 have k3:=c120r h (s:=[40])
 rw [az (af:=g130) rfl (by simp [g130])]
 simp at k1 k2 k3
 by_cases h1:t.kind=1
 · simp [h1] at k1
   simp [g130,k1,aQ.Ck,h1]
 · simp [h1] at k1
   by_cases h2:t.kind=2
   · simp [h2] at k2
     simp [g130,k1,k2,aQ.Ck,h1,h2]
   · simp [h2] at k2
     simp [g130,k1,k2,k3,aQ.Ck,h1,h2]
theorem c130e {L:List aQ}:(aD AP).i 130 [.aJ 0 0] (rd L L.length) []=some ([.pv (.bool false)],rd L L.length,[]):=by
 have k1:=c129e (L:=L) (k:=1)
 have k2:=c129e (L:=L) (k:=2)
 have k3:=c120e (L:=L) (s:=[40])
 rw [az (af:=g130) rfl (by simp [g130])]
 simp at k1 k2 k3
 simp [g130,k1,k2,k3]
theorem c62r {s:bz} {L:List aQ} {I:Nat}:(aD AP).i 62 [.pv (.str s),.pv (.aE [])] (rd L I) []=some ([.agg (n_ true (Ty.mk 4 s 0 0 []))],rd L I,[]):=by
 rw [az (af:=g62) rfl (by simp [g62])]
 simp [g62,n_,dK]
def lM (L:List aQ) (I:Nat):Prop:=L.length=I∨∃t,L[I]?=some t∧t.Ck=false
theorem c130s {L:List aQ} {I:Nat} (h:lM L I):(aD AP).i 130 [.aJ 0 0] (rd L I) []=some ([.pv (.bool false)],rd L I,[]):=by
 rcases h with h | ⟨t,h,ht⟩
 · subst h;exact c130e
 · rw [←ht];exact c130r h
def zT:List AV:=[.pv (vI 0),.pv (.str []),.pv (vI 0),.pv (vI 0),.own [] 0]
def sX (f:Bool) (t:Ty):List AV:=[.pv (vI t.kind),.pv (.str t.name),.pv (vI t.id),.pv (vI t.home),j9 f (t.args.map Ty.pv) 1]
def sY (f:Bool) (t:Ty):aq:=[0]++(if f then [t.args.length] else [])
def D1 (L:List aQ) (I:Nat) (f:Bool) (t:Ty) (J:Nat) (r:Ty):Prop:=∃f',
 cl AP g133L0 ⟨[(0,.aJ 0 0),(2,.aN 2 0),(3,.aN 3 0)],[(2,zT),(3,sX f t)],rd L I,sY f t⟩=some (.exit 0,⟨[(0,.aJ 0 0),(2,.aN 2 0),(3,.aN 3 0),(10,.pv (.bool false))],[(2,zT),(3,sX f' r)],rd L J,sY f' r⟩)
theorem B8 {L:List aQ} {I:Nat} {f:Bool} {t:Ty} (h:lM L I):D1 L I f t I t:=by
 refine ⟨f,?_⟩
 have k:=c130s h
 rw [g133L0e]
 simp at k
 cases f<;>simp [g133B0,zT,sX,sY,j9,k]
theorem B9 {L:List aQ} {I I2 J:Nat} {u:aQ} {k i h:Int} {s:bz} {as:List Ty} {a r:Ty} (hu:L[I]?=some u) (ht:u.Ck=true) (hn:as.length≤100000) (ha:qk 131 L I a I2) (ih:D1 L I2 true ⟨k,s,i,h,as++[a]⟩ J r):D1 L I true ⟨k,s,i,h,as⟩ J r:=by
 obtain ⟨g,ra⟩:=ha
 have e:=c130r hu
 rw [ht] at e
 obtain ⟨f',ih⟩:=ih
 refine ⟨f',?_⟩
 generalize sX f' r=R at *
 generalize sY f' r=TR at *
 rw [g133L0e] at ih ⊢
 simp [zT,sX,sY,j9] at ih
 simp at e
 have hz:(as.length+1)*64≤140737488355328:=by omega
 cases g<;>simp [n_,dK] at ra<;>(
   simp (disch:=omega) [g133B0,zT,sX,sY,j9,e,ra,hz,zE]
   rw [g133L0e]
   simp [ih])
theorem v8 {L:List aQ} {I:Nat} {t:aQ} (h:L[I]?=some t) (hL:L.length≤4000) (hk:t.kind=1):qk 131 L I (cH t.text) (I+1):=by
 refine ⟨false,?_⟩
 have k1:=c129r h (k:=1)
 have k2:=c128r h hL hk
 have k3:=c106 (s:=t.text)
 rw [hk] at k1
 rw [az (af:=g131) rfl (by simp [g131])]
 simp [cH] at k1 k2 k3
 simp [g131,k1,k2,k3,n_,dK,cH]
theorem zK {L:List aQ} {I:Nat} {t:aQ} (h:L[I]?=some t) (hL:L.length≤4000) (hk:t.kind=2):qk 131 L I ⟨4,t.text,0,0,[]⟩ (I+1):=by
 refine ⟨true,?_⟩
 have k1:=c129r h (k:=1)
 have k2:=c129r h (k:=2)
 have k3:=c128r h hL hk
 have k4:=c62r (s:=t.text) (L:=L) (I:=I+1)
 rw [hk] at k1 k2
 rw [az (af:=g131) rfl (by simp [g131])]
 simp [n_,dK] at k1 k2 k3 k4
 simp [g131,k1,k2,k3,k4,n_,dK]
theorem sZ {L:List aQ} {I J:Nat} {t u:aQ} {a:Ty} (h:L[I]?=some t) (hL:L.length≤4000) (hk:t.kind=5) (ht:t.text=[40]) (hr:qk 133 L (I+1) a J) (hu:L[J]?=some u) (huk:u.kind=5) (hut:u.text=[41]):qk 131 L I a (J+1):=by
 obtain ⟨f,r⟩:=hr
 have k1:=c129r h (k:=1)
 have k2:=c129r h (k:=2)
 have k3:=c127r h hL (s:=[40]) (by simp [aQ.d3,ht,hk])
 have k4:=c127r hu hL (s:=[41]) (by simp [aQ.d3,hut,huk])
 rw [hk] at k1 k2
 refine ⟨f,?_⟩
 rw [az (af:=g131) rfl (by simp [g131])]
 simp at k1 k2 k3 k4
 cases f<;>simp [n_,dK] at r<;>simp [g131,k1,k2,k3,k4,r,n_,dK]
def s0 (L:List aQ) (I:Nat):Prop:=L.length=I∨∃t,L[I]?=some t∧t.d3 [45,62]=false
theorem D2 {L:List aQ} {I:Nat} (h:s0 L I):(aD AP).i 132 [.aJ 0 0,.pv (.str [45,62])] (rd L I) []=some ([.pv (.bool false)],rd L I,[]):=by
 rcases h with h | ⟨t,h,ht⟩
 · subst h;exact c132e
 · exact c132f h ht
theorem B_ {L:List aQ} {I J:Nat} {t:aQ} {a:Ty} (h:L[I]?=some t) (hL:L.length≤4000) (hk:t.kind=2) (hl:D1 L (I+1) true ⟨4,t.text,0,0,[]⟩ J a) (hn:s0 L J):qk 133 L I a J:=by
 obtain ⟨f,hl⟩:=hl
 have k1:=c129r h (k:=2)
 have k2:=c128r h hL hk
 have k3:=c62r (s:=t.text) (L:=L) (I:=I+1)
 have k4:=D2 hn
 rw [hk] at k1
 refine ⟨false,?_⟩
 rw [az (af:=g133) rfl (by simp [g133])]
 rw [g133L0e] at hl
 simp [n_,dK] at k1 k2 k3 k4
 cases f<;>simp [sX,sY,j9,zT] at hl<;>simp [g133,k1,k2,k3,k4,g133L0e,hl,n_,dK]
theorem zL {L:List aQ} {I J:Nat} {t:aQ} {a:Ty} (h:L[I]?=some t) (hk:t.kind≠2) (hr:qk 131 L I a J) (hn:s0 L J):qk 133 L I a J:=by
 obtain ⟨f,r⟩:=hr
 have k1:=c129r h (k:=2)
 have k4:=D2 hn
 rw [decide_eq_false hk] at k1
 refine ⟨f,?_⟩
 rw [az (af:=g133) rfl (by simp [g133])]
 simp at k1 k4
 cases f<;>simp [n_,dK] at r<;>simp [g133,k1,k4,r,n_,dK]
theorem nC {L:List aQ} {I J K:Nat} {t u:aQ} {a b:Ty} (h:L[I]?=some t) (hL:L.length≤4000) (hu:L[J]?=some u) (huk:u.kind=5) (hut:u.text=[45,62]) (hb:qk 133 L (J+1) b K)
   (ha:t.kind=2∧D1 L (I+1) true ⟨4,t.text,0,0,[]⟩ J a∨t.kind≠2∧qk 131 L I a J):qk 133 L I ⟨4,[45,62],0,0,[a,b]⟩ K:=by
 obtain ⟨f,rb⟩:=hb
 have k1:=c129r h (k:=2)
 have k4:=c132t hu hL (s:=[45,62]) (by simp [aQ.d3,hut,huk])
 have k5:=c69 (a:=a) (b:=b)
 refine ⟨false,?_⟩
 rw [az (af:=g133) rfl (by simp [g133])]
 rcases ha with ⟨hk,g,hl⟩ | ⟨hk,g,r⟩
 · have k2:=c128r h hL hk
   have k3:=c62r (s:=t.text) (L:=L) (I:=I+1)
   rw [hk] at k1
   rw [g133L0e] at hl
   simp [n_,dK] at k1 k2 k3 k4 k5
   cases f<;>simp [n_,dK] at rb<;>cases g<;>simp [sX,sY,j9,zT] at hl<;>simp [g133,k1,k2,k3,k4,k5,rb,g133L0e,hl,n_,dK]
 · rw [decide_eq_false hk] at k1
   simp at k1 k4 k5
   cases f<;>simp [n_,dK] at rb<;>cases g<;>simp [n_,dK] at r<;>simp [g133,k1,k4,k5,rb,r,n_,dK]
end Go.Ab.Lw
namespace Go.Ab.Lw
open Ev
def zR (p:Int) (s:Ex) (as:List Ar):List AV:=[.pv (vI 8),.pv (vI p),.pv (.str []),.pv (vI 0),.own [s.pv] 3,.own (as.map Ar.pv) 4,.pv (vI 0),.pv (.str []),.pv (vI 0),.pv (vI 0),.own [] 5]
def FB (p:Int) (c:bz) (vs:List bz):List AV:=[.pv (vI p),.pv (.str c),.own (vs.map .str) 6,.pv (vI 0),.pv (vI 0),.pv (.str []),.pv (vI 0),.own [] 7,.own [] 8,.pv (vI 0),.pv (.str []),.pv (vI 0),.pv (vI 0),.own [] 9]
def DF (L:List aQ):Nat→List bz→Prop
 | _,[]=>True
 | I,v::r=>(∃t,L[I]?=some t∧t.kind=1∧t.text=v)∧DF L (I+1) r
theorem D3 {L:List aQ} (hL:L.length≤4000) {p q:Int} {s:Ex} {as:List Ar} {c:bz} {w:aQ}:∀(vs:List bz) (I:Nat) (acc:List bz),acc.length≤I→DF L I vs→L[I+vs.length]?=some w→w.kind≠1 →
   cl AP g140L1 ⟨[(0,.aJ 0 0),(4,.aN 4 0),(5,.aN 5 0),(6,.aN 6 0)],[(4,zO),(5,zR p s as),(6,FB q c acc)],rd L I,[0,0,0,1,as.length,0,acc.length,0,0,0]⟩ =
     some (.exit 2,⟨[(0,.aJ 0 0),(4,.aN 4 0),(5,.aN 5 0),(6,.aN 6 0),(20,.pv (.bool false))],[(4,zO),(5,zR p s as),(6,FB q c (acc++vs))],rd L (I+vs.length),[0,0,0,1,as.length,0,(acc++vs).length,0,0,0]⟩)
 | [],I,acc,ha,hv,hw,hk=>by
   have k:=c129r hw (k:=1)
   rw [decide_eq_false hk] at k
   rw [g140L1e]
   simp at k
   simp [g140B1,zO,zR,FB,k]
 | v::vs,I,acc,ha,hv,hw,hk=>by
   obtain ⟨⟨t,ht,hk1,rfl⟩,hv⟩:=hv
   have hI:=(List.getElem?_eq_some_iff.1 hw).1
   simp only [List.length_cons] at hI
   have ih:=D3 hL (p:=p) (q:=q) (s:=s) (as:=as) (c:=c) (w:=w) vs (I+1) (acc++[t.text]) (by simp;omega) hv (by rw [←hw];congr 1;simp;omega) hk
   have k:=c129r ht (k:=1)
   have k2:=c128r ht hL hk1
   rw [hk1] at k
   have e:I+1+vs.length=I+(vs.length+1):=by omega
   have hz:(acc.length+1)*16≤140737488355328:=by omega
   rw [e] at ih
   rw [g140L1e] at ih ⊢
   simp at k k2
   simp [zO,zR,FB] at ih
   simp (disch:=omega) [g140B1,zO,zR,FB,k,k2,hz]
   rw [g140L1e]
   simp [ih]
def Gg (L:List aQ) (I:Nat) (p:Int) (s:Ex) (as:List Ar) (J:Nat) (r:List Ar):Prop:=∃q:aq,
 cl AP g140L0 ⟨[(0,.aJ 0 0),(4,.aN 4 0),(5,.aN 5 0)],[(4,zO),(5,zR p s as)],rd L I,[0,0,0,1,as.length,0]⟩=some (.exit 0,⟨[(0,.aJ 0 0),(4,.aN 4 0),(5,.aN 5 0),(46,.pv (.bool true))],[(4,zO),(5,zR p s r)],rd L J,[0,0,0,1,r.length,0]++q⟩)
theorem wX {L:List aQ} (hL:L.length≤4000) {I J K:Nat} {p:Int} {s b:Ex} {as r:List Ar} {t w:aQ} {vs:List bz} (ha:as.length≤I) (h:L[I]?=some t) (hk:t.kind=2) (hv:DF L (I+1) vs) (hw:L[I+1+vs.length]?=some w) (hwk:w.kind=5) (hwt:w.text=[46])
   (hr:i_ 134 L (I+1+vs.length+1) b J)
   (hn:((L.length=J∨∃u,L[J]?=some u∧u.d3 [124]=false)∧K=J∧r=as++[⟨t.pos,t.text,vs,b⟩])∨((∃u,L[J]?=some u∧u.d3 [124]=true)∧Gg L (J+1) p s (as++[⟨t.pos,t.text,vs,b⟩]) K r)):Gg L I p s as K r:=by
 obtain ⟨a1,b1,c1,rb⟩:=hr
 have hI:=(List.getElem?_eq_some_iff.1 h).1
 have k1:=c126r h
 have k2:=c128r h hL hk
 have k3:=D3 hL (p:=p) (q:=t.pos) (s:=s) (as:=as) (c:=t.text) (w:=w) vs (I+1) [] (by simp) hv hw (by rw [hwk];decide)
 have k4:=c127r hw hL (s:=[46]) (by simp [aQ.d3,hwt,hwk])
 have bc:=Ex.aV b
 have hz:(as.length+1)*200≤140737488355328:=by omega
 rw [List.nil_append] at k3
 unfold Gg at *
 rw [g140L1e] at k3
 simp at k1 k2 k4
 simp [zO,zR,FB] at k3
 rcases hn with ⟨h1,rfl,rfl⟩ | ⟨⟨u,hu,hut⟩,ih⟩
 · have k5:(aD AP).i 132 [.aJ 0 0,.pv (.str [124])] (rd L K) []=some ([.pv (.bool false)],rd L K,[]):=by
     rcases h1 with h1 | ⟨u,hu,hut⟩
     · subst h1;exact c132e
     · exact c132f hu hut
   refine ⟨[vs.length,0,0,0],?_⟩
   rw [g140L0e]
   simp at k5
   cases a1<;>cases b1<;>cases c1<;>simp [dn,dK] at rb<;>simp (disch:=omega) [-getElem?_pos,g140B0,zO,zR,k1,k2,g140L1e,k3,k4,k5,rb,hz,bc]
 · have k5:=c132t hu hL hut
   obtain ⟨q,ih⟩:=ih
   refine ⟨q,?_⟩
   rw [g140L0e] at ih ⊢
   simp at k5
   simp [zO,zR] at ih
   cases a1<;>cases b1<;>cases c1<;>simp [dn,dK] at rb<;>(
     simp (disch:=omega) [-getElem?_pos,g140B0,zO,zR,k1,k2,g140L1e,k3,k4,k5,rb,hz,bc]
     rw [g140L0e]
     simp [ih])
theorem zM {L:List aQ} (hL:L.length≤4000) {I J K:Nat} {s:Ex} {as:List Ar} {t u v:aQ} (h:L[I]?=some t) (hk:t.kind=4) (ht:t.text=[99,97,115,101]) (hr:i_ 134 L (I+1) s J) (hu:L[J]?=some u) (huk:u.kind=4) (hut:u.text=[111,102])
   (ha:Gg L (J+1) t.pos s [] K as) (hv:L[K]?=some v) (hvk:v.kind=4) (hvt:v.text=[101,110,100]):i_ 134 L I ⟨8,t.pos,[],0,[s],as,ca⟩ (K+1):=by
 obtain ⟨a1,b1,c1,rs⟩:=hr
 obtain ⟨q,ha⟩:=ha
 have k1:=c126r h
 have k2:=c132f h (s:=[92]) (by simp [aQ.d3,ht])
 have k3:=c132f h (s:=[108,101,116]) (by simp [aQ.d3,ht])
 have k4:=c132t h hL (s:=[99,97,115,101]) (by simp [aQ.d3,ht,hk])
 have k5:=c127r hu hL (s:=[111,102]) (by simp [aQ.d3,hut,huk])
 have k6:=c127r hv hL (s:=[101,110,100]) (by simp [aQ.d3,hvt,hvk])
 have sc:=Ex.aV s
 have hA:=dd a1 b1 c1 s
 have e:(aD AP).i 140 [.aJ 0 0,.pv (vI t.pos)] (rd L (I+1)) []=some ([.agg (dn false false false ⟨8,t.pos,[],0,[s],as,ca⟩)],rd L (K+1),[]):=by
   generalize dn a1 b1 c1 s=A at *
   have tA:List.take 11 A=A:=List.take_of_length_le (by rw [hA.len];omega)
   rw [az (af:=g140) rfl (by simp [g140])]
   rw [g140L0e] at ha
   simp [zR,zO] at ha
   simp at k5 k6 rs
   simp (disch:=omega) [-getElem?_pos,g140,g140L0e,ha,k5,k6,rs,hA.eo,hA.flat,hA.nY,hA.len,hA.leaf,tA,sc,dn,dK,ca]
 refine ⟨false,false,false,?_⟩
 rw [az (af:=g134) rfl (by simp [g134])]
 simp [dn,dK,ca] at k1 k2 k3 k4 e
 simp [g134,k1,k2,k3,k4,e,dn,dK,ca]
end Go.Ab.Lw
namespace Go.Ab.Lw
open Ev
abbrev dq:=Int×bz
def Has (L:List aQ):Nat→List dq→Prop
 | _,[]=>True
 | I,k::r=>(∃p,L[I]?=some ⟨k.1,k.2,p⟩)∧Has L (I+1) r
theorem cL {L:List aQ}:∀{a b:List dq} {I:Nat},Has L I (a++b)↔Has L I a∧Has L (I+a.length) b
 | [],b,I=>by simp [Has]
 | k::r,b,I=>by
   simp only [List.cons_append,Has,cL (a:=r),List.length_cons,and_assoc]
   rw [show I+1+r.length=I+(r.length+1) by omega]
def fU (f:Bool) (l:List dq):List dq:=if f then (5,[40])::(l++[(5,[41])]) else l
def eE (t:Ty):Bool:=decide (t.kind=4) && decide (t.args≠[])
inductive Cl:Ty→List dq→Prop
 | named {s:bz}:Cl (cH s) [(1,s)]
 | d4 {s:bz} {as:List Ty} {f:Ty→List dq}:as.length≤100→(Ty.mk 4 s 0 0 as).cX=false→(∀a∈as,Cl a (f a))→Cl ⟨4,s,0,0,as⟩ ((2,s)::as.flatMap fun a=>fU (eE a) (f a))
 | arrow {a b:Ty} {ka kb:List dq}:Cl a ka→Cl b kb→Cl ⟨4,[45,62],0,0,[a,b]⟩ (fU a.cX ka++(5,[45,62])::kb)
theorem v9 {L:List aQ} {I:Nat} {p:Int} {s:bz} (h:L[I]?=some ⟨5,s,p⟩) (hs:s≠[40]):lM L I:=.inr ⟨_,h,by simp [aQ.Ck,aQ.d3,hs]⟩
structure FC (t:Ty) (ks:List dq):Prop where
 lf:t.cX=false→∀(L:List aQ) (I:Nat),L.length≤4000→Has L I ks→lM L (I+ks.length)→∃u,L[I]?=some u∧(u.kind=2∧D1 L (I+1) true ⟨4,u.text,0,0,[]⟩ (I+ks.length) t∨u.kind≠2∧qk 131 L I t (I+ks.length))
 rd:∀(L:List aQ) (I:Nat),L.length≤4000→Has L I ks→lM L (I+ks.length)→s0 L (I+ks.length)→qk 133 L I t (I+ks.length)
 Gi:eE t=false→∀(L:List aQ) (I:Nat),L.length≤4000→Has L I ks→qk 131 L I t (I+ks.length)
 st:∃k r,ks=k::r∧(k.1=1∨k.1=2∨k.1=5∧k.2=[40])
theorem FC.par {t:Ty} {ks:List dq} (h:FC t ks) (L:List aQ) (I:Nat) (hL:L.length≤4000) (hk:Has L I (fU true ks)):qk 131 L I t (I+(fU true ks).length):=by
 simp only [fU,if_true,Has] at hk
 obtain ⟨⟨p,h1⟩,h2⟩:=hk
 rw [cL] at h2
 obtain ⟨h2,⟨q,h3⟩,_⟩:=h2
 have:=sZ h1 hL rfl rfl (h.rd L (I+1) hL h2 (v9 h3 (by simp)) (.inr ⟨_,h3,by simp [aQ.d3]⟩)) h3 rfl rfl
 rw [show I+(fU true ks).length=I+1+ks.length+1 by simp [fU];omega]
 exact this
theorem FC.en {t:Ty} {ks:List dq} (h:FC t ks) (L:List aQ) (I:Nat) (hL:L.length≤4000) (hk:Has L I (fU (eE t) ks)):qk 131 L I t (I+(fU (eE t) ks).length):=by
 cases q:eE t with
 | true=>rw [q] at hk;exact h.par L I hL hk
 | false=>rw [q] at hk;exact h.Gi q L I hL hk
theorem D4 {ks:List dq} (h:∃k r,ks=k::r∧(k.1=1∨k.1=2∨k.1=5∧k.2=[40])) (f:Bool):∃k r,fU f ks=k::r∧(k.1=1∨k.1=2∨k.1=5∧k.2=[40]):=by
 cases f with
 | false=>exact h
 | true=>exact ⟨_,_,rfl,.inr (.inr ⟨rfl,rfl⟩)⟩
theorem wY {s:bz} {f:Ty→List dq} {L:List aQ} (hL:L.length≤4000):∀(as:List Ty) (acc:List Ty) (I:Nat),acc.length+as.length≤100→(∀a∈as,FC a (f a))→Has L I (as.flatMap fun a=>fU (eE a) (f a))→lM L (I+(as.flatMap fun a=>fU (eE a) (f a)).length) →
   D1 L I true ⟨4,s,0,0,acc⟩ (I+(as.flatMap fun a=>fU (eE a) (f a)).length) ⟨4,s,0,0,acc++as⟩
 | [],acc,I,_,_,_,hs=>by simpa using B8 (by simpa using hs)
 | a::as,acc,I,hn,h,hk,hs=>by
   simp only [List.flatMap_cons] at hk hs ⊢
   rw [cL] at hk
   have ha:=h a (by simp)
   obtain ⟨k,r,hkr,nI⟩:=D4 ha.st (eE a)
   have hk1:=hk.1
   rw [hkr] at hk1
   obtain ⟨⟨p,h1⟩,_⟩:=hk1
   rw [List.length_append,←Nat.add_assoc] at hs ⊢
   have ih:=wY (s:=s) (f:=f) hL as (acc++[a]) (I+(fU (eE a) (f a)).length) (by simp at hn ⊢;omega) (fun x hx=>h x (by simp [hx])) hk.2 hs
   rw [List.append_assoc] at ih
   refine B9 h1 ?_ (by simp at hn;omega) (ha.en L I hL hk.1) ih
   rcases nI with q | q | ⟨q1,q2⟩
   · simp [aQ.Ck,q]
   · simp [aQ.Ck,q]
   · simp [aQ.Ck,aQ.d3,q1,q2]
theorem Cl.rt {t:Ty} {ks:List dq} (h:Cl t ks):FC t ks:=by
 induction h with
 | @named s=>
   have at_:∀(L:List aQ) (I:Nat),L.length≤4000→Has L I [(1,s)]→qk 131 L I (cH s) (I+1):=fun L I hL hk=>by
     obtain ⟨⟨p,h1⟩,_⟩:=hk
     exact v8 h1 hL rfl
   refine ⟨fun _ L I hL hk hs=>?_,fun L I hL hk hs hn=>?_,fun _=>at_,⟨_,_,rfl,.inl rfl⟩⟩
   · obtain ⟨p,h1⟩:=hk.1
     exact ⟨_,h1,.inr ⟨by simp,at_ L I hL hk⟩⟩
   · obtain ⟨p,h1⟩:=hk.1
     exact zL h1 (by simp) (at_ L I hL hk) hn
 | @d4 s as f hn ha _ ih=>
   have lp:∀(L:List aQ) (I:Nat),L.length≤4000→Has L I ((2,s)::as.flatMap fun a=>fU (eE a) (f a))→lM L (I+((2,s)::as.flatMap fun a=>fU (eE a) (f a)).length)→∃p,L[I]?=some ⟨2,s,p⟩∧D1 L (I+1) true ⟨4,s,0,0,[]⟩ (I+((2,s)::as.flatMap fun a=>fU (eE a) (f a)).length) ⟨4,s,0,0,as⟩:=fun L I hL hk hs=>by
     obtain ⟨⟨p,h1⟩,h2⟩:=hk
     simp only [List.length_cons] at hs ⊢
     rw [show I+((as.flatMap fun a=>fU (eE a) (f a)).length+1)=I+1+(as.flatMap fun a=>fU (eE a) (f a)).length by omega] at hs ⊢
     exact ⟨p,h1,wY hL as [] (I+1) (by simpa using hn) ih h2 hs⟩
   refine ⟨fun _ L I hL hk hs=>?_,fun L I hL hk hs hn=>?_,fun q L I hL hk=>?_,⟨_,_,rfl,.inr (.inl rfl)⟩⟩
   · obtain ⟨p,h1,h2⟩:=lp L I hL hk hs
     exact ⟨_,h1,.inl ⟨rfl,h2⟩⟩
   · obtain ⟨p,h1,h2⟩:=lp L I hL hk hs
     exact B_ h1 hL rfl h2 hn
   · have:as=[]:=by simpa [eE] using q
     subst this
     obtain ⟨⟨p,h1⟩,_⟩:=hk
     exact zK h1 hL rfl
 | @arrow a b ka kb _ _ iha ihb=>
   have rd_:∀(L:List aQ) (I:Nat),L.length≤4000→Has L I (fU a.cX ka++(5,[45,62])::kb)→lM L (I+(fU a.cX ka++(5,[45,62])::kb).length)→s0 L (I+(fU a.cX ka++(5,[45,62])::kb).length)→qk 133 L I ⟨4,[45,62],0,0,[a,b]⟩ (I+(fU a.cX ka++(5,[45,62])::kb).length):=fun L I hL hk hs hn=>by
     rw [cL] at hk
     obtain ⟨h1,⟨p,h2⟩,h3⟩:=hk
     have e:I+(fU a.cX ka++(5,[45,62])::kb).length=I+(fU a.cX ka).length+1+kb.length:=by simp;omega
     rw [e] at hs hn ⊢
     have hb:=ihb.rd L _ hL h3 hs hn
     cases q:a.cX with
     | false=>
       rw [q] at h1 h2 hb
       obtain ⟨u,hu,hr⟩:=iha.lf q L I hL h1 (v9 h2 (by simp))
       exact nC hu hL h2 rfl rfl hb hr
     | true=>
       rw [q] at h1 h2 hb
       obtain ⟨p0,h0⟩:=h1.1
       exact nC h0 hL h2 rfl rfl hb (.inr ⟨by simp,iha.par L I hL h1⟩)
   refine ⟨fun q=>?_,rd_,fun q=>?_,?_⟩
   · simp [Ty.cX] at q
   · simp [eE] at q
   · obtain ⟨k,r,e,nI⟩:=D4 iha.st a.cX
     exact ⟨k,_,by rw [e];rfl,nI⟩
end Go.Ab.Lw
namespace Go.Ab.Lw
open Ev
def ei (f:Ar→List dq):List Ar→List dq
 | []=>[]
 | [a]=>(2,a.d4)::(a.vars.map (fun v=>((1,v):dq))++(5,[46])::f a)
 | a::b::r=>(2,a.d4)::(a.vars.map (fun v=>((1,v):dq))++(5,[46])::(f a++(5,[124])::ei f (b::r)))
inductive Ke:Ex→List dq→Prop
 | name {k:Int} {s:bz}:k=1∨k=2→Ke ⟨k,0,s,0,[],[],ca⟩ [(k,s)]
 | int {m:Int} {s:bz}:(aD AP).p 146 [.str s]=some [vI m]→Ke ⟨3,0,[],m,[],[],ca⟩ [(3,s)]
 | hole:Ke ⟨10,0,[],0,[],[],ca⟩ [(5,[63])]
 | lam {s:bz} {a:Ex} {ka:List dq}:Ke a ka→Ke ⟨4,0,s,0,[a],[],ca⟩ ((5,[92])::(1,s)::(5,[46])::ka)
 | app {a b:Ex} {ka kb:List dq}:Ke a ka→Ke b kb→Ke ⟨5,0,[],0,[a,b],[],ca⟩ (fU (!a.bl && !decide (a.kind=5)) ka++fU (!b.bl) kb)
 | vW {s:bz} {a b:Ex} {ka kb:List dq}:Ke a ka→Ke b kb→Ke ⟨6,0,s,0,[a,b],[],ca⟩ ((4,[108,101,116])::(1,s)::(5,[61])::(ka++(4,[105,110])::kb))
 | Gj {s:bz} {a b:Ex} {ka kb:List dq}:Ke a ka→Ke b kb→Ke ⟨7,0,s,0,[a,b],[],ca⟩ ((4,[108,101,116])::(4,[114,101,99])::(1,s)::(5,[61])::(ka++(4,[105,110])::kb))
 | nv {a:Ex} {as:List Ar} {ka:List dq} {f:Ar→List dq}:Ke a ka→as≠[]→as.length≤10→(∀x∈as,x.pos=0)→(∀x∈as,Ke x.body (f x))→Ke ⟨8,0,[],0,[a],as,ca⟩ ((4,[99,97,115,101])::(ka++(4,[111,102])::(ei f as++[(4,[101,110,100])])))
 | Fa {a:Ex} {t:Ty} {ka kt:List dq}:Ke a ka→Cl t kt→Ke ⟨9,0,[],0,[a],[],t⟩ ((5,[40])::(ka++(5,[58])::(kt++[(5,[41])])))
 | held {a:Ex} {ka:List dq}:Ke a ka→Ke ⟨11,0,[],0,[a],[],ca⟩ ((5,[123])::(ka++[(5,[125])]))
def Al (e' e:Ex):Prop:=e'.strip=e.strip
theorem B' {L:List aQ} {I:Nat} {p:Int} {s:bz} (h:L[I]?=some ⟨4,s,p⟩):Stop L I:=.inr ⟨_,h,by simp [aQ.st]⟩
theorem wZ {L:List aQ} {I:Nat} {p:Int} {s:bz} (h:L[I]?=some ⟨5,s,p⟩) (hs:s≠[63]∧s≠[40]∧s≠[123]):Stop L I:=.inr ⟨_,h,by simp [aQ.st,hs]⟩
def dq.fst (k:dq):Prop:=k.1=1∨k.1=2∨k.1=3∨k.1=5∧(k.2=[63]∨k.2=[40]∨k.2=[123])
theorem Ca {k:dq} {p:Int} (h:k.fst):(⟨k.1,k.2,p⟩:aQ).st=true∧(⟨k.1,k.2,p⟩:aQ).d3 [92]=false∧(⟨k.1,k.2,p⟩:aQ).d3 [108,101,116]=false∧(⟨k.1,k.2,p⟩:aQ).d3 [99,97,115,101]=false:=by
 obtain ⟨k,s⟩:=k
 rcases h with h | h | h | ⟨h,h2 | h2 | h2⟩<;>simp only at h<;>subst h<;>first | (simp [aQ.st,aQ.d3];done) | (simp only at h2;subst h2;simp [aQ.st,aQ.d3])
structure RE (e:Ex) (ks:List dq):Prop where
 rd:∀(L:List aQ) (I:Nat),L.length≤4000→Has L I ks→Stop L (I+ks.length)→∃e',Al e' e∧i_ 134 L I e' (I+ks.length)
 Gi:e.bl=true→∀(L:List aQ) (I:Nat),L.length≤4000→Has L I ks→∃e',Al e' e∧i_ 141 L I e' (I+ks.length)
 sp:e.bl=true∨e.kind=5→∀(L:List aQ) (I J:Nat) (R:Ex→Ex),L.length≤4000→Has L I ks→(∀e',Al e' e→∀a b c,Lp L (I+ks.length) a b c e' J (R e'))→∃e',Al e' e∧i_ 134 L I (R e') J
 fs:e.bl=true∨e.kind=5→∃k r,ks=k::r∧k.fst
theorem RE.par {e:Ex} {ks:List dq} (h:RE e ks) (L:List aQ) (I:Nat) (hL:L.length≤4000) (hk:Has L I (fU true ks)):∃e',Al e' e∧i_ 141 L I e' (I+(fU true ks).length):=by
 simp only [fU,if_true,Has] at hk
 obtain ⟨⟨p,h1⟩,h2⟩:=hk
 rw [cL] at h2
 obtain ⟨h2,⟨q,h3⟩,_⟩:=h2
 obtain ⟨e',a1,a2⟩:=h.rd L (I+1) hL h2 (wZ h3 (by simp))
 rw [show I+(fU true ks).length=I+1+ks.length+1 by simp [fU];omega]
 exact ⟨e',a1,v7 h1 hL rfl rfl a2 h3 rfl rfl⟩
theorem RE.en {e:Ex} {ks:List dq} (h:RE e ks) (L:List aQ) (I:Nat) (hL:L.length≤4000) (hk:Has L I (fU (!e.bl) ks)):∃e',Al e' e∧i_ 141 L I e' (I+(fU (!e.bl) ks).length):=by
 cases q:e.bl with
 | false=>rw [q] at hk;exact h.par L I hL hk
 | true=>rw [q] at hk;exact h.Gi q L I hL hk
theorem RE.HJ {e:Ex} {ks:List dq} (h:RE e ks):∃k r,fU (!e.bl) ks=k::r∧k.fst:=by
 cases q:e.bl with
 | false=>exact ⟨_,_,rfl,.inr (.inr (.inr ⟨rfl,.inr (.inl rfl)⟩))⟩
 | true=>exact h.fs (.inl q)
theorem Cb {e:Ex} {ks:List dq} (ha:∀(L:List aQ) (I:Nat),L.length≤4000→Has L I ks→∃e',Al e' e∧i_ 141 L I e' (I+ks.length)) (hf:∃k r,ks=k::r∧k.fst) (L:List aQ) (I J:Nat) (R:Ex→Ex) (hL:L.length≤4000) (hk:Has L I ks)
   (hc:∀e',Al e' e→∀a b c,Lp L (I+ks.length) a b c e' J (R e')):∃e',Al e' e∧i_ 134 L I (R e') J:=by
 obtain ⟨e',a1,a2⟩:=ha L I hL hk
 obtain ⟨k,r,rfl,hkf⟩:=hf
 obtain ⟨p,h1⟩:=hk.1
 obtain ⟨_,n1,n2,n3⟩:=Ca (p:=p) hkf
 exact ⟨e',a1,DE h1 n1 n2 n3 a2 (hc e' a1)⟩
theorem j_ {e:Ex} {ks:List dq} (ha:∀(L:List aQ) (I:Nat),L.length≤4000→Has L I ks→∃e',Al e' e∧i_ 141 L I e' (I+ks.length)) (hf:∃k r,ks=k::r∧k.fst):RE e ks where
 rd:=fun L I hL hk hs=>Cb ha hf L I _ id hL hk fun e' _ a b c=>wW hs
 Gi:=fun _=>ha
 sp:=fun _=>Cb ha hf
 fs:=fun _=>hf
theorem w0 {e:Ex} {ks:List dq} (h1:e.bl=false) (h2:e.kind≠5) (h:∀(L:List aQ) (I:Nat),L.length≤4000→Has L I ks→Stop L (I+ks.length)→∃e',Al e' e∧i_ 134 L I e' (I+ks.length)):RE e ks where
 rd:=h
 Gi:=fun q=>by rw [h1] at q;cases q
 sp:=fun q=>by
   rcases q with q | q;· rw [h1] at q;cases q
   · exact absurd q h2
 fs:=fun q=>by
   rcases q with q | q;· rw [h1] at q;cases q
   · exact absurd q h2
theorem kc {k p n:Int} {s:bz} {l m:List Ex} {t:Ty} (h:l.map Ex.strip=m.map Ex.strip):Al ⟨k,p,s,n,l,[],t⟩ ⟨k,0,s,n,m,[],t⟩:=by
 unfold Al
 rw [Ex.dG,Ex.dG]
 simp [h]
end Go.Ab.Lw
namespace Go.Ab.Lw
open Ev
def GA (a:Ar):Ar:=⟨0,a.d4,a.vars,a.body.strip⟩
theorem nD {L:List aQ}:∀{vs:List bz} {I:Nat},Has L I (vs.map fun v=>((1,v):dq))→DF L I vs
 | [],_,_=>trivial
 | v::vs,I,h=>by
   obtain ⟨⟨p,h1⟩,h2⟩:=h
   exact ⟨⟨_,h1,rfl,rfl⟩,nD h2⟩
theorem w4 {L:List aQ} (hL:L.length≤4000) {p:Int} {s:Ex} {f:Ar→List dq}:∀(as acc:List Ar) (I:Nat),as≠[]→acc.length≤I→(∀x∈as,RE x.body (f x))→Has L I (ei f as)→(∃u,L[I+(ei f as).length]?=some u∧u.kind=4∧u.text=[101,110,100]) →
   ∃as',as'.map GA=as.map GA∧Gg L I p s acc (I+(ei f as).length) (acc++as')
 | [a],acc,I,_,ha,h,hk,⟨u,hu,huk,hut⟩=>by
   simp only [ei,Has] at hk
   obtain ⟨⟨p1,h1⟩,hk⟩:=hk
   rw [cL] at hk
   simp only [List.length_map,Has] at hk
   obtain ⟨h2,⟨p2,h3⟩,h4⟩:=hk
   have e:I+(ei f [a]).length=I+1+a.vars.length+1+(f a).length:=by simp [ei];omega
   rw [e] at hu ⊢
   obtain ⟨b',b1,b2⟩:=(h a (by simp)).rd L _ hL h4 (.inr ⟨u,hu,by simp [aQ.st,huk]⟩)
   exact ⟨[⟨p1,a.d4,a.vars,b'⟩],by simp only [List.map_cons,List.map_nil,GA];rw [b1],wX hL ha h1 rfl (nD h2) h3 rfl rfl b2 (.inl ⟨.inr ⟨u,hu,by simp [aQ.d3,huk,hut]⟩,rfl,rfl⟩)⟩
 | a::b::r,acc,I,_,ha,h,hk,hu=>by
   simp only [ei,Has] at hk
   obtain ⟨⟨p1,h1⟩,hk⟩:=hk
   rw [cL] at hk
   simp only [List.length_map,Has] at hk
   obtain ⟨h2,⟨p2,h3⟩,h4⟩:=hk
   rw [cL] at h4
   obtain ⟨h4,⟨p5,h5⟩,h6⟩:=h4
   have e:I+(ei f (a::b::r)).length=I+1+a.vars.length+1+(f a).length+1+(ei f (b::r)).length:=by simp [ei];omega
   rw [e] at hu ⊢
   obtain ⟨b',b1,b2⟩:=(h a (by simp)).rd L _ hL h4 (wZ h5 (by simp))
   obtain ⟨as',c1,c2⟩:=w4 hL (p:=p) (s:=s) (f:=f) (b::r) (acc++[⟨p1,a.d4,a.vars,b'⟩]) _ (by simp) (by rw [List.length_append];simp only [List.length_cons,List.length_nil];omega) (fun x hx=>h x (List.mem_cons_of_mem _ hx)) h6 hu
   rw [List.append_assoc] at c2
   exact ⟨⟨p1,a.d4,a.vars,b'⟩::as',by simp only [List.map_cons,c1];simp only [GA];rw [b1],wX hL ha h1 rfl (nD h2) h3 rfl rfl b2 (.inr ⟨⟨_,h5,by simp [aQ.d3]⟩,c2⟩)⟩
theorem v_ {k p n:Int} {s:bz} {a b:Ex} {t:Ty} (h:Al a b):Al ⟨k,p,s,n,[a],[],t⟩ ⟨k,0,s,n,[b],[],t⟩:=kc (by simp only [List.map_cons,List.map_nil];rw [h])
theorem nE {k p n:Int} {s:bz} {a b c d:Ex} {t:Ty} (h:Al a b) (h2:Al c d):Al ⟨k,p,s,n,[a,c],[],t⟩ ⟨k,0,s,n,[b,d],[],t⟩:=kc (by simp only [List.map_cons,List.map_nil];rw [h,h2])
theorem Ke.re {e:Ex} {ks:List dq} (h:Ke e ks):RE e ks:=by
 induction h with
 | @name k s hk=>
   refine j_ (fun L I hL h=>?_) ⟨_,_,rfl,hk.elim .inl fun q=>.inr (.inl q)⟩
   obtain ⟨p,h1⟩:=h.1
   exact ⟨_,kc rfl,zI h1 hL hk⟩
 | @int m s hm=>
   refine j_ (fun L I hL h=>?_) ⟨_,_,rfl,.inr (.inr (.inl rfl))⟩
   obtain ⟨p,h1⟩:=h.1
   exact ⟨_,kc rfl,B4 h1 hL rfl hm⟩
 | hole=>
   refine j_ (fun L I hL h=>?_) ⟨_,_,rfl,.inr (.inr (.inr ⟨rfl,.inl rfl⟩))⟩
   obtain ⟨p,h1⟩:=h.1
   exact ⟨_,kc rfl,zH h1 hL rfl rfl⟩
 | @lam s a ka _ ih=>
   refine w0 (by simp [Ex.bl]) (by simp) fun L I hL h hs=>?_
   obtain ⟨⟨p1,h1⟩,⟨p2,h2⟩,⟨p3,h3⟩,h4⟩:=h
   have e:I+((5,[92])::(1,s)::(5,[46])::ka).length=I+1+1+1+ka.length:=by simp;omega
   rw [e] at hs ⊢
   obtain ⟨a',a1,a2⟩:=ih.rd L _ hL h4 hs
   exact ⟨_,v_ a1,B3 h1 h2 h3 hL rfl rfl rfl rfl rfl a2⟩
 | @app a b ka kb _ _ iha ihb=>
   have sp_:∀(L:List aQ) (I J:Nat) (R:Ex→Ex),L.length≤4000→Has L I (fU (!a.bl && !decide (a.kind=5)) ka++fU (!b.bl) kb)→(∀e',Al e' ⟨5,0,[],0,[a,b],[],ca⟩→∀x y z,Lp L (I+(fU (!a.bl && !decide (a.kind=5)) ka++fU (!b.bl) kb).length) x y z e' J (R e')) →
       ∃e',Al e' ⟨5,0,[],0,[a,b],[],ca⟩∧i_ 134 L I (R e') J:=fun L I J R hL h hc=>by
     rw [cL] at h
     obtain ⟨h1,h2⟩:=h
     obtain ⟨b',b1,b2⟩:=ihb.en L _ hL h2
     obtain ⟨k,r,hkr,hkf⟩:=ihb.HJ
     rw [hkr] at h2
     obtain ⟨⟨p,h3⟩,_⟩:=h2
     obtain ⟨nI,_⟩:=Ca (p:=p) hkf
     rw [List.length_append,←Nat.add_assoc] at hc
     have step:∀a',Al a' a→∀x y z,Lp L (I+(fU (!a.bl && !decide (a.kind=5)) ka).length) x y z a' J (R (B2 a'.pos a' b')):=fun a' ha x y z=>DD h3 nI b2 (hc _ (nE ha b1) _ _ _)
     by_cases q:a.bl=true∨a.kind=5
     · have e:(!a.bl && !decide (a.kind=5))=false:=by rcases q with q | q<;>simp [q]
       rw [e] at h1 step
       obtain ⟨a',a1,a2⟩:=iha.sp q L I J (fun a'=>R (B2 a'.pos a' b')) hL h1 step
       exact ⟨_,nE a1 b1,a2⟩
     · have e:(!a.bl && !decide (a.kind=5))=true:=by
         simp only [not_or] at q
         simp [q.1,q.2]
       rw [e] at h1 step
       have hf:∃k r,fU true ka=k::r∧k.fst:=⟨_,_,rfl,.inr (.inr (.inr ⟨rfl,.inr (.inl rfl)⟩))⟩
       obtain ⟨a',a1,a2⟩:=Cb (fun L I hL h=>iha.par L I hL h) hf L I J (fun a'=>R (B2 a'.pos a' b')) hL h1 step
       exact ⟨_,nE a1 b1,a2⟩
   refine ⟨fun L I hL h hs=>?_,fun q=>by simp [Ex.bl] at q,fun _=>sp_,fun _=>?_⟩
   · exact sp_ L I _ id hL h fun e' _ x y z=>wW hs
   · by_cases q:a.bl=true∨a.kind=5
     · have e:(!a.bl && !decide (a.kind=5))=false:=by rcases q with q | q<;>simp [q]
       obtain ⟨k,r,e2,hf⟩:=iha.fs q
       rw [e]
       exact ⟨k,_,by rw [e2];rfl,hf⟩
     · have e:(!a.bl && !decide (a.kind=5))=true:=by
         simp only [not_or] at q
         simp [q.1,q.2]
       rw [e]
       exact ⟨_,_,rfl,.inr (.inr (.inr ⟨rfl,.inr (.inl rfl)⟩))⟩
 | @vW s a b ka kb _ _ iha ihb=>
   refine w0 (by simp [Ex.bl]) (by simp) fun L I hL h hs=>?_
   obtain ⟨⟨p1,h1⟩,⟨p2,h2⟩,⟨p3,h3⟩,h4⟩:=h
   rw [cL] at h4
   obtain ⟨h4,⟨p5,h5⟩,h6⟩:=h4
   have e:I+((4,[108,101,116])::(1,s)::(5,[61])::(ka++(4,[105,110])::kb)).length=I+1+1+1+ka.length+1+kb.length:=by simp;omega
   rw [e] at hs ⊢
   obtain ⟨a',a1,a2⟩:=iha.rd L _ hL h4 (B' h5)
   obtain ⟨b',b1,b2⟩:=ihb.rd L _ hL h6 hs
   exact ⟨_,nE a1 b1,B5 h1 h2 h3 h5 hL rfl rfl rfl rfl rfl a2 rfl rfl b2⟩
 | @Gj s a b ka kb _ _ iha ihb=>
   refine w0 (by simp [Ex.bl]) (by simp) fun L I hL h hs=>?_
   obtain ⟨⟨p1,h1⟩,⟨p0,h0⟩,⟨p2,h2⟩,⟨p3,h3⟩,h4⟩:=h
   rw [cL] at h4
   obtain ⟨h4,⟨p5,h5⟩,h6⟩:=h4
   have e:I+((4,[108,101,116])::(4,[114,101,99])::(1,s)::(5,[61])::(ka++(4,[105,110])::kb)).length=I+1+1+1+1+ka.length+1+kb.length:=by simp;omega
   rw [e] at hs ⊢
   obtain ⟨a',a1,a2⟩:=iha.rd L _ hL h4 (B' h5)
   obtain ⟨b',b1,b2⟩:=ihb.rd L _ hL h6 hs
   exact ⟨_,nE a1 b1,B6 h1 h0 h2 h3 h5 hL rfl rfl rfl rfl rfl rfl rfl a2 rfl rfl b2⟩
 | @nv a as ka f _ hn hl hp _ iha ihs=>
   refine w0 (by simp [Ex.bl]) (by simp) fun L I hL h hs=>?_
   obtain ⟨⟨p1,h1⟩,h2⟩:=h
   rw [cL] at h2
   obtain ⟨h2,⟨p3,h3⟩,h4⟩:=h2
   rw [cL] at h4
   obtain ⟨h4,⟨p5,h5⟩,_⟩:=h4
   have e:I+((4,[99,97,115,101])::(ka++(4,[111,102])::(ei f as++[(4,[101,110,100])]))).length=I+1+ka.length+1+(ei f as).length+1:=by simp;omega
   rw [e] at hs ⊢
   obtain ⟨a',a1,a2⟩:=iha.rd L _ hL h2 (B' h3)
   obtain ⟨as',b1,b2⟩:=w4 hL (p:=p1) (s:=a') as [] _ hn (by simp) ihs h4 ⟨_,h5,rfl,rfl⟩
   refine ⟨_,?_,zM hL h1 rfl rfl a2 h3 rfl rfl b2 h5 rfl rfl⟩
   unfold Al
   rw [Ex.dG,Ex.dG]
   simp only [List.map_cons,List.map_nil,List.nil_append]
   rw [a1]
   congr 1
 | @Fa a t ka kt _ ht ih=>
   refine j_ (fun L I hL h=>?_) ⟨_,_,rfl,.inr (.inr (.inr ⟨rfl,.inr (.inl rfl)⟩))⟩
   obtain ⟨⟨p1,h1⟩,h2⟩:=h
   rw [cL] at h2
   obtain ⟨h2,⟨p3,h3⟩,h4⟩:=h2
   rw [cL] at h4
   obtain ⟨h4,⟨p5,h5⟩,_⟩:=h4
   have e:I+((5,[40])::(ka++(5,[58])::(kt++[(5,[41])]))).length=I+1+ka.length+1+kt.length+1:=by simp;omega
   rw [e]
   obtain ⟨a',a1,a2⟩:=ih.rd L _ hL h2 (wZ h3 (by simp))
   exact ⟨_,v_ a1,B7 h1 hL rfl rfl a2 h3 rfl rfl (ht.rt.rd L _ hL h4 (v9 h5 (by simp)) (.inr ⟨_,h5,by simp [aQ.d3]⟩)) h5 rfl rfl⟩
 | @held a ka _ ih=>
   refine j_ (fun L I hL h=>?_) ⟨_,_,rfl,.inr (.inr (.inr ⟨rfl,.inr (.inr rfl)⟩))⟩
   obtain ⟨⟨p1,h1⟩,h2⟩:=h
   rw [cL] at h2
   obtain ⟨h2,⟨p3,h3⟩,_⟩:=h2
   have e:I+((5,[123])::(ka++[(5,[125])])).length=I+1+ka.length+1:=by simp;omega
   rw [e]
   obtain ⟨a',a1,a2⟩:=ih.rd L _ hL h2 (wZ h3 (by simp))
   exact ⟨_,v_ a1,zJ h1 hL rfl rfl a2 h3 rfl rfl⟩
end Go.Ab.Lw
namespace Go.Ab.Lw
open Ev
theorem c119r {L:List aQ}:(aD AP).i 119 [.pv (.aE (L.map aQ.pv)),.pv (vI 0)] [] []=some ([.aJ 0 0],rd L 0,[]):=by
 rw [az (af:=g119) rfl (by simp [g119])]
 have:¬(L.length:Int)<0:=by omega
 simp [g119,this]
end Go.Ab.Lw
namespace Go.Ab.Lw
open Ev
theorem Cc {src:bz} (hS:src.length≤4000) {i:Nat} {acc:List aQ} (hA:acc.length≤i) (hc:src[i]?=some 45) (hd:src[i+1]?=some 62) (hk:(aD AP).p 125 [.str [45,62]]=some [vI 5])
   {R:Option (aP×St)} (ih:cl AP g118L0 (qo src (i+2) (acc++[⟨5,[45,62],i⟩]))=R):cl AP g118L0 (qo src i acc)=R:=by
 have hi:=(List.getElem?_eq_some_iff.1 hd).1
 have hi0:=(List.getElem?_eq_some_iff.1 hc).1
 have hi1:(i:Int)+1<src.length:=by omega
 have c1:=c117p (c:=45)
 rw [show fQ 45=false by decide] at c1
 have hz:(acc.length+1)*32≤140737488355328:=by omega
 have sl:∀k k':IntKind,dX true 0 true true false [.pv (.str src),.pv (.int k (i:Int)),.pv (.int k' ((i:Int)+2))]=some (.pv (.str [45,62])):=by
   intro k k'
   rw [GR (by omega) (by omega) (by omega),Int.toNat_natCast,show ((i:Int)+2).toNat=i+2 by omega,List.drop_take,eg hc,eg hd]
   simp
 have e2:(i:Int)+1+1=((i+2:Nat):Int):=by omega
 unfold qo at *
 rw [g118L0e] at ih ⊢
 simp at ih c1
 simp (disch:=omega) [-getElem?_pos,g118B0,hc,hd,hi0,hi1,e2,aK,c1,sl,hk,vV,hz]
 rw [g118L0e]
 simp [ih]
def w5 (r:bz):Prop:=∀x,r.head?=some x→fQ x.toNat=false
def wa (c:UInt8):Bool:=c == 92 || c == 46 || c == 40 || c == 41 || c == 123 || c == 125 || c == 63 || c == 61 || c == 58 || c == 124
structure Wd (k:Int) (s:bz):Prop where
 ne:s≠[]
 Hb:kL s=true
 kd:(aD AP).p 125 [.str s]=some [vI k]
 nz:k≠0
inductive jz:bz→List dq→Prop
 | nil:jz [] []
 | sp {r:bz} {kr:List dq}:jz r kr→jz (32::r) kr
 | mark {c:UInt8} {r:bz} {kr:List dq}:wa c=true→jz r kr→jz (c::r) ((5,[c])::kr)
 | arrow {r:bz} {kr:List dq}:jz r kr→jz (45::62::r) ((5,[45,62])::kr)
 | word {k:Int} {w r:bz} {kr:List dq}:Wd k w→w5 r→jz r kr→jz (w++r) ((k,w)::kr)
theorem ql {a b:bz} (h:w5 a) (hb:w5 b):w5 (a++b):=by
 cases a with
 | nil=>exact hb
 | cons x a=>intro y hy;exact h y (by simpa using hy)
theorem cY {c:UInt8} {r:bz} (h:fQ c.toNat=false):w5 (c::r):=by
 intro x hx
 simp at hx
 subst hx
 exact h
theorem jz.app {s r:bz} {ks kr:List dq} (h:jz s ks) (hr:jz r kr) (hn:w5 r):jz (s++r) (ks++kr):=by
 induction h with
 | nil=>exact hr
 | sp _ ih=>exact .sp ih
 | mark hc _ ih=>exact .mark hc ih
 | arrow _ ih=>exact .arrow ih
 | word hw hi _ ih=>rw [List.append_assoc];exact .word hw (ql hi hn) ih
theorem Gk {c:UInt8} (h:wa c=true):(aD AP).p 125 [.str [c]]=some [vI 5]∧fQ c.toNat=false∧((c.toNat:Int)≠32∧(c.toNat:Int)≠9∧(c.toNat:Int)≠13∧(c.toNat:Int)≠10∧(c.toNat:Int)≠35∧(c.toNat:Int)≠45):=by
 simp only [wa,Bool.or_eq_true,beq_iff_eq] at h
 rcases h with (((((((((h | h) | h) | h) | h) | h) | h) | h) | h) | h)<;>subst h<;>exact ⟨Fc.zB (k:=400) (n:=40) (by kernel_rfl),by decide,by decide⟩
theorem Gl:(aD AP).p 125 [.str [45,62]]=some [vI 5]:=Fc.zB (k:=400) (n:=40) (by kernel_rfl)
def dq.of (t:aQ):dq:=(t.kind,t.text)
theorem iX {src:bz} {i:Nat} {c:UInt8} {r:bz} (hd:src.drop i=c::r):src[i]?=some c∧src.drop (i+1)=r:=by
 have hc:src[i]?=some c:=by have:=congrArg List.head? hd;rw [List.head?_drop] at this;simpa using this
 rw [eg hc] at hd
 exact ⟨hc,(List.cons.inj hd).2⟩
theorem jz.run {src:bz} (hS:src.length≤4000) {s:bz} {ks:List dq} (h:jz s ks) {r:bz} (hn:w5 r):∀{i:Nat} {acc:List aQ},acc.length≤i→src.drop i=s++r →
   ∃T:List aQ,T.map dq.of=ks∧(acc++T).length≤i+s.length∧cl AP g118L0 (qo src i acc)=cl AP g118L0 (qo src (i+s.length) (acc++T)):=by
 induction h with
 | nil=>intro i acc hA hd;exact ⟨[],rfl,by simpa using hA,by simp⟩
 | @sp r' kr _ ih=>
   intro i acc hA hd
   obtain ⟨hc,hd2⟩:=iX hd
   obtain ⟨T,hT,hl,e⟩:=ih (acc:=acc) (by omega) hd2
   rw [List.length_cons,show i+(r'.length+1)=i+1+r'.length by omega]
   exact ⟨T,hT,hl,BV hS hc e⟩
 | @mark c r' kr hm _ ih=>
   intro i acc hA hd
   obtain ⟨hc,hd2⟩:=iX hd
   obtain ⟨k1,k2,k3⟩:=Gk hm
   obtain ⟨T,hT,hl,e⟩:=ih (acc:=acc++[⟨5,[c],i⟩]) (by simp;omega) hd2
   rw [List.length_cons,show i+(r'.length+1)=i+1+r'.length by omega]
   rw [List.append_assoc] at hl e
   exact ⟨⟨5,[c],i⟩::T,by rw [List.map_cons,hT];rfl,hl,Dq hS hA hc k1 (by decide) k2 k3 e⟩
 | @arrow r' kr _ ih=>
   intro i acc hA hd
   obtain ⟨hc,hd2⟩:=iX hd
   obtain ⟨hc2,hd3⟩:=iX hd2
   obtain ⟨T,hT,hl,e⟩:=ih (acc:=acc++[⟨5,[45,62],i⟩]) (by simp;omega) hd3
   rw [List.length_cons,List.length_cons,show i+(r'.length+1+1)=i+1+1+r'.length by omega]
   rw [List.append_assoc] at hl e
   exact ⟨⟨5,[45,62],i⟩::T,by rw [List.map_cons,hT];rfl,hl,Cc hS hA hc hc2 Gl e⟩
 | @word kd w r' kr hw hi _ ih=>
   intro i acc hA hd
   obtain ⟨ne,Hb,kk,nz⟩:=hw
   cases w with
   | nil=>exact absurd rfl ne
   | cons c t=>
     rw [List.append_assoc] at hd
     have hd2:src.drop (i+(t.length+1))=r'++r:=by rw [←List.drop_drop,hd];simp
     obtain ⟨T,hT,hl,e⟩:=ih (acc:=acc++[⟨kd,c::t,i⟩]) (by simp;omega) hd2
     rw [List.length_append,List.length_cons,show i+(t.length+1+r'.length)=i+(t.length+1)+r'.length by omega]
     rw [List.append_assoc] at hl e
     exact ⟨⟨kd,c::t,i⟩::T,by rw [List.map_cons,hT];rfl,hl,Dr hS hA hd Hb (ql hi hn) kk nz e⟩
theorem Cd {L:List aQ}:∀{T:List aQ} {I:Nat},L.drop I=T→Has L I (T.map dq.of)
 | [],_,_=>trivial
 | t::T,I,h=>by
   have hc:L[I]?=some t:=by have:=congrArg List.head? h;rw [List.head?_drop] at this;simpa using this
   have h2:L.drop (I+1)=T:=by rw [←List.drop_drop,h];rfl
   exact ⟨⟨t.pos,hc⟩,Cd h2⟩
theorem jz.scan {s:bz} {ks:List dq} (h:jz s ks) (hS:s.length≤4000):∃T:List aQ,(aD AP).p 118 [.str s]=some [.aE (T.map aQ.pv),.agg [vI 0,vI 0]]∧Has T 0 ks∧T.length=ks.length∧T.length≤4000:=by
 obtain ⟨T,hT,hl,e⟩:=h.run hS (r:=[]) (by simp [w5]) (i:=0) (acc:=[]) (by simp) (by simp)
 rw [Nat.zero_add] at hl e
 rw [List.nil_append] at hl e
 refine ⟨T,c118 hS fun R hR=>?_,?_,by rw [←hT];simp,by omega⟩
 · rw [e]
   exact EY hR
 · rw [←hT]
   exact Cd (by simp)
end Go.Ab.Lw
namespace Go.Ab.Lw
open Ev
def ej:List (Int×bz):=[(1,[120]),(1,[121]),(1,[122]),(1,[102]),(1,[103]),(1,[118,49]),(1,[118,50]),(1,[105,100]),(1,[97]),(1,[98]),(1,[99]),
 (2,[71,111,110,101]),(2,[73,110,116]),(2,[66,111,111,108]),(2,[84,114,117,101]),(2,[70,97,108,115,101]),(2,[79,112,116,105,111,110]),(2,[78,111,110,101]),(2,[83,111,109,101]),(2,[76,105,115,116]),(2,[78,105,108]),(2,[67,111,110,115]),
 (2,[80,97,105,114]),(2,[78,97,116]),(2,[90,101,114,111]),(2,[83,117,99,99]),(2,[70,117,110]),(2,[84,119,111]),(2,[66,111,116,104]),(2,[79,110,101]),
 (3,[48]),(3,[49]),(3,[50]),(3,[51]),(4,[108,101,116]),(4,[114,101,99]),(4,[105,110]),(4,[99,97,115,101]),(4,[111,102]),(4,[101,110,100])]
theorem Fh:∀x∈ej,(aD AP).p 125 [.str x.2]=some [vI x.1]:=by
 simp only [ej,List.forall_mem_cons]
 repeat' apply And.intro
 all_goals first | exact Fc.zB (k:=400) (n:=40) (by kernel_rfl) | (intro x hx;cases hx)
theorem wb:∀x∈ej,x.2≠[]∧kL x.2=true∧x.1≠0:=by decide +kernel
theorem wd {k:Int} {s:bz} (h:(k,s)∈ej):Wd k s:=⟨(wb _ h).1,(wb _ h).2.1,Fh _ h,(wb _ h).2.2⟩
theorem DG:∀d∈bD,(2,d.name)∈ej∧d.params.length≤2∧d.cons.length≤2∧d.cons≠[]∧∀c∈d.cons,(2,c.name)∈ej∧c.fields.length≤4:=by decide +kernel
theorem DH:∀s∈varNames,(1,s)∈ej:=by decide +kernel
theorem Hs:∀t∈gv,(1,t.name)∈ej∧t=cH t.name:=by
 intro t ht
 simp only [gv,List.mem_cons,List.not_mem_nil,or_false] at ht
 rcases ht with rfl | rfl | rfl<;>exact ⟨by decide +kernel,rfl⟩
structure Cm (t:Ty) (s:bz) (ks:List dq):Prop where
 k:Cl t ks
 sc:jz s ks
 ln:s.length+3≤105*t.nodes.length
 p:(aD AP).p 252 [t.pv]=some [.str s]
theorem kg {b:Bool} {s:bz} {ks:List dq} (h:jz s ks):jz (fR b s) (fU b ks):=by
 cases b with
 | false=>exact h
 | true=>exact .mark (by decide) (h.app (.mark (by decide) .nil) (cY (by decide)))
theorem zN {s:bz} (h:Wd 1 s) (hl:s.length≤100):Cm (cH s) s [(1,s)] where
 k:=.named
 sc:=by have:=jz.word h (r:=[]) (by simp [w5]) .nil;rwa [List.append_nil] at this
 ln:=by rw [Ty.dE];simp [cH];omega
 p:=by rw [aA (af:=g252) rfl rfl (by decide)];simp [g252,cH]
theorem zP {a b:Ty} {sa sb:bz} {ka kb:List dq} (ha:Cm a sa ka) (hb:Cm b sb kb) (hN:a.nodes.length+b.nodes.length≤10000):Cm ⟨4,[45,62],0,0,[a,b]⟩ (fR a.cX sa++(32::45::62::32::sb)) (fU a.cX ka++(5,[45,62])::kb) where
 k:=.arrow ha.k hb.k
 sc:=(kg ha.sc).app (.sp (.arrow (.sp hb.sc))) (cY (by decide))
 ln:=by
   have hel:=gI (b:=a.cX) (s:=sa)
   have:=ha.ln;have:=hb.ln
   rw [Ty.dE];simp;omega
 p:=by
   have hel:=gI (b:=a.cX) (s:=sa)
   have la:=ha.ln;have lb:=hb.ln
   have k264:=c264 dL (t:=⟨4,[45,62],0,0,[a,b]⟩)
   have ka:=c264 dL (t:=a)
   have ke:=c258 dL (s:=sa) (b:=a.cX) (by omega)
   have pa:=ha.p
   have pb:=hb.p
   rw [aA (af:=g252) rfl rfl (by decide)]
   generalize fR a.cX sa=E at *
   simp [Ty.cX] at k264 pa pb ka ke
   simp (disch:=first | omega | (simp only [List.length_append,List.length_cons,List.length_nil];omega)) [-cT,eD,g252,k264,pa,pb,ka,ke]
theorem s3 {f:Ty→bz} {g:Ty→List dq}:∀{as:List Ty},(∀x∈as,Cm x (f x) (g x))→jz (as.flatMap fun x=>32::fR (eE x) (f x)) (as.flatMap fun x=>fU (eE x) (g x))∧w5 (as.flatMap fun x=>32::fR (eE x) (f x))
 | [],_=>⟨.nil,by simp [w5]⟩
 | a::r,h=>by
   obtain ⟨h1,h2⟩:=s3 (as:=r) fun x hx=>h x (by simp [hx])
   simp only [List.flatMap_cons]
   exact ⟨.sp ((kg (h a (by simp)).sc).app h1 h2),cY (by decide)⟩
theorem w6 {s:bz} {as:List Ty} {f:Ty→bz} {g:Ty→List dq} (hw:Wd 2 s) (hl:s.length≤100) (h:∀x∈as,Cm x (f x) (g x)) (hn:as.length≤100) (hN:(as.flatMap Ty.nodes).length≤10000) :
   Cm ⟨4,s,0,0,as⟩ (s++as.flatMap fun x=>32::fR (eE x) (f x)) ((2,s)::as.flatMap fun x=>fU (eE x) (g x)):=by
 have hs:s≠[45,62]:=fun e=>by have:=hw.Hb;rw [e] at this;revert this;decide
 have hr:(Ty.mk 4 s 0 0 as).cX=false:=by simp [Ty.cX,hs]
 obtain ⟨sc,ni⟩:=s3 h
 have hlen:(as.flatMap fun x=>32::fR (eE x) (f x)).length≤105*(as.flatMap Ty.nodes).length:=B0 fun x hm=>by
   have h1:=(h x hm).ln
   have h2:=gI (b:=eE x) (s:=f x)
   simp only [List.length_cons]
   omega
 have fin:∀x∈as,(f x).length+3≤1050000:=fun x hm=>by have h1:=(h x hm).ln;have h2:=zF (t:=⟨4,s,0,0,as⟩) hm;rw [Ty.dE ⟨4,s,0,0,as⟩] at h2;simp only [List.length_cons] at h2;omega
 refine ⟨.d4 hn hr fun a ha=>(h a ha).k,.word hw ni sc,?_,?_⟩
 · rw [Ty.dE,List.length_append];simp only [List.length_cons];omega
 · have k264:=c264 dL (t:=⟨4,s,0,0,as⟩)
   have h1:=Gc dL (args:=as) (f:=fun x=>fR (eE x) (f x)) (M:=1050000) (by omega) (by omega)
     (fun x hm=>⟨c265 dL (h x hm).p (by have:=fin x hm;omega),by have:=fin x hm;have:=gI (b:=eE x) (s:=f x);omega⟩) _ 0 rfl (by omega) s (by omega)
   rw [List.drop_zero] at h1
   rw [aA (af:=g252) rfl rfl (by decide)]
   generalize (as.flatMap fun x=>32::fR (eE x) (f x))=E at *
   rw [hr] at k264
   rw [g252L0e] at h1
   simp at k264 h1
   simp [g252,k264,g252L0e,h1]
theorem eh.nd {ds:List Dt} (hD:∀d∈ds,d∈bD) {lv:List Ty} (hv:∀t∈lv,t∈gv) {n:Nat} {t:Ty} (m:eh (·∈ds) lv n t):t.nodes.length+1≤2 ^ (n+1)∧t.dp≤n:=by
 have one:∀n:Nat,2≤2 ^ (n+1):=fun n=>by have:=Nat.one_le_pow n 2 (by decide);rw [Nat.pow_succ];omega
 induction m with
 | leaf hl=>rw [(Hs _ (hv _ hl)).2,Ty.dE,Ty.gk];exact ⟨by simpa [cH] using one _,by simp [cH,nG]⟩
 | int=>rw [Ty.dE,Ty.gk];exact ⟨by simpa [i9] using one _,by simp [i9,nG]⟩
 | @d4 n d args hd hl _ ih=>
   have o:=one n
   have hp:=(DG d (hD _ hd)).2.1
   have h1:=vU (f:=Ty.nodes) (b:=2 ^ (n+1)-1) (l:=args) fun x hx=>by have:=(ih x hx).1;omega
   have h4:args.length*(2 ^ (n+1)-1)≤2*(2 ^ (n+1)-1):=Nat.mul_le_mul_right _ (by omega)
   rw [Ty.dE,Ty.gk]
   refine ⟨?_,kM (by omega) fun x hx=>?_⟩
   · rw [Nat.pow_succ _ (n+1)];simp only [List.length_cons];omega
   · rw [List.mem_map] at hx
     obtain ⟨y,hy,rfl⟩:=hx
     have:=(ih y hy).2;omega
 | @arrow n a b _ _ ha hb=>
   have o:=one n
   rw [Ty.dE,Ty.gk]
   refine ⟨?_,kM (by omega) fun x hx=>?_⟩
   · rw [Nat.pow_succ _ (n+1)];simp only [List.length_cons,List.flatMap_cons,List.flatMap_nil,List.append_nil,List.length_append];omega
   · simp only [List.map_cons,List.map_nil,List.mem_cons,List.not_mem_nil,or_false] at hx
     rcases hx with rfl | rfl
     · have:=ha.2;omega
     · have:=hb.2;omega
theorem eh.Ht {ds:List Dt} (hD:∀d∈ds,d∈bD) {lv:List Ty} (hv:∀t∈lv,t∈gv) {n:Nat} {t:Ty} (m:eh (·∈ds) lv n t):n≤5→∃s ks,Cm t s ks:=by
 have nb:∀{n:Nat} {t:Ty},eh (·∈ds) lv n t→n≤5→t.nodes.length≤63:=fun m hn=>by
   have h1:=(m.nd hD hv).1
   have h2:=Nat.pow_le_pow_right (show 0<2 by decide) (Nat.succ_le_succ hn)
   simp only [Nat.succ_eq_add_one] at h2
   omega
 induction m with
 | leaf hl=>
   obtain ⟨h1,h2⟩:=Hs _ (hv _ hl)
   intro _
   rw [h2]
   exact ⟨_,_,zN (wd h1) ((by decide +kernel:∀x∈ej,x.2.length≤100) _ h1)⟩
 | int=>exact fun _=>⟨_,_,w6 (s:=[73,110,116]) (as:=[]) (f:=fun _=>[]) (g:=fun _=>[]) (wd (by decide +kernel)) (by simp) (by simp) (by simp) (by simp)⟩
 | @d4 n d args hd hl ha ih=>
   intro hn
   obtain ⟨h1,h2,_⟩:=DG d (hD _ hd)
   obtain ⟨f,hf⟩:=skolem fun x hx=>ih x hx (by omega)
   obtain ⟨g,hg⟩:=skolem hf
   have h3:=vU (f:=Ty.nodes) (b:=63) (l:=args) fun x hx=>nb (ha x hx) (by omega)
   exact ⟨_,_,w6 (wd h1) ((by decide +kernel:∀x∈ej,x.2.length≤100) _ h1) hg (by omega) (by have:args.length*63≤2*63:=Nat.mul_le_mul_right _ (by omega);omega)⟩
 | arrow ma mb ha hb=>
   intro hn
   obtain ⟨sa,ka,xa⟩:=ha (by omega)
   obtain ⟨sb,kb,xb⟩:=hb (by omega)
   have:=nb ma (by omega)
   have:=nb mb (by omega)
   exact ⟨_,_,zP xa xb (by omega)⟩
end Go.Ab.Lw
namespace Go.Ab.Lw
open Ev
structure Xp (e:Ex) (s:bz) (ks:List dq):Prop where
 k:Ke e ks
 sc:jz s ks
 ln:s.length+10≤2000000*e.sz
 p:(aD AP).p 248 [e.pv]=some [.str s]
abbrev kO (k:Int) (s:bz) (l:List Ex):Ex:=⟨k,0,s,0,l,[],ca⟩
theorem Ce {k:Int} {s:bz} (h:Wd k s):jz s [(k,s)]:=by
 have:=jz.word h (r:=[]) (by simp [w5]) .nil
 rwa [List.append_nil] at this
theorem qm {k:Int} {s:bz} (hk:k=1∨k=2) (h:Wd k s) (hl:s.length≤100):Xp (kO k s []) s [(k,s)] where
 k:=.name hk
 sc:=Ce h
 ln:=by have:=(kO k s []).qj;omega
 p:=by rw [aA (af:=g248) rfl rfl (by decide)];rcases hk with h | h<;>simp [g248,h,ca]
theorem DI:Xp (kO 10 [] []) [63] [(5,[63])] where
 k:=.hole
 sc:=.mark (by decide) .nil
 ln:=by have:=(kO 10 [] []).qj;simp;omega
 p:=by rw [aA (af:=g248) rfl rfl (by decide)];simp [g248,ca]
theorem Fi {m:Int} (h0:0≤m) (h4:m<4):∃s ks,Xp ⟨3,0,[],m,[],[],ca⟩ s ks:=by
 have k1:=c255 dL h0 h4
 have hsz:=Ex.qj ⟨3,0,[],m,[],[],ca⟩
 obtain ⟨a0,a1,a2,a3⟩:=Ha
 have:m=0∨m=1∨m=2∨m=3:=by omega
 refine ⟨Lib.decDigits m.toNat,[(3,Lib.decDigits m.toNat)],.int ?_,Ce (wd ?_),?_,?_⟩
 · rcases this with rfl | rfl | rfl | rfl<;>simpa [Lib.decDigits] using by assumption
 · rcases this with rfl | rfl | rfl | rfl<;>simp [Lib.decDigits,ej]
 · rcases this with rfl | rfl | rfl | rfl<;>simp [Lib.decDigits]<;>omega
 · rw [aA (af:=g248) rfl rfl (by decide)];simp [g248,k1,ca]
section
theorem Fj {s t:bz} {a:Ex} {ka:List dq} (hw:Wd 1 s) (hl:s.length≤100) (hS:(kO 4 s [a]).sz≤50000000) (ha:Xp a t ka):Xp (kO 4 s [a]) (92::(s++(46::32::t))) ((5,[92])::(1,s)::(5,[46])::ka):=by
 have hz1:=v3 (e:=kO 4 s [a]) rfl
 have ls:=ha.ln
 have k:=c257 dL (e:=kO 4 s [a]) (i:=0) rfl ha.p
 refine ⟨.lam ha.k,.mark (by decide) (.word hw (cY (by decide)) (.mark (by decide) (.sp ha.sc))),by simp;omega,?_⟩
 rw [aA (af:=g248) rfl rfl (by decide)]
 simp [ca] at k
 simp (disch:=first | omega | (simp only [List.length_append,List.length_cons,List.length_nil];omega)) [-cT,eD,g248,k,ca]
theorem DJ {t:bz} {a:Ex} {ka:List dq} (hS:(kO 11 [] [a]).sz≤50000000) (ha:Xp a t ka):Xp (kO 11 [] [a]) (123::(t++[125])) ((5,[123])::(ka++[(5,[125])])):=by
 have hz1:=v3 (e:=kO 11 [] [a]) rfl
 have ls:=ha.ln
 have k:=c257 dL (e:=kO 11 [] [a]) (i:=0) rfl ha.p
 refine ⟨.held ha.k,.mark (by decide) (ha.sc.app (.mark (by decide) .nil) (cY (by decide))),by simp;omega,?_⟩
 rw [aA (af:=g248) rfl rfl (by decide)]
 simp [ca] at k
 simp (disch:=first | omega | (simp only [List.length_append,List.length_cons,List.length_nil];omega)) [-cT,eD,g248,k,ca]
theorem Fk {t u:bz} {a:Ex} {ty:Ty} {ka kt:List dq} (hS:(⟨9,0,[],0,[a],[],ty⟩:Ex).sz≤50000000) (hn:ty.nodes.length≤1000) (ha:Xp a t ka) (ht:Cm ty u kt):Xp ⟨9,0,[],0,[a],[],ty⟩ (40::(t++(32::58::32::(u++[41])))) ((5,[40])::(ka++(5,[58])::(kt++[(5,[41])]))):=by
 have hz1:=v3 (e:=⟨9,0,[],0,[a],[],ty⟩) rfl
 have ls:=ha.ln
 have lu:=ht.ln
 have k:=c257 dL (e:=⟨9,0,[],0,[a],[],ty⟩) (i:=0) rfl ha.p
 have pu:=ht.p
 refine ⟨.Fa ha.k ht.k,.mark (by decide) (ha.sc.app (.sp (.mark (by decide) (.sp (ht.sc.app (.mark (by decide) .nil) (cY (by decide)))))) (cY (by decide))),by simp;omega,?_⟩
 rw [aA (af:=g248) rfl rfl (by decide)]
 simp at k pu
 simp (disch:=first | omega | (simp only [List.length_append,List.length_cons,List.length_nil];omega)) [-cT,eD,g248,k,pu]
theorem Fl {s t u:bz} {a b:Ex} {ka kb:List dq} (hw:Wd 1 s) (hl:s.length≤100) (hS:(kO 6 s [a,b]).sz≤50000000) (ha:Xp a t ka) (hb:Xp b u kb) :
   Xp (kO 6 s [a,b]) ([108,101,116]++(32::(s++(32::61::32::(t++(32::([105,110]++(32::u)))))))) ((4,[108,101,116])::(1,s)::(5,[61])::(ka++(4,[105,110])::kb)):=by
 have hz1:=v5 (e:=kO 6 s [a,b]) rfl
 have ls:=ha.ln
 have lu:=hb.ln
 have k:=c257 dL (e:=kO 6 s [a,b]) (i:=0) rfl ha.p
 have k':=c257 dL (e:=kO 6 s [a,b]) (i:=1) rfl hb.p
 refine ⟨.vW ha.k hb.k,.word (wd (by decide +kernel)) (cY (by decide)) (.sp (.word hw (cY (by decide)) (.sp (.mark (by decide) (.sp (ha.sc.app (.sp (.word (wd (by decide +kernel)) (cY (by decide)) (.sp hb.sc))) (cY (by decide)))))))),by simp;omega,?_⟩
 rw [aA (af:=g248) rfl rfl (by decide)]
 simp [ca] at k k'
 simp (disch:=first | omega | (simp only [List.length_append,List.length_cons,List.length_nil];omega)) [-cT,eD,g248,k,k',ca]
theorem Fm {s t u:bz} {a b:Ex} {ka kb:List dq} (hw:Wd 1 s) (hl:s.length≤100) (hS:(kO 7 s [a,b]).sz≤50000000) (ha:Xp a t ka) (hb:Xp b u kb) :
   Xp (kO 7 s [a,b]) ([108,101,116]++(32::([114,101,99]++(32::(s++(32::61::32::(t++(32::([105,110]++(32::u)))))))))) ((4,[108,101,116])::(4,[114,101,99])::(1,s)::(5,[61])::(ka++(4,[105,110])::kb)):=by
 have hz1:=v5 (e:=kO 7 s [a,b]) rfl
 have ls:=ha.ln
 have lu:=hb.ln
 have k:=c257 dL (e:=kO 7 s [a,b]) (i:=0) rfl ha.p
 have k':=c257 dL (e:=kO 7 s [a,b]) (i:=1) rfl hb.p
 refine ⟨.Gj ha.k hb.k,.word (wd (by decide +kernel)) (cY (by decide)) (.sp (.word (wd (by decide +kernel)) (cY (by decide)) (.sp (.word hw (cY (by decide)) (.sp (.mark (by decide) (.sp (ha.sc.app (.sp (.word (wd (by decide +kernel)) (cY (by decide)) (.sp hb.sc))) (cY (by decide)))))))))),by simp;omega,?_⟩
 rw [aA (af:=g248) rfl rfl (by decide)]
 simp [ca] at k k'
 simp (disch:=first | omega | (simp only [List.length_append,List.length_cons,List.length_nil];omega)) [-cT,eD,g248,k,k',ca]
theorem Fo {t u:bz} {a b:Ex} {ka kb:List dq} (hS:(kO 5 [] [a,b]).sz≤50000000) (ha:Xp a t ka) (hb:Xp b u kb) :
   Xp (kO 5 [] [a,b]) (fR (!a.bl && !decide (a.kind=5)) t++(32::fR (!b.bl) u)) (fU (!a.bl && !decide (a.kind=5)) ka++fU (!b.bl) kb):=by
 have hz1:=v5 (e:=kO 5 [] [a,b]) rfl
 have ls:=ha.ln
 have lu:=hb.ln
 have k:=c257 dL (e:=kO 5 [] [a,b]) (i:=0) rfl ha.p
 have k':=c257 dL (e:=kO 5 [] [a,b]) (i:=1) rfl hb.p
 have a1:=c259 dL (e:=a)
 have a2:=c259 dL (e:=b)
 have e1:=c258 dL (s:=t) (b:=!a.bl && !decide (a.kind=5)) (by omega)
 have e2:=c258 dL (s:=u) (b:=!b.bl) (by omega)
 have l1:=gI (b:=!a.bl && !decide (a.kind=5)) (s:=t)
 have l2:=gI (b:=!b.bl) (s:=u)
 refine ⟨.app ha.k hb.k,(kg ha.sc).app (.sp (kg hb.sc)) (cY (by decide)),by simp;omega,?_⟩
 rw [aA (af:=g248) rfl rfl (by decide)]
 simp [ca] at k k'
 generalize fR (!a.bl && !decide (a.kind=5)) t=E1 at *
 generalize fR (!b.bl) u=E2 at *
 simp at a1 a2 e1 e2
 by_cases h5:a.kind=5
 · have hat:a.bl=false:=by simp [Ex.bl,h5]
   simp [hat,h5] at e1 a1
   simp [h5] at k k'
   simp (disch:=first | omega | (simp only [List.length_append,List.length_cons,List.length_nil];omega)) [-cT,eD,g248,k,k',a1,a2,e1,e2,hat,h5,ca]
 · have q1:(a.kind == 5)=false:=by simp [h5]
   have q2:(a.kind != 5)=true:=by simp [h5]
   cases hat:a.bl<;>simp [hat,h5] at e1 a1 <;>
     simp (disch:=first | omega | (simp only [List.length_append,List.length_cons,List.length_nil];omega)) [-cT,eD,g248,k,k',a1,a2,e1,e2,hat,h5,q1,q2,ca]
end
theorem s4:∀{vs:List bz},(∀v∈vs,Wd 1 v)→jz (Lib.joinTail [32] vs) (vs.map fun v=>((1,v):dq))∧w5 (Lib.joinTail [32] vs)
 | [],_=>⟨.nil,by simp [w5,Lib.joinTail]⟩
 | v::r,h=>by
   obtain ⟨h1,h2⟩:=s4 (vs:=r) fun x hx=>h x (by simp [hx])
   have e:Lib.joinTail [32] (v::r)=32::(v++Lib.joinTail [32] r):=by simp [Lib.joinTail]
   rw [e]
   exact ⟨.sp (.word (h v (by simp)) h2 h1),cY (by decide)⟩
theorem w7 {f:Ar→bz} {g:Ar→List dq} {x:Ar} (h1:Wd 2 x.d4) (h2:∀v∈x.vars,Wd 1 v) (h:jz (f x) (g x)):jz (dW f x) ((2,x.d4)::(x.vars.map (fun v=>((1,v):dq))++(5,[46])::g x)):=by
 obtain ⟨a,b⟩:=s4 h2
 have e:dW f x=x.d4++(Lib.joinTail [32] x.vars++(46::32::f x)):=by simp [dW,Lib.join_cons]
 rw [e]
 exact .word h1 (ql b (cY (by decide))) (a.app (.mark (by decide) (.sp h)) (cY (by decide)))
theorem s5 {f:Ar→bz} {g:Ar→List dq}:∀{as:List Ar},as≠[]→(∀x∈as,Wd 2 x.d4∧(∀v∈x.vars,Wd 1 v)∧jz (f x) (g x))→jz (Lib.join (as.map (dW f)) [32,124,32]) (ei g as)
 | [a],_,h=>by
   obtain ⟨h1,h2,h3⟩:=h a (by simp)
   have e:Lib.join ([a].map (dW f)) [32,124,32]=dW f a:=by simp [Lib.join_cons,Lib.joinTail]
   rw [e]
   exact w7 h1 h2 h3
 | a::b::r,_,h=>by
   obtain ⟨h1,h2,h3⟩:=h a (by simp)
   have ih:=s5 (as:=b::r) (by simp) fun x hx=>h x (List.mem_cons_of_mem _ hx)
   have e:Lib.join ((a::b::r).map (dW f)) [32,124,32]=dW f a++(32::124::32::Lib.join ((b::r).map (dW f)) [32,124,32]):=by simp [Lib.join_cons,Lib.joinTail]
   have e2:ei g (a::b::r)=((2,a.d4)::(a.vars.map (fun v=>((1,v):dq))++(5,[46])::g a))++(5,[124])::ei g (b::r):=by simp [ei]
   rw [e,e2]
   exact (w7 h1 h2 h3).app (.sp (.mark (by decide) (.sp ih))) (cY (by decide))
theorem DK {t:bz} {a:Ex} {as:List Ar} {ka:List dq} {f:Ar→bz} {g:Ar→List dq} (hS:(⟨8,0,[],0,[a],as,ca⟩:Ex).sz≤50000000) (ha:Xp a t ka) (hne:as≠[]) (hA:as.length≤10) (hp:∀x∈as,x.pos=0)
   (hv:∀x∈as,x.d4.length≤100∧x.vars.length≤10∧∀v∈x.vars,v.length≤100) (hw:∀x∈as,Wd 2 x.d4∧∀v∈x.vars,Wd 1 v) (hx:∀x∈as,Xp x.body (f x) (g x)) :
   Xp ⟨8,0,[],0,[a],as,ca⟩ ([99,97,115,101]++(32::(t++(32::([111,102]++(32::(Lib.join (as.map (dW f)) [32,124,32]++(32::[101,110,100])))))))) ((4,[99,97,115,101])::(ka++(4,[111,102])::(ei g as++[(4,[101,110,100])]))):=by
 have hz1:=DC (e:=⟨8,0,[],0,[a],as,ca⟩) rfl
 have ls:=ha.ln
 have k:=c257 dL (e:=⟨8,0,[],0,[a],as,ca⟩) (i:=0) rfl ha.p
 have hcv:∀x∈as,(Lib.join (x.d4::x.vars) [32]).length≤1111:=fun x hm=>by
   obtain ⟨h1,h2,h3⟩:=hv x hm
   have:=join_le (l:=x.d4::x.vars) (sep:=[32]) (M:=100) (by simpa using ⟨h1,h3⟩)
   simp only [List.length_cons,List.length_nil] at this
   have hm:(x.vars.length+1)*101≤11*101:=Nat.mul_le_mul_right _ (by omega)
   omega
 have hJ:(Lib.join (as.map (dW f)) [32,124,32]).length≤2000000*gw as+12000:=by
   have h1:=B1 (l:=as) (f:=dW f) (sep:=[32,124,32]) (g:=fun x=>2000000*x.body.sz+1200) (by
     intro x hm
     have h1:=hcv x hm
     have h2:=(hx x hm).ln
     simp only [dW,List.length_append,List.length_cons,List.length_nil]
     omega)
   have h2:∀l:List Ar,(l.map fun x=>2000000*x.body.sz+1200).sum=2000000*gw l+1200*l.length:=by
     intro l
     induction l with
     | nil=>simp [gw]
     | cons y r ih=>simp only [List.map_cons,List.sum_cons,List.length_cons,ih,gw];omega
   rw [h2] at h1
   omega
 have hM:∀x∈as,(f x).length≤100000000000000:=fun x hm=>by
   have h1:=(hx x hm).ln
   have h2:=nB hm
   simp only at hz1
   omega
 simp only at hz1
 have c:=c260 dL (aG:=as) (f:=f) (M:=100000000000000) hA (by omega) (fun x hm=>⟨(hx x hm).p,hM x hm,(hv x hm).2.1,by have:=hcv x hm;omega⟩) (by omega)
 have sc:=s5 hne fun x hm=>⟨(hw x hm).1,(hw x hm).2,(hx x hm).sc⟩
 refine ⟨.nv ha.k hne hA hp fun x hm=>(hx x hm).k,.word (wd (by decide +kernel)) (cY (by decide)) (.sp (ha.sc.app (.sp (.word (wd (by decide +kernel)) (cY (by decide)) (.sp (sc.app (.sp (Ce (wd (by decide +kernel)))) (cY (by decide)))))) (cY (by decide)))),by simp;omega,?_⟩
 clear hcv hM sc
 generalize Lib.join (as.map (dW f)) [32,124,32]=J at *
 rw [aA (af:=g248) rfl rfl (by decide)]
 simp [ca] at k
 simp (disch:=first | omega | (simp only [List.length_append,List.length_cons,List.length_nil];omega)) [-cT,eD,g248,k,c,ca]
end Go.Ab.Lw
namespace Go.Ab.Lw
open Ev
theorem Gm {s:List bz} (hS:s.length<1000000000):∀(n i:Nat),s.length-i=n→i≤s.length →
   cl AP g266L0 ⟨[(0,.pv (.aE (s.map .str))),(1,.pv (.aE (s.map .str))),(5,.pv (vI i))],[],[],[]⟩ =
     some (.exit 0,⟨[(0,.pv (.aE (s.map .str))),(1,.pv (.aE (s.map .str))),(5,.pv (vI s.length)),(14,.pv (.bool false))],[],[],[]⟩)
 | 0,i,hn,hi=>by
   have:i=s.length:=by omega
   subst this
   rw [g266L0e]
   simp [g266B0]
 | n+1,i,hn,hi=>by
   have hi:i<s.length:=by omega
   obtain ⟨x,hx⟩:=dS hi
   have ih:=Gm hS n (i+1) (by omega) (by omega)
   rw [g266L0e] at ih ⊢
   simp at ih
   simp (disch:=omega) [-getElem?_pos,g266B0,hx,hi,aK]
   rw [g266L0e]
   simp [ih]
theorem c266 {s:List bz} (hS:s.length<1000000000):(aD AP).p 266 [.aE (s.map .str),.aE (s.map .str)]=some [.bool true]:=by
 have e:=Gm hS _ 0 rfl (by omega)
 rw [g266L0e] at e
 simp at e
 rw [aA (af:=g266) rfl rfl (by decide)]
 simp [g266,g266L0e,e]
theorem Gn {a b:List Ex} (hN:a.length≤1000000) (hl:b.length=a.length) (h:∀(i:Nat) (x y:Ex),a[i]?=some x→b[i]?=some y→(aD AP).p 253 [x.pv,y.pv]=some [.bool true]):∀(n i:Nat),a.length-i=n→i≤a.length →
   cl AP g267L0 ⟨[(0,.pv (.aE (a.map Ex.pv))),(1,.pv (.aE (b.map Ex.pv))),(5,.pv (vI i))],[],[],[]⟩ =
     some (.exit 0,⟨[(0,.pv (.aE (a.map Ex.pv))),(1,.pv (.aE (b.map Ex.pv))),(5,.pv (vI a.length)),(14,.pv (.bool false))],[],[],[]⟩)
 | 0,i,hn,hi=>by
   have:i=a.length:=by omega
   subst this
   rw [g267L0e]
   simp [g267B0]
 | n+1,i,hn,hi=>by
   have hi:i<a.length:=by omega
   have hib:i<b.length:=by omega
   obtain ⟨x,hx⟩:=dS hi
   obtain ⟨y,hy⟩:=dS hib
   have k:=h i x y hx hy
   have ih:=Gn hN hl h n (i+1) (by omega) (by omega)
   rw [g267L0e] at ih ⊢
   simp at ih k
   simp (disch:=omega) [-getElem?_pos,g267B0,hx,hy,hi,hib,k,aK]
   rw [g267L0e]
   simp [ih]
theorem c267 {a b:List Ex} (hN:a.length≤1000000) (hl:b.length=a.length) (h:∀(i:Nat) (x y:Ex),a[i]?=some x→b[i]?=some y→(aD AP).p 253 [x.pv,y.pv]=some [.bool true]):(aD AP).p 267 [.aE (a.map Ex.pv),.aE (b.map Ex.pv)]=some [.bool true]:=by
 have e:=Gn hN hl h _ 0 rfl (by omega)
 rw [g267L0e] at e
 simp at e
 rw [aA (af:=g267) rfl rfl (by decide)]
 simp [g267,hl,g267L0e,e]
theorem oZ {a b:Ex} (h:a.strip=b.strip):b.kind=a.kind∧b.name=a.name∧b.num=a.num∧b.ty=a.ty∧b.kids.length=a.kids.length∧b.aG.map (fun x=>(x.d4,x.vars))=a.aG.map (fun x=>(x.d4,x.vars))∧b.ch.map Ex.strip=a.ch.map Ex.strip:=by
 rw [Ex.dG,Ex.dG b] at h
 simp only [Ex.mk.injEq,true_and] at h
 obtain ⟨h1,h2,h3,h4,h5,h6⟩:=h
 have e1:=congrArg (List.map fun x:Ar=>(x.d4,x.vars)) h5
 have e2:=congrArg (List.map fun x:Ar=>x.body) h5
 simp only [List.map_map,Function.comp_def] at e1 e2
 refine ⟨h1.symm,h2.symm,h3.symm,h6.symm,?_,e1.symm,?_⟩
 · have:=congrArg List.length h4;simpa using this.symm
 · simp only [Ex.ch,List.map_append,List.map_map,Function.comp_def]
   rw [h4,e2]
theorem Fp {a b:Ex} (hN:a.aG.length≤1000) (hv:∀x∈a.aG,x.vars.length≤1000) (he:b.aG.map (fun x=>(x.d4,x.vars))=a.aG.map (fun x=>(x.d4,x.vars))):∀(n i:Nat),a.aG.length-i=n→i≤a.aG.length →
   cl AP g253L0 ⟨[(2,.aN 2 0),(3,.aN 3 0),(5,.pv (vI i))],[(2,a.cl),(3,b.cl)],[],[]⟩ =
     some (.exit 0,⟨[(2,.aN 2 0),(3,.aN 3 0),(5,.pv (vI a.aG.length)),(55,.pv (.bool false))],[(2,a.cl),(3,b.cl)],[],[]⟩)
 | 0,i,hn,hi=>by
   have:i=a.aG.length:=by omega
   subst this
   rw [g253L0e]
   simp [g253B0]
 | n+1,i,hn,hi=>by
   have hl:b.aG.length=a.aG.length:=by have:=congrArg List.length he;simpa using this
   have hi:i<a.aG.length:=by omega
   have hib:i<b.aG.length:=by omega
   obtain ⟨x,hx⟩:=dS hi
   obtain ⟨y,hy⟩:=dS hib
   have hxy:y.d4=x.d4∧y.vars=x.vars:=by
     have:=congrArg (fun l=>l[i]?) he
     simp only [List.getElem?_map,hx,hy,Option.map_some,Option.some.injEq,Prod.mk.injEq] at this
     exact this
   obtain ⟨hc,hvv⟩:=hxy
   have k:=c266 (s:=x.vars) (by have:=hv x (dm hx);omega)
   have ih:=Fp hN hv he n (i+1) (by omega) (by omega)
   rw [g253L0e] at ih ⊢
   simp at ih k
   simp (disch:=omega) [-getElem?_pos,g253B0,hx,hy,hi,hib,hc,hvv,k,aK]
   rw [g253L0e]
   simp [ih]
theorem c253 (a:Ex):∀b:Ex,a.Ok→b.Ok→a.strip=b.strip→(aD AP).p 253 [a.pv,b.pv]=some [.bool true]:=by
 refine Ex.recC (p:=fun a=>∀b:Ex,a.Ok→b.Ok→a.strip=b.strip→(aD AP).p 253 [a.pv,b.pv]=some [.bool true]) ?_ a
 intro a ih b ha hb h
 obtain ⟨h1,h2,h3,h4,h5,h6,h7⟩:=oZ h
 have hla:b.aG.length=a.aG.length:=by have:=congrArg List.length h6;simpa using this
 have hlc:b.ch.length=a.ch.length:=by have:=congrArg List.length h7;simpa using this
 have hN:a.ch.length≤1000000:=by rw [Ex.iJ];have:=ha.k;have:=ha.a;omega
 have k1:=c20 (a:=a.ty) (b:=b.ty) ha.t
 rw [h4,decide_eq_true rfl] at k1
 have k2:=c145 ha
 have k3:=c145 hb
 have k4:=c267 (a:=a.ch) (b:=b.ch) hN hlc (fun i x y hx hy=>by
   refine ih x (dm hx) y (ha.c x (dm hx)) (hb.c y (dm hy)) ?_
   have:=congrArg (fun l=>l[i]?) h7
   simp only [List.getElem?_map,hx,hy,Option.map_some,Option.some.injEq] at this
   exact this.symm)
 have e:=Fp ha.a ha.v h6 _ 0 rfl (by omega)
 rw [aA (af:=g253) rfl rfl (by decide)]
 rw [g253L0e] at e
 simp [h1,h2,h3,h4] at e k1 k2 k3 k4
 simp [g253,h1,h2,h3,h4,h5,hla,k1,g253L0e,e,k2,k3,k4]
end Go.Ab.Lw
namespace Go.Ab.Lw
open Ev
def QG (e:Ex):Prop:=e.kids.length≤1000∧e.aG.length≤1000∧(∀a∈e.aG,a.vars.length≤4)∧e.ty.Ok∧e.ty.nodes.length≤100000000∧e.ty.dp≤40
structure Gd (n:Nat) (e:Ex):Prop where
 q:e.nZ QG
 s:e.sz≤4 ^ n
 d:e.dp≤n
 z:e.strip=e
theorem nF {α:Type} {f:α→α}:∀{l:List α},(∀x∈l,f x=x)→l.map f=l
 | [],_=>rfl
 | a::r,h=>by rw [List.map_cons,h a (by simp),nF fun x hx=>h x (by simp [hx])]
theorem D5 {n:Nat} {e:Ex} (h:Gd n e):Gd (n+1) e:=⟨h.q,by have:=h.s;rw [Nat.pow_succ];omega,by have:=h.d;omega,h.z⟩
theorem o5:ca.Ok∧ca.nodes.length≤100000000∧ca.dp≤40:=⟨qf rfl,zG,by rw [Ty.gk];simp [ca,nG]⟩
theorem iY {n:Nat} {k m:Int} {s:bz} {l:List Ex} {as:List Ar} {t:Ty} (ht:t.Ok∧t.nodes.length≤100000000∧t.dp≤40) (hl:l.length+as.length≤3) (ha:∀a∈as,a.pos=0∧a.vars.length≤4∧Gd n a.body) (h:∀x∈l,Gd n x):Gd (n+1) ⟨k,0,s,m,l,as,t⟩:=by
 have hc:∀x∈(⟨k,0,s,m,l,as,t⟩:Ex).ch,Gd n x:=by
   intro x hx
   simp only [Ex.ch,List.mem_append,List.mem_map] at hx
   rcases hx with hx | ⟨a,hx,rfl⟩
   · exact h x hx
   · exact (ha a hx).2.2
 have one:1≤4 ^ n:=Nat.one_le_pow n 4 (by decide)
 refine ⟨.mk ⟨by simp only;omega,by simp only;omega,fun a h=>(ha a h).2.1,ht⟩ fun x hx=>(hc x hx).q,?_,?_,?_⟩
 · rw [Ex.j8,Nat.pow_succ]
   have h1:=vX (f:=Ex.sz) (M:=4 ^ n) fun x hx=>(hc x hx).s
   have h2:(⟨k,0,s,m,l,as,t⟩:Ex).ch.length*4 ^ n≤3*4 ^ n:=Nat.mul_le_mul_right _ (by rw [Ex.iJ];exact hl)
   omega
 · rw [Ex.gk]
   refine kM (by omega) fun d hd=>?_
   rw [List.mem_map] at hd
   obtain ⟨x,hx,rfl⟩:=hd
   have:=(hc x hx).d
   omega
 · rw [Ex.dG]
   have e1:l.map Ex.strip=l:=nF fun x hx=>(h x hx).z
   have e2:(as.map fun a=>(⟨0,a.d4,a.vars,a.body.strip⟩:Ar))=as:=nF fun a hx=>by
     rw [(ha a hx).2.2.z,←(ha a hx).1]
   simp only [e1,e2]
theorem kh {n:Nat} {k m:Int} {s:bz}:Gd n ⟨k,0,s,m,[],[],ca⟩:=by
 have one:1≤4 ^ n:=Nat.one_le_pow n 4 (by decide)
 refine ⟨.mk ⟨by simp,by simp,by simp,o5⟩ (by simp [Ex.ch]),?_,?_,?_⟩
 · rw [Ex.j8];simpa [Ex.ch] using one
 · rw [Ex.gk];simp [Ex.ch,nG]
 · rw [Ex.dG];rfl
theorem s6 {ds:List Dt} (hD:∀d∈ds,d∈bD) {d:Dt} {as:List Ar} (hd:d∈ds) (hl:as.length=d.cons.length) (hv:∀x∈as,x.pos=0∧∀v∈x.vars,v∈iI)
   (hc:∀(i:Nat) (c:oV) (x:Ar),d.cons[i]?=some c→as[i]?=some x→x.d4=c.name∧x.vars.length=c.fields.length):∀x∈as,(2,x.d4)∈ej∧x.vars.length≤4∧∀v∈x.vars,(1,v)∈ej:=by
 intro x hx
 obtain ⟨i,hi⟩:=List.getElem?_of_mem hx
 have hil:=(List.getElem?_eq_some_iff.1 hi).1
 obtain ⟨c,hcc⟩:=dS (l:=d.cons) (i:=i) (by omega)
 obtain ⟨q1,q2⟩:=hc i c x hcc hi
 obtain ⟨_,_,_,_,w⟩:=DG d (hD d hd)
 obtain ⟨w1,w2⟩:=w c (dm hcc)
 exact ⟨by rw [q1];exact w1,by omega,fun v hvv=>DH v ((hv x hx).2 v hvv)⟩
theorem dF.gd {ds:List Dt} (hD:∀d∈ds,d∈bD) {n:Nat} {e:Ex} (h:dF ds n e):Gd n e:=by
 have two:∀{n:Nat} {a b:Ex},Gd n a→Gd n b→∀x∈[a,b],Gd n x:=fun ha hb x hx=>by simp at hx;rcases hx with rfl | rfl<;>assumption
 have onE:∀{n:Nat} {a:Ex},Gd n a→∀x∈[a],Gd n x:=fun ha x hx=>by simp at hx;rw [hx];exact ha
 induction h with
 | var hs=>exact kh
 | int h0 h4=>exact kh
 | d4 hd hc=>exact kh
 | gone=>exact kh
 | hole=>exact kh
 | lam hs _ ih=>exact iY o5 (by simp) (by simp) (onE ih)
 | app _ _ iha ihb=>exact iY o5 (by simp) (by simp) (two iha ihb)
 | vW hk hs _ _ iha ihb=>exact iY o5 (by simp) (by simp) (two iha ihb)
 | Fa _ ht ih=>
   have nd:=ht.nd hD (by simp)
   exact iY ⟨ht.ok (fun d hd=>by have:=(DG d (hD d hd)).2.1;omega) (by simp),by omega,by omega⟩ (by simp) (by simp) (onE ih)
 | held _ ih=>exact iY o5 (by simp) (by simp) (onE ih)
 | up _ ih=>exact D5 ih
 | @nv n d a as hd ha hl hb hv hc iha ihb=>
   have hca:=s6 hD hd hl hv hc
   have:=(DG d (hD d hd)).2.2.1
   exact iY o5 (by simp;omega) (fun x hx=>⟨(hv x hx).1,(hca x hx).2.1,ihb x hx⟩) (onE iha)
theorem wc:∀x∈ej,x.2.length≤100:=by decide +kernel
theorem dF.xp {ds:List Dt} (hD:∀d∈ds,d∈bD) {n:Nat} {e:Ex} (h:dF ds n e):n≤5→∃s ks,Xp e s ks:=by
 have sz:∀{n:Nat} {e:Ex},dF ds n e→n≤5→e.sz≤50000000:=fun h hn=>by
   have h1:=(h.gd hD).s
   have h2:=Nat.pow_le_pow_right (show 0<4 by decide) hn
   omega
 induction h with
 | var hs=>exact fun _=>⟨_,_,qm (.inl rfl) (wd (DH _ hs)) (wc _ (DH _ hs))⟩
 | int h0 h4=>exact fun _=>Fi h0 h4
 | d4 hd hc=>
   have w:=((DG _ (hD _ hd)).2.2.2.2 _ hc).1
   exact fun _=>⟨_,_,qm (.inr rfl) (wd w) (wc _ w)⟩
 | gone=>exact fun _=>⟨_,_,qm (.inr rfl) (wd (by decide +kernel)) (by simp)⟩
 | hole=>exact fun _=>⟨_,_,DI⟩
 | lam hs ha ih=>
   intro hn
   obtain ⟨t,ka,x⟩:=ih (by omega)
   exact ⟨_,_,Fj (wd (DH _ hs)) (wc _ (DH _ hs)) (sz (.lam hs ha) hn) x⟩
 | app ha hb iha ihb=>
   intro hn
   obtain ⟨t,ka,x⟩:=iha (by omega)
   obtain ⟨u,kb,y⟩:=ihb (by omega)
   exact ⟨_,_,Fo (sz (.app ha hb) hn) x y⟩
 | vW hk hs ha hb iha ihb=>
   intro hn
   obtain ⟨t,ka,x⟩:=iha (by omega)
   obtain ⟨u,kb,y⟩:=ihb (by omega)
   have z:=sz (.vW hk hs ha hb) hn
   rcases hk with rfl | rfl
   · exact ⟨_,_,Fl (wd (DH _ hs)) (wc _ (DH _ hs)) z x y⟩
   · exact ⟨_,_,Fm (wd (DH _ hs)) (wc _ (DH _ hs)) z x y⟩
 | Fa ha ht ih=>
   intro hn
   obtain ⟨t,ka,x⟩:=ih (by omega)
   obtain ⟨u,kt,y⟩:=ht.Ht hD (by simp) (by omega)
   have nd:=ht.nd hD (by simp)
   exact ⟨_,_,Fk (sz (.Fa ha ht) hn) (by omega) x y⟩
 | held ha ih=>
   intro hn
   obtain ⟨t,ka,x⟩:=ih (by omega)
   exact ⟨_,_,DJ (sz (.held ha) hn) x⟩
 | up _ ih=>exact fun hn=>ih (by omega)
 | @nv n d a as hd ha hl hb hv hc iha ihb=>
   intro hn
   obtain ⟨t,ka,x⟩:=iha (by omega)
   obtain ⟨f,hf⟩:=skolem fun x hx=>ihb x hx (by omega)
   obtain ⟨g,hg⟩:=skolem hf
   have hca:=s6 hD hd hl hv hc
   obtain ⟨_,_,w1,w2,_⟩:=DG d (hD d hd)
   exact ⟨_,_,DK (sz (.nv hd ha hl hb hv hc) hn) x (fun e=>by rw [e] at hl;exact w2 (List.length_eq_zero_iff.1 hl.symm)) (by omega) (fun x hx=>(hv x hx).1) (fun x hx=>⟨wc _ (hca x hx).1,by have:=(hca x hx).2.1;omega,fun v hvv=>wc _ ((hca x hx).2.2 v hvv)⟩)
     (fun x hx=>⟨wd (hca x hx).1,fun v hvv=>wd ((hca x hx).2.2 v hvv)⟩) hg⟩
end Go.Ab.Lw
namespace Go.Ab.Lw
open Ev
theorem Ex.nZ.zS {e:Ex} (h:e.nZ QG):e.Ok:=by
 induction h with
 | mk q _ ih=>exact .mk q.1 q.2.1 (fun a ha=>by have:=q.2.2.1 a ha;omega) q.2.2.2.1 ih
theorem qn (e:Ex):∀f:Ex,e.strip=f.strip→e.nZ QG→f.nZ QG:=by
 refine Ex.recC (p:=fun e=>∀f:Ex,e.strip=f.strip→e.nZ QG→f.nZ QG) ?_ e
 intro e ih f h q
 obtain ⟨h1,h2,h3,h4,h5,h6,h7⟩:=oZ h
 have hla:f.aG.length=e.aG.length:=by have:=congrArg List.length h6;simpa using this
 obtain ⟨q1,q2,q3,q4⟩:=q.h
 refine .mk ⟨by omega,by omega,fun a ha=>?_,by rw [h4];exact q4⟩ fun y hy=>?_
 · have:=List.mem_map_of_mem (f:=fun x:Ar=>(x.d4,x.vars)) ha
   rw [h6,List.mem_map] at this
   obtain ⟨b,hb,e1⟩:=this
   rw [←(Prod.mk.inj e1).2]
   exact q3 b hb
 · have:=List.mem_map_of_mem (f:=Ex.strip) hy
   rw [h7,List.mem_map] at this
   obtain ⟨x,hx,e1⟩:=this
   exact ih x hx y e1 (q.c x hx)
theorem s7 (e:Ex):e.strip.dp=e.dp:=by
 refine Ex.recC (p:=fun e=>e.strip.dp=e.dp) ?_ e
 intro e ih
 rw [Ex.gk,Ex.gk e,oY,List.map_map]
 congr 1
 exact List.map_congr_left ih
theorem c144g (e:Ex):e.nZ QG→(aD AP).p 144 [e.pv]=some [.bool false]:=by
 refine Ex.recC (p:=fun e=>e.nZ QG→(aD AP).p 144 [e.pv]=some [.bool false]) ?_ e
 intro e ih hP
 have hO:=hP.zS
 have c:=c145 hO
 have hl:e.ch.length≤2000:=by have h1:=hO.k;have h2:=hO.a;rw [Ex.iJ];omega
 have key:∀(n i:Nat),e.ch.length-i=n→i≤e.ch.length→cl AP g144L0 ⟨[(3,.pv (.aE (e.ch.map Ex.pv))),(4,.pv (vI i))],[],[],[]⟩=some (.exit 0,⟨[(3,.pv (.aE (e.ch.map Ex.pv))),(4,.pv (vI e.ch.length)),(19,.pv (.bool false))],[],[],[]⟩):=by
   intro n
   induction n with
   | zero=>
     intro i hn hi
     have:i=e.ch.length:=by omega
     subst this
     rw [g144L0e]
     simp [g144B0]
   | succ n ihn=>
     intro i hn hi
     have hi:i<e.ch.length:=by omega
     obtain ⟨x,hx⟩:=dS hi
     have k:=ih x (dm hx) (hP.c x (dm hx))
     have ihn:=ihn (i+1) (by omega) (by omega)
     generalize e.ch=C at *
     rw [g144L0e] at ihn ⊢
     simp at k ihn
     simp (disch:=omega) [-getElem?_pos,g144B0,hx,hi,k,aK]
     rw [g144L0e]
     simp [ihn]
 have k:=key _ 0 rfl (by omega)
 obtain ⟨_,_,_,t1,t2,t3⟩:=hP.h
 have k2:=c52 e.ty t1 t2
 have h40:¬(40:Int)<e.ty.dp:=by omega
 rw [aA (af:=g144) rfl rfl (by decide)]
 rw [g144L0e] at k
 simp at k c k2
 by_cases h9:e.kind=9
 · simp [h9] at k c
   simp [g144,c,h9,g144L0e,k,k2,h40]
 · simp [g144,c,h9,g144L0e,k]
theorem D6 {e:Ex} (h:e.aG.length≤1000) (hv:∀a∈e.aG,a.vars.length≤4):∀(n i:Nat),e.aG.length-i=n→i≤e.aG.length→cl AP g136L0 ⟨[(1,.aN 1 0),(4,.pv (vI i))],[(1,e.cl)],[],[]⟩=some (.exit 0,⟨[(1,.aN 1 0),(4,.pv (vI e.aG.length)),(13,.pv (.bool false))],[(1,e.cl)],[],[]⟩)
 | 0,i,hn,hi=>by
   have:i=e.aG.length:=by omega
   subst this
   rw [g136L0e]
   simp [g136B0]
 | n+1,i,hn,hi=>by
   have hi:i<e.aG.length:=by omega
   obtain ⟨x,hx⟩:=dS hi
   have h4:=hv x (dm hx)
   have h4':¬(4:Int)<x.vars.length:=by omega
   have ih:=D6 h hv n (i+1) (by omega) (by omega)
   rw [g136L0e] at ih ⊢
   simp at ih
   simp (disch:=omega) [-getElem?_pos,g136B0,hx,hi,h4',aK]
   rw [g136L0e]
   simp [ih]
theorem c136g (e:Ex):e.nZ QG→(aD AP).p 136 [e.pv]=some [vI 0,.bool false]:=by
 refine Ex.recC (p:=fun e=>e.nZ QG→(aD AP).p 136 [e.pv]=some [vI 0,.bool false]) ?_ e
 intro e ih hP
 have hO:=hP.zS
 have c:=c145 hO
 have hl:e.ch.length≤2000:=by have h1:=hO.k;have h2:=hO.a;rw [Ex.iJ];omega
 have key:∀(n i:Nat),e.ch.length-i=n→i≤e.ch.length→cl AP g136L1 ⟨[(5,.pv (.aE (e.ch.map Ex.pv))),(6,.pv (vI i))],[],[],[]⟩=some (.exit 2,⟨[(5,.pv (.aE (e.ch.map Ex.pv))),(6,.pv (vI e.ch.length)),(35,.pv (.bool false))],[],[],[]⟩):=by
   intro n
   induction n with
   | zero=>
     intro i hn hi
     have:i=e.ch.length:=by omega
     subst this
     rw [g136L1e]
     simp [g136B1]
   | succ n ihn=>
     intro i hn hi
     have hi:i<e.ch.length:=by omega
     obtain ⟨x,hx⟩:=dS hi
     have k:=ih x (dm hx) (hP.c x (dm hx))
     have ihn:=ihn (i+1) (by omega) (by omega)
     generalize e.ch=C at *
     rw [g136L1e] at ihn ⊢
     simp at k ihn
     simp (disch:=omega) [-getElem?_pos,g136B1,hx,hi,k,aK]
     rw [g136L1e]
     simp [ihn]
 have k:=key _ 0 rfl (by omega)
 have k0:=D6 hP.h.2.1 hP.h.2.2.1 _ 0 rfl (by omega)
 rw [aA (af:=g136) rfl rfl (by decide)]
 rw [g136L1e] at k
 rw [g136L0e] at k0
 simp at k c k0
 simp [g136,c,g136L0e,k0,g136L1e,k]
theorem c135g {e:Ex} (hP:e.nZ QG) (hs:e.sz≤100000000) (hd:e.dp≤40):(aD AP).p 135 [e.pv]=some [.bool false]:=by
 have k1:=c143 e hP.zS hs
 have k2:=c144g e hP
 have h:¬(40:Int)<e.dp:=by omega
 rw [aA (af:=g135) rfl rfl (by decide)]
 simp at k1 k2
 simp [g135,k1,k2,h]
theorem c250 {e:Ex} {s:bz} {ks:List dq} (hx:Xp e s ks) (hS:s.length≤4000) (hQ:e.nZ QG) (hs:e.sz≤100000000) (hd:e.dp≤40):∃e',Al e' e∧(aD AP).p 250 [.str s]=some [e'.pv,.agg [vI 0,vI 0]]:=by
 obtain ⟨T,c1,hT,hl,hL⟩:=hx.sc.scan hS
 obtain ⟨e',a1,a,b,c,r⟩:=hx.k.re.rd T 0 hL hT (.inl (by omega))
 rw [Nat.zero_add,←hl] at r
 have q':e'.nZ QG:=qn e e' a1.symm hQ
 have s':e'.sz≤100000000:=by rw [←sT,a1,sT];exact hs
 have d':e'.dp≤40:=by rw [←s7,a1,s7];exact hd
 have k1:=c119r (L:=T)
 have k2:=c135g q' s' d'
 have k3:=c136g e' q'
 have ec:=Ex.aV e'
 refine ⟨e',a1,?_⟩
 rw [aA (af:=g250) rfl rfl (by decide)]
 simp at c1 k1 k2 k3
 cases a<;>cases b<;>cases c<;>simp [dn,dK] at r<;>simp [g250,c1,k1,r,k2,k3,ec]
end Go.Ab.Lw
namespace Go.Ab.Lw
open Ev
theorem l7 (a b:bz):(a == b)=decide (a=b):=by rw [Bool.eq_iff_iff];simp
theorem D7 {s t:List bz} (hS:s.length<1000000000) (hl:t.length=s.length):∀(n i:Nat),s.length-i=n→i≤s.length→s.drop i≠t.drop i →
   cl AP g266L0 ⟨[(0,.pv (.aE (s.map .str))),(1,.pv (.aE (t.map .str))),(5,.pv (vI i))],[],[],[]⟩=some (.ret,⟨[(4,.pv (.bool false))],[],[],[]⟩)
 | 0,i,hn,hi,hd=>by
   rw [List.drop_eq_nil_of_le (by omega),List.drop_eq_nil_of_le (by omega)] at hd
   exact absurd rfl hd
 | n+1,i,hn,hi,hd=>by
   have hi:i<s.length:=by omega
   have hit:i<t.length:=by omega
   obtain ⟨x,hx⟩:=dS hi
   obtain ⟨y,hy⟩:=dS hit
   rw [g266L0e]
   by_cases q:x=y
   · subst q
     have ih:=D7 hS hl n (i+1) (by omega) (by omega) (by rw [eg hx,eg hy] at hd;exact fun e=>hd (by rw [e]))
     rw [g266L0e] at ih
     simp at ih
     simp (disch:=omega) [-getElem?_pos,g266B0,hx,hy,hi,hit,aK]
     rw [g266L0e]
     simp [ih]
   · have q2:(x == y)=false:=by rw [l7];exact decide_eq_false q
     have q3:(x != y)=true:=by rw [bne,q2];rfl
     simp (disch:=omega) [-getElem?_pos,g266B0,hx,hy,hi,hit,aK,q,q2,q3]
theorem c266n {s t:List bz} (hS:s.length<1000000000) (hl:t.length<1000000000) (h:s≠t):(aD AP).p 266 [.aE (s.map .str),.aE (t.map .str)]=some [.bool false]:=by
 rw [aA (af:=g266) rfl rfl (by decide)]
 by_cases q:t.length=s.length
 · have e:=D7 hS q _ 0 rfl (by omega) (by simpa using h)
   rw [g266L0e] at e
   simp at e
   simp [g266,q,g266L0e,e]
 · have q':¬s.length=t.length:=fun e=>q e.symm
   have q2:¬(s.length:Int)=t.length:=by omega
   simp [g266,q',q2]
theorem D9 {a b:List Ex} (hN:a.length≤1000000) (hl:b.length=a.length) (h:∀(i:Nat) (x y:Ex),a[i]?=some x→b[i]?=some y→(x.strip=y.strip→(aD AP).p 253 [x.pv,y.pv]=some [.bool true])∧(x.strip≠y.strip→(aD AP).p 253 [x.pv,y.pv]=some [.bool false])) :
   ∀(n i:Nat),a.length-i=n→i≤a.length→(a.drop i).map Ex.strip≠(b.drop i).map Ex.strip →
   cl AP g267L0 ⟨[(0,.pv (.aE (a.map Ex.pv))),(1,.pv (.aE (b.map Ex.pv))),(5,.pv (vI i))],[],[],[]⟩=some (.ret,⟨[(4,.pv (.bool false))],[],[],[]⟩)
 | 0,i,hn,hi,hd=>by
   rw [List.drop_eq_nil_of_le (by omega),List.drop_eq_nil_of_le (by omega)] at hd
   exact absurd rfl hd
 | n+1,i,hn,hi,hd=>by
   have hi:i<a.length:=by omega
   have hib:i<b.length:=by omega
   obtain ⟨x,hx⟩:=dS hi
   obtain ⟨y,hy⟩:=dS hib
   obtain ⟨k1,k2⟩:=h i x y hx hy
   rw [g267L0e]
   by_cases q:x.strip=y.strip
   · have k:=k1 q
     have ih:=D9 hN hl h n (i+1) (by omega) (by omega) (by rw [eg hx,eg hy,List.map_cons,List.map_cons,q] at hd;exact fun e=>hd (by rw [e]))
     rw [g267L0e] at ih
     simp at ih k
     simp (disch:=omega) [-getElem?_pos,g267B0,hx,hy,hi,hib,k,aK]
     rw [g267L0e]
     simp [ih]
   · have k:=k2 q
     simp at k
     simp (disch:=omega) [-getElem?_pos,g267B0,hx,hy,hi,hib,k,aK]
theorem c267n {a b:List Ex} (hN:a.length≤1000000) (hl:b.length=a.length) (h:∀(i:Nat) (x y:Ex),a[i]?=some x→b[i]?=some y→(x.strip=y.strip→(aD AP).p 253 [x.pv,y.pv]=some [.bool true])∧(x.strip≠y.strip→(aD AP).p 253 [x.pv,y.pv]=some [.bool false]))
   (hd:a.map Ex.strip≠b.map Ex.strip):(aD AP).p 267 [.aE (a.map Ex.pv),.aE (b.map Ex.pv)]=some [.bool false]:=by
 have e:=D9 hN hl h _ 0 rfl (by omega) (by simpa using hd)
 rw [g267L0e] at e
 simp at e
 rw [aA (af:=g267) rfl rfl (by decide)]
 simp [g267,hl,g267L0e,e]
def Cn (x:Ar):bz×List bz:=(x.d4,x.vars)
theorem D' {a b:Ex} (hN:a.aG.length≤1000) (hv:∀x∈a.aG,x.vars.length≤1000) (hvb:∀x∈b.aG,x.vars.length≤1000) (hl:b.aG.length=a.aG.length):∀(n i:Nat),a.aG.length-i=n→i≤a.aG.length→(a.aG.drop i).map Cn≠(b.aG.drop i).map Cn →
   cl AP g253L0 ⟨[(2,.aN 2 0),(3,.aN 3 0),(5,.pv (vI i))],[(2,a.cl),(3,b.cl)],[],[]⟩=some (.ret,⟨[(4,.pv (.bool false))],[],[],[]⟩)
 | 0,i,hn,hi,hd=>by
   rw [List.drop_eq_nil_of_le (by omega),List.drop_eq_nil_of_le (by omega)] at hd
   exact absurd rfl hd
 | n+1,i,hn,hi,hd=>by
   have hi:i<a.aG.length:=by omega
   have hib:i<b.aG.length:=by omega
   obtain ⟨x,hx⟩:=dS hi
   obtain ⟨y,hy⟩:=dS hib
   have s1:=hv x (dm hx)
   have s2:=hvb y (dm hy)
   rw [g253L0e]
   by_cases q:x.d4=y.d4
   · by_cases p:x.vars=y.vars
     · have k:=c266 (s:=x.vars) (by omega)
       have ih:=D' hN hv hvb hl n (i+1) (by omega) (by omega) (by
         rw [eg hx,eg hy,List.map_cons,List.map_cons] at hd
         exact fun e=>hd (by rw [e];simp [Cn,q,p]))
       rw [g253L0e] at ih
       simp at ih k
       simp (disch:=omega) [-getElem?_pos,g253B0,hx,hy,hi,hib,q,←p,k,aK]
       rw [g253L0e]
       simp [ih]
     · have k:=c266n (s:=x.vars) (t:=y.vars) (by omega) (by omega) p
       simp (disch:=omega) [-getElem?_pos,g253B0,hx,hy,hi,hib,q,k,aK]
   · have q2:(x.d4 == y.d4)=false:=by rw [l7];exact decide_eq_false q
     have q3:(x.d4 != y.d4)=true:=by rw [bne,q2];rfl
     simp (disch:=omega) [-getElem?_pos,g253B0,hx,hy,hi,hib,q,q2,q3,aK]
theorem Cf {a b:Ex} (h1:a.kind=b.kind) (h2:a.name=b.name) (h3:a.num=b.num) (h4:a.ty=b.ty) (h5:a.kids.length=b.kids.length) (h6:a.aG.map Cn=b.aG.map Cn) (h7:a.ch.map Ex.strip=b.ch.map Ex.strip):a.strip=b.strip:=by
 have hk:a.kids.map Ex.strip=b.kids.map Ex.strip∧a.aG.map (fun x=>x.body.strip)=b.aG.map (fun x=>x.body.strip):=by
   simp only [Ex.ch,List.map_append,List.map_map] at h7
   exact List.append_inj h7 (by simpa using h5)
 have ha:∀{l m:List Ar},l.map Cn=m.map Cn→l.map (fun x=>x.body.strip)=m.map (fun x=>x.body.strip)→(l.map fun a=>(⟨0,a.d4,a.vars,a.body.strip⟩:Ar))=m.map fun a=>⟨0,a.d4,a.vars,a.body.strip⟩:=by
   intro l
   induction l with
   | nil=>intro m h _;cases m with
     | nil=>rfl
     | cons y m=>simp at h
   | cons x l ih=>
     intro m h k
     cases m with
     | nil=>simp at h
     | cons y m=>
       simp only [List.map_cons,List.cons.injEq,Cn,Prod.mk.injEq] at h k
       simp only [List.map_cons]
       rw [ih h.2 k.2,h.1.1,h.1.2,k.1]
 rw [Ex.dG,Ex.dG b,h1,h2,h3,h4,hk.1,ha h6 hk.2]
theorem c253n (a:Ex):∀b:Ex,a.Ok→b.Ok→a.strip≠b.strip→(aD AP).p 253 [a.pv,b.pv]=some [.bool false]:=by
 refine Ex.recC (p:=fun a=>∀b:Ex,a.Ok→b.Ok→a.strip≠b.strip→(aD AP).p 253 [a.pv,b.pv]=some [.bool false]) ?_ a
 intro a ih b ha hb h
 have k1:=c20 (a:=a.ty) (b:=b.ty) ha.t
 rw [aA (af:=g253) rfl rfl (by decide)]
 by_cases h1:a.kind=b.kind
 case neg=>simp [g253,h1]
 by_cases h2:a.name=b.name
 case neg=>
   have q2:(a.name == b.name)=false:=by rw [l7];exact decide_eq_false h2
   have q3:(a.name != b.name)=true:=by rw [bne,q2];rfl
   simp [g253,h1,h2,q2,q3]
 by_cases h3:a.num=b.num
 case neg=>simp [g253,h1,h2,h3]
 by_cases h4:a.ty=b.ty
 case neg=>
   rw [decide_eq_false h4] at k1
   simp at k1
   simp [g253,h1,h2,h3,k1]
 rw [decide_eq_true h4] at k1
 by_cases h5:a.kids.length=b.kids.length
 case neg=>
   have h5':¬(a.kids.length:Int)=b.kids.length:=by omega
   simp at k1
   simp [g253,h1,h2,h3,k1,h5,h5']
 by_cases hl:b.aG.length=a.aG.length
 case neg=>
   have hl':¬(a.aG.length:Int)=b.aG.length:=by omega
   have hl2:¬a.aG.length=b.aG.length:=by omega
   simp at k1
   simp [g253,h1,h2,h3,k1,h5,hl',hl2]
 by_cases h6:a.aG.map Cn=b.aG.map Cn
 case neg=>
   have e:=D' ha.a ha.v hb.v hl _ 0 rfl (by omega) (by simpa using h6)
   rw [g253L0e] at e
   simp [h1,h2,h3,h4,h5,hl] at e k1
   simp [g253,h1,h2,h3,h4,k1,h5,hl,g253L0e,e]
 have h7:a.ch.map Ex.strip≠b.ch.map Ex.strip:=fun h7=>h (Cf h1 h2 h3 h4 h5 h6 h7)
 have hlc:b.ch.length=a.ch.length:=by rw [Ex.iJ,Ex.iJ];omega
 have hN:a.ch.length≤1000000:=by rw [Ex.iJ];have:=ha.k;have:=ha.a;omega
 have k2:=c145 ha
 have k3:=c145 hb
 have k4:=c267n (a:=a.ch) (b:=b.ch) hN hlc (fun i x y hx hy=>⟨fun q=>c253 x y (ha.c x (dm hx)) (hb.c y (dm hy)) q,fun q=>ih x (dm hx) y (ha.c x (dm hx)) (hb.c y (dm hy)) q⟩) h7
 have e:=Fp (a:=a) (b:=b) ha.a ha.v h6.symm _ 0 rfl (by omega)
 rw [g253L0e] at e
 simp [h1,h2,h3,h4] at e k1 k2 k3 k4
 simp [g253,h1,h2,h3,h4,h5,hl,k1,g253L0e,e,k2,k3,k4]
end Go.Ab.Lw
namespace Go.Ab.Lw
open Ev
theorem c251 {t:Ty} {s:bz} {ks:List dq} (hx:Cm t s ks) (hS:s.length≤4000) (hO:t.Ok) (hn:t.nodes.length≤100000000) (hd:t.dp≤40):(aD AP).p 251 [.str s]=some [t.pv,.agg [vI 0,vI 0]]:=by
 obtain ⟨T,c1,hT,hl,hL⟩:=hx.sc.scan hS
 obtain ⟨f,r⟩:=hx.k.rt.rd T 0 hL hT (.inl (by omega)) (.inl (by omega))
 rw [Nat.zero_add,←hl] at r
 have k1:=c119r (L:=T)
 have k2:=c52 t hO hn
 have h40:¬(40:Int)<t.dp:=by omega
 rw [aA (af:=g251) rfl rfl (by decide)]
 simp at c1 k1 k2
 cases f<;>simp [n_,dK] at r<;>simp [g251,c1,k1,r,k2,h40]
theorem Cg {x y:Ex} {a b:bz} {ka kb:List dq} (hx:Xp x a ka) (hy:Xp y b kb) (ha:a.length≤4000) (gx:Gd 4 x) (gy:Gd 4 y):a=b↔x=y:=by
 have sx:=gx.s
 have sy:=gy.s
 constructor
 · intro h
   subst h
   obtain ⟨e',a1,k1⟩:=c250 hx ha gx.q (by omega) (by have:=gx.d;omega)
   obtain ⟨e2,a2,k2⟩:=c250 hy ha gy.q (by omega) (by have:=gy.d;omega)
   rw [k1] at k2
   simp only [Option.some.injEq,List.cons.injEq,and_true] at k2
   have ox:=gx.q.zS
   have o1:e'.Ok:=(qn x e' a1.symm gx.q).zS
   have o2:e2.Ok:=(qn y e2 a2.symm gy.q).zS
   have t1:=c253 e' x o1 ox a1
   by_cases q:e2.strip=x.strip
   · rw [←gx.z,←gy.z,←a2,q]
   · have t2:=c253n e2 x o2 ox q
     rw [←k2,t1] at t2
     simp at t2
 · intro h
   subst h
   have:=hx.p
   rw [hy.p] at this
   simpa using this.symm
theorem Fq (bits:Int) (L:List Int):(aD AP).p 243 [vI bits,.aE (L.map vI)]=some [.bool true]:=by
 have c0:=c244
 have c1:=c15 (l:=L)
 rw [aA (af:=g243) rfl rfl (by decide)]
 by_cases hL:L.length≤60
 case neg=>
   simp [hL] at c1
   simp [g243,c0,c1]
 simp [hL] at c1
 have hLs:Sm L:=by unfold Sm;omega
 obtain ⟨ds,e1,hda,hds⟩:=c32 bits
 have hD:∀d∈ds,D8 d:=fun d hd=>Fb d (hda d hd)
 obtain ⟨x,fk,fa,fg,j,e2,hx,hj⟩:=c247 hLs hds hD 4 (by omega) 0 (by omega)
 obtain ⟨y,fk2,fa2,fg2,j2,e3,hy,hj2⟩:=c247 hLs hds hD 3 (by omega) j hj
 obtain ⟨u,j3,e4,hu,hj3⟩:=EX (ds:=ds) (lv:=gv) hLs (by omega) (fun d hd=>by have:=(DG d (hda d hd)).2.1;omega) (by simp [gv,Sm]) 4 (by omega) j2 hj2
 obtain ⟨a,ka,xa⟩:=hx.xp hda (by omega)
 obtain ⟨b,kb,yb⟩:=hy.xp hda (by omega)
 obtain ⟨s,kt,us⟩:=hu.Ht hda (fun t h=>h) (by omega)
 have gx:=hx.gd hda
 have gy:=D5 (hy.gd hda)
 have un:=hu.nd hda (fun t h=>h)
 have k67:=c67
 have pa:=xa.p
 have pb:=yb.p
 have pu:=us.p
 have xc:=Ex.aV x
 have yc:=Ex.aV y
 have hA:=dd fk fa fg x
 have hB:=dd fk2 fa2 fg2 y
 generalize dn fk fa fg x=A at *
 generalize dn fk2 fa2 fg2 y=B at *
 have tA:List.take 11 A=A:=List.take_of_length_le (by rw [hA.len];omega)
 have tB:List.take 11 B=B:=List.take_of_length_le (by rw [hB.len];omega)
 simp [-getElem?_pos] at e1 e2 e3 pa pb
 by_cases ha:a.length≤4000
 case neg=>
   have ha':(4000:Int)<a.length:=by omega
   simp [-getElem?_pos,g243,c0,c1,e1,e2,e3,hA.eo,hA.flat,hA.nY,hA.len,hA.leaf,hB.eo,hB.flat,hB.nY,hB.len,hB.leaf,tA,tB,xc,yc,pa,pb,ha']
 have ha':¬(4000:Int)<a.length:=by omega
 by_cases hb:b.length≤4000
 case neg=>
   have hb':(4000:Int)<b.length:=by omega
   simp [-getElem?_pos,g243,c0,c1,e1,e2,e3,hA.eo,hA.flat,hA.nY,hA.len,hA.leaf,hB.eo,hB.flat,hB.nY,hB.len,hB.leaf,tA,tB,xc,yc,pa,pb,ha',hb']
 have hb':¬(4000:Int)<b.length:=by omega
 obtain ⟨e',al,k250⟩:=c250 xa ha gx.q (by have:=gx.s;omega) (by have:=gx.d;omega)
 have o':e'.Ok:=(qn x e' al.symm gx.q).zS
 have k253:=c253 e' x o' gx.q.zS al
 have uo:u.Ok:=hu.ok (fun d hd=>by have:=(DG d (hda d hd)).2.1;omega) sS
 have k251:=c251 us (by have:=us.ln;omega) uo (by omega) (by omega)
 have k20:=c20 (a:=u) (b:=u) uo
 rw [decide_eq_true rfl] at k20
 have ec:=Ex.aV e'
 have kb:(aD AP).p 253 [x.pv,y.pv]=some [.bool (a == b)]:=by
   have h:=Cg xa yb ha gx gy
   rw [l7]
   by_cases q:a=b
   · rw [decide_eq_true q]
     exact c253 x y gx.q.zS gy.q.zS (by rw [h.1 q])
   · rw [decide_eq_false q]
     exact c253n x y gx.q.zS gy.q.zS (by rw [gx.z,gy.z];exact fun e=>q (h.2 e))
 generalize hab:(a == b)=ab at *
 simp [-getElem?_pos] at k67 k250 k253 kb e4 pu k251 k20
 simp [-getElem?_pos,g243,c0,c1,e1,e2,e3,hA.eo,hA.flat,hA.nY,hA.len,hA.leaf,hB.eo,hB.flat,hB.nY,hB.len,hB.leaf,tA,tB,xc,yc,ec,pa,pb,ha',hb',k250,k67,e4,pu,k251,k20,k253,kb,hab]
end Go.Ab.Lw
