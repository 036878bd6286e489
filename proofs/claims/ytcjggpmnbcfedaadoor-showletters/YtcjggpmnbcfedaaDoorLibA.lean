import Derived.Test.YtcjggpmnbcfedaaDoorCodeA
import Derived.Test.YtcjggpmnbcfedaaDoorAbBridge
import Derived.Test.YtcjggpmnbcfedaaDoorAbForce
import Derived.KernelRfl
/-
  The program's data.
  The makers: what their functions w7.
  The makers: what their functions w7.
  The data declarations that programs are made of: what the reader makes of their text.
  The makers: types and substitutions off the tape.
  Types and substitutions: what replaces variables.
  Substitutions: composing; equality of types and of substitutions.
  Which types are valid.
  Contexts: their entries; looking names up.
  What the pure data of a parameter looks BD.
  The variables of types, by the program and by the reference.
  Contexts: schemes, adding, hidden entries; what law 19 makes.
  The maker of types over any list of data types.
  Correct types in declarations.
  Expressions.
  Raw expressions: what the maker gives.
  slices.DeleteFunc over an array of texts that may be written.
  Arrays of structs in shared memory: their cells one behind the other.
  Expressions: children, the part at a path, and the names that are bound.
  Chapter 3: opening.
  Types by the kinds of their nodes.
  How many nodes an expression has; expressions whose texts are known.
  Numbers as texts, by the library and by the reference.
  The law ShowLetters.
-/
set_option linter.unusedVariables false
set_option linter.unusedSimpArgs false
set_option linter.unnecessarySimpa false
set_option maxRecDepth 100000
set_option maxHeartbeats 8000000
namespace Go.Ab.Lw
structure Ty where
 kind:Int
 name:List UInt8
 id:Int
 home:Int
 args:List Ty
 deriving Inhabited
noncomputable instance:DecidableEq Ty:=fun _ _=>Classical.propDecidable _
mutual
def Ty.pv:Ty→PV
 | ⟨k,n,i,h,as⟩=>.agg [.int .i64 k,.str n,.int .i64 i,.int .i64 h,.bz (Ty.cv as)]
def Ty.cv:List Ty→List PV
 | []=>[]
 | a::r=>a.pv::Ty.cv r
end
structure Ae where
 pos:Int
 name:List UInt8
 fields:List Ty
 deriving Inhabited
structure Dt where
 pos:Int
 name:List UInt8
 params:List (List UInt8)
 cons:List Ae
 deriving Inhabited
def Ae.pv (c:Ae):PV:=.agg [.int .i64 c.pos,.str c.name,.bz (c.fields.map Ty.pv)]
def Dt.pv (d:Dt):PV:=.agg [.int .i64 d.pos,.str d.name,.bz (d.params.map .str),.bz (d.cons.map Ae.pv)]
@[simp] theorem Ae.yU (c:Ae):c.pv=.agg [.int .i64 c.pos,.str c.name,.bz (c.fields.map Ty.pv)]:=rfl
@[simp] theorem Dt.yU (d:Dt):d.pv=.agg [.int .i64 d.pos,.str d.name,.bz (d.params.map .str),.bz (d.cons.map Ae.pv)]:=rfl
structure As where
 id:Int
 ty:Ty
 deriving Inhabited
def As.pv (a:As):PV:=.agg [.int .i64 a.id,.int .i64 a.ty.kind,.str a.ty.name,.int .i64 a.ty.id,.int .i64 a.ty.home,.bz (a.ty.args.map Ty.pv)]
@[simp] theorem As.yU (a:As):a.pv=.agg [.int .i64 a.id,.int .i64 a.ty.kind,.str a.ty.name,.int .i64 a.ty.id,.int .i64 a.ty.home,.bz (a.ty.args.map Ty.pv)]:=rfl
@[simp] theorem As.eta (t:As):As.mk t.id t.ty=t:=rfl
abbrev vI (n:Int):PV:=.int .i64 n
def tp (L:List Int) (i:Int):Sh:=[some [.pv (.bz (L.map vI)),.pv (vI i)]]
@[simp] theorem CA (L:List Int) (i:Int):tp L i=[some [.pv (.bz (L.map vI)),.pv (vI i)]]:=rfl
def Sm {α:Type} (l:List α):Prop:=l.length<1099511627776
def CO {α:Type} (l:List α):Prop:=l.length≤9223372036854775807
@[simp] theorem Co (n:Nat):((n:Int)<0)↔False:=by simp
end Go.Ab.Lw
namespace Go.Ab.Lw
open Ev
theorem c26 {n m:Int} (h1:1≤m) (h2:m<4611686018427387904):∃r,(bQ AP).p 26 [vI n,vI m]=some [vI r]∧0≤r∧r<m:=by
 rw [fh (af:=g26) rfl rfl (by decide)]
 have a1:=Int.tmod_lt_of_pos n (show 0<m by omega)
 have a2:=Int.lt_tmod_of_pos n (show 0<m by omega)
 have e1:¬m<1:=by omega
 have e2:¬m=0:=by omega
 by_cases h:n.tmod m<0
 · refine ⟨n.tmod m+m,?_,by omega,by omega⟩
   simp (disch:=omega) [g26,e1,e2,h,cX]
 · refine ⟨n.tmod m,?_,by omega,by omega⟩
   simp [g26,e1,e2,h]
end Go.Ab.Lw
namespace Go.Ab.Lw
open Ev
def Az:Ty:=⟨4,[73,110,116],0,0,[]⟩
end Go.Ab.Lw
namespace Go.Ab.Lw
def yV:List Dt:=[⟨0,[66,111,111,108],[],[⟨12,[84,114,117,101],[]⟩,⟨19,[70,97,108,115,101],[]⟩]⟩,
 ⟨26,[79,112,116,105,111,110],[[97]],[⟨42,[78,111,110,101],[]⟩,⟨49,[83,111,109,101],[⟨5,[97],0,0,[]⟩]⟩]⟩,
 ⟨57,[76,105,115,116],[[97]],[⟨71,[78,105,108],[]⟩,⟨77,[67,111,110,115],[⟨5,[97],0,0,[]⟩,⟨4,[76,105,115,116],0,0,[⟨5,[97],0,0,[]⟩]⟩]⟩]⟩,
 ⟨93,[80,97,105,114],[[97],[98]],[⟨109,[80,97,105,114],[⟨5,[97],0,0,[]⟩,⟨5,[98],0,0,[]⟩]⟩]⟩,
 ⟨119,[78,97,116],[],[⟨130,[90,101,114,111],[]⟩,⟨137,[83,117,99,99],[⟨4,[78,97,116],0,0,[]⟩]⟩]⟩,
 ⟨147,[70,117,110],[[97],[98]],[⟨162,[70,117,110],[⟨4,[45,62],0,0,[⟨5,[97],0,0,[]⟩,⟨5,[98],0,0,[]⟩]⟩]⟩]⟩,
 ⟨176,[84,119,111],[[97]],[⟨189,[66,111,116,104],[⟨5,[97],0,0,[]⟩,⟨5,[97],0,0,[]⟩]⟩,⟨200,[79,110,101],[⟨4,[79,112,116,105,111,110],0,0,[⟨5,[97],0,0,[]⟩]⟩]⟩]⟩]
end Go.Ab.Lw
namespace Go.Ab.Lw
open Ev
inductive Made (lv:Ty→Prop):Ty→Prop
 | leaf {t:Ty}:lv t→Made lv t
 | int:Made lv Az
 | BZ {d:Dt} {args:List Ty}:d∈yV→args.length=d.params.length→(∀x∈args,Made lv x)→Made lv ⟨4,d.name,0,0,args⟩
 | arrow {a b:Ty}:Made lv a→Made lv b→Made lv ⟨4,[45,62],0,0,[a,b]⟩
def Ty.av (t:Ty):AV:=.agg [.pv (vI t.kind),.pv (.str t.name),.pv (vI t.id),.pv (vI t.home),.pv (.bz (t.args.map Ty.pv))]
@[simp] theorem Ty.CB (t:Ty):t.av=.agg [.pv (vI t.kind),.pv (.str t.name),.pv (vI t.id),.pv (vI t.home),.pv (.bz (t.args.map Ty.pv))]:=rfl
def mS (L:List Int) (ds:List Dt) (lv:List Ty) (dep:Nat):Prop:=∀i:Nat,i≤L.length→∃(t:Ty) (j:Nat),
 (bQ AP).i 27 [.a0 0 0,.pv (.bz (ds.map Dt.pv)),.pv (.bz (lv.map Ty.pv)),.pv (vI dep)] (tp L i) []=some ([t.av],tp L j,[])∧Made (·∈lv) t∧j≤L.length
end Go.Ab.Lw
namespace Go.Ab.Lw
open Ev
inductive Ty.Ok:Ty→Prop
 | mk {t:Ty}:Sm t.args→(∀x∈t.args,Ty.Ok x)→Ty.Ok t
inductive Ty.Wf:Ty→Prop
 | mk {t:Ty}:(t.kind=1→t.args=[])→(∀x∈t.args,Ty.Wf x)→Ty.Wf t
end Go.Ab.Lw
namespace Go.Ab.Lw
open Ev
noncomputable instance:DecidableEq As:=fun _ _=>Classical.propDecidable _
end Go.Ab.Lw
namespace Go.Ab.Lw
open Ev
inductive Ty.Nm:Ty→Prop
 | mk {t:Ty}:CO t.name→(∀x∈t.args,Ty.Nm x)→Ty.Nm t
end Go.Ab.Lw
namespace Go.Ab.Lw
open Ev
abbrev Sc:=As
structure En where
 name:List UInt8
 sc:Sc
 deriving Inhabited
def En.pv (a:En):PV:=.agg [.str a.name,.int .i64 a.sc.id,.int .i64 a.sc.ty.kind,.str a.sc.ty.name,.int .i64 a.sc.ty.id,.int .i64 a.sc.ty.home,.bz (a.sc.ty.args.map Ty.pv)]
@[simp] theorem En.yU (a:En):a.pv=.agg [.str a.name,.int .i64 a.sc.id,.int .i64 a.sc.ty.kind,.str a.sc.ty.name,.int .i64 a.sc.ty.id,.int .i64 a.sc.ty.home,.bz (a.sc.ty.args.map Ty.pv)]:=rfl
@[simp] theorem En.eta (t:En):En.mk t.name t.sc=t:=rfl
noncomputable instance:DecidableEq En:=fun _ _=>Classical.propDecidable _
end Go.Ab.Lw
namespace Go.Ab.Lw
section
variable {P:Program} {n:Nat} {t e:TypeId} {p:PV}
theorem yW (hu:P.underlying t=some (.int .i64)) (h:tV P n t p):∃i,i≤9223372036854775807∧p=vI i:=by
 cases n with
 | zero=>simp [tV] at h
 | succ n=>
   simp only [tV,hu] at h
   obtain ⟨i,rfl,hw⟩:=h
   refine ⟨i,?_,rfl⟩
   simp [Lit.wf,IntKind.min,IntKind.max,IntKind.signed,IntKind.bits] at hw
   omega
end
end Go.Ab.Lw
namespace Go.Ab.Lw
open Ev
mutual
def Ty.nodes:Ty→List Ty
 | ⟨k,n,i,h,as⟩=>⟨k,n,i,h,as⟩::Ty.yX as
def Ty.yX:List Ty→List Ty
 | []=>[]
 | a::r=>a.nodes++Ty.yX r
end
def Cp (out:List Int) (x:Ty):List Int:=if x.kind=1∧x.id∉out then out++[x.id] else out
def vars (l:List Ty):List Int:=(l.flatMap Ty.nodes).foldl Cp []
end Go.Ab.Lw
namespace Go.Ab.Lw
open Ev
def varNames:List (List UInt8):=[[120],[121],[122],[102],[103],[118,49],[118,50],[105,100]]
end Go.Ab.Lw
namespace Go.Ab.Lw
open Ev
inductive kA (D:Dt→Prop) (lv:List Ty):Nat→Ty→Prop
 | leaf {n:Nat} {t:Ty}:t∈lv→kA D lv n t
 | int {n:Nat}:kA D lv n Az
 | BZ {n:Nat} {d:Dt} {args:List Ty}:D d→args.length=d.params.length→(∀x∈args,kA D lv n x)→kA D lv (n+1) ⟨4,d.name,0,0,args⟩
 | arrow {n:Nat} {a b:Ty}:kA D lv n a→kA D lv n b→kA D lv (n+1) ⟨4,[45,62],0,0,[a,b]⟩
end Go.Ab.Lw
namespace Go.Ab.Lw
open Ev
abbrev B0:=List UInt8
def CP (t:Ty):List AV:=[.pv (vI t.kind),.pv (.str t.name),.pv (vI t.id),.pv (vI t.home),.pv (.bz (t.args.map Ty.pv))]
@[simp] theorem Cq (t:Ty):CP t=[.pv (vI t.kind),.pv (.str t.name),.pv (vI t.id),.pv (vI t.home),.pv (.bz (t.args.map Ty.pv))]:=rfl
inductive Ty.Cw:Ty→Prop
 | mk {t:Ty}:(t.kind≠4→t.args=[])→(∀x∈t.args,Ty.Cw x)→Ty.Cw t
end Go.Ab.Lw
namespace Go.Ab.Lw
structure ua (E:Type) where
 pos:Int
 BZ:List UInt8
 vars:List (List UInt8)
 body:E
structure Ex where
 kind:Int
 pos:Int
 name:List UInt8
 num:Int
 kids:List Ex
 kK:List (ua Ex)
 ty:Ty
abbrev Ar:=ua Ex
def yY:Ty:=⟨0,[],0,0,[]⟩
instance:Inhabited Ex:=⟨⟨0,0,[],0,[],[],yY⟩⟩
instance:Inhabited Ar:=⟨⟨0,[],[],default⟩⟩
def Ty.cells (t:Ty):List PV:=[.int .i64 t.kind,.str t.name,.int .i64 t.id,.int .i64 t.home,.bz (t.args.map Ty.pv)]
mutual
def Ex.cells:Ex→List PV
 | ⟨k,p,n,m,ks,as,t⟩=>.int .i64 k::.int .i64 p::.str n::.int .i64 m::.bz (Ex.cv ks)::.bz (Ex.CC as)::t.cells
def Ex.cv:List Ex→List PV
 | []=>[]
 | e::r=>.agg (Ex.cells e)::Ex.cv r
def Ex.CC:List (ua Ex)→List PV
 | []=>[]
 | ⟨p,c,v,b⟩::r=>.agg (.int .i64 p::.str c::.bz (v.map .str)::Ex.cells b)::Ex.CC r
end
def Ex.ch (e:Ex):List Ex:=e.kids++e.kK.map ua.body
end Go.Ab.Lw
namespace Go.Ab.Lw
open Ev
abbrev oK:List (List UInt8):=varNames
inductive fo (ds:List Dt):Nat→Ex→Prop
 | var {n:Nat} {s:List UInt8}:s∈oK→fo ds n ⟨1,0,s,0,[],[],yY⟩
 | int {n:Nat} {m:Int}:0≤m→m<4→fo ds n ⟨3,0,[],m,[],[],yY⟩
 | BZ {n:Nat} {d:Dt} {c:Ae}:d∈ds→c∈d.cons→fo ds n ⟨2,0,c.name,0,[],[],yY⟩
 | gone {n:Nat}:fo ds n ⟨2,0,[71,111,110,101],0,[],[],yY⟩
 | hole {n:Nat}:fo ds n ⟨10,0,[],0,[],[],yY⟩
 | lam {n:Nat} {s:List UInt8} {a:Ex}:s∈oK→fo ds n a→fo ds (n+1) ⟨4,0,s,0,[a],[],yY⟩
 | app {n:Nat} {a b:Ex}:fo ds n a→fo ds n b→fo ds (n+1) ⟨5,0,[],0,[a,b],[],yY⟩
 | Cr {n:Nat} {k:Int} {s:List UInt8} {a b:Ex}:k=6∨k=7→s∈oK→fo ds n a→fo ds n b→fo ds (n+1) ⟨k,0,s,0,[a,b],[],yY⟩
 | CQ {n:Nat} {a:Ex} {t:Ty}:fo ds n a→kA (·∈ds) [] 2 t→fo ds (n+1) ⟨9,0,[],0,[a],[],t⟩
 | held {n:Nat} {a:Ex}:fo ds n a→fo ds (n+1) ⟨11,0,[],0,[a],[],yY⟩
 | up {n:Nat} {a:Ex}:fo ds n a→fo ds (n+1) a
 | B1 {n:Nat} {d:Dt} {a:Ex} {as:List Ar}:d∈ds→fo ds n a→as.length=d.cons.length→(∀x∈as,fo ds n x.body)→(∀x∈as,x.pos=0∧∀v∈x.vars,v∈oK) →
     (∀(i:Nat) (c:Ae) (x:Ar),d.cons[i]?=some c→as[i]?=some x→x.BZ=c.name∧x.vars.length=c.fields.length)→fo ds (n+1) ⟨8,0,[],0,[a],as,yY⟩
end Go.Ab.Lw
namespace Go.Ab.Lw
open Ev
def tx (l:List (List UInt8)):List AV:=l.map fun s=>AV.pv (.str s)
end Go.Ab.Lw
namespace Go.Ab.Lw
open Ev
structure Row {α:Type} (f:α→List PV) (sz:Nat):Prop where
 pos:0<sz
 len:∀x,(f x).length=sz
section
variable {α:Type} {f:α→List PV} {sz:Nat}
def CR (f:α→List PV) (l:List α):List AV:=l.flatMap fun x=>(f x).map .pv
end
end Go.Ab.Lw
namespace Go.Ab.Lw
open Ev
inductive Ex.Ok:Ex→Prop
 | mk {e:Ex}:e.kids.length≤1000→e.kK.length≤1000→(∀a∈e.kK,a.vars.length≤1000)→e.ty.Ok→(∀x∈e.ch,x.Ok)→e.Ok
def hV (X:Sh) (l:List Ex):AV:=if l=[] then .own [] 0 else .aU X.length 11 l.length true
def hS (X:Sh) (l:List Ex):Sh:=if l=[] then X else X++[some (CR Ex.cells l)]
def hT (l:List Ex):al:=if l=[] then [0] else []
end Go.Ab.Lw
namespace Go.Ab.Lw
open Ev
inductive Ty.Wb:Ty→Prop
 | mk {t:Ty}:(t.kind=2→t.args=[])→(∀x∈t.args,Ty.Wb x)→Ty.Wb t
end Go.Ab.Lw
namespace Go.Ab.Lw
inductive Ty.Kn (K:Int→Prop):Ty→Prop
 | mk {t:Ty}:(t.kind≠4→K t.kind∧t.args=[])→t.name.length≤100→(∀x∈t.args,x.Kn K)→t.Kn K
end Go.Ab.Lw
namespace Go.Ab.Lw
open Ev
@[simp] def KT (k:Int):Prop:=k=0∨k=5
inductive qT:Ex→Prop
 | leaf {e:Ex}:(e.kind=1∨e.kind=2)∧e.name.length≤100∨e.kind=3∧0≤e.num∧e.num<4∨e.kind=10→e.kids=[]→e.kK=[]→qT e
 | lam {e a:Ex}:e.kind=4→e.name.length≤100→e.kids=[a]→e.kK=[]→qT a→qT e
 | app {e a b:Ex}:e.kind=5→e.kids=[a,b]→e.kK=[]→qT a→qT b→qT e
 | Cr {e a b:Ex}:e.kind=6∨e.kind=7→e.name.length≤100→e.kids=[a,b]→e.kK=[]→qT a→qT b→qT e
 | B1 {e a:Ex}:e.kind=8→e.kids=[a]→qT a→e.kK.length≤10 →
     (∀x∈e.kK,x.BZ.length≤100∧x.vars.length≤10∧∀v∈x.vars,v.length≤100)→(∀x∈e.kK,qT x.body)→qT e
 | CQ {e a:Ex}:e.kind=9→e.kids=[a]→e.kK=[]→e.ty.Kn KT→e.ty.nodes.length≤10000→qT a→qT e
 | held {e a:Ex}:e.kind=11→e.kids=[a]→e.kK=[]→qT a→qT e
end Go.Ab.Lw
namespace Go.Ab.Lw
open Ev
theorem dec_lt {k:Nat} (h:k<10):Lib.decDigits k=[UInt8.ofNat (48+k)]:=by rw [Lib.decDigits,dif_pos h]
theorem yZ {k:Nat} (h:¬k<10):Lib.decDigits k=Lib.decDigits (k / 10)++[UInt8.ofNat (48+k % 10)]:=by rw [Lib.decDigits,dif_neg h]
theorem Af {f:Nat}:∀{k:Nat},k<10 ^ (f+1)→(Lib.decDigits k).length≤f+1:=by
 induction f with
 | zero=>intro k h;rw [dec_lt (by simpa using h)];simp
 | succ f ih=>
   intro k h
   by_cases hk:k<10
   · rw [dec_lt hk];simp
   · rw [yZ hk]
     have:=ih (k:=k / 10) (by rw [Nat.pow_succ] at h;omega)
     simp only [List.length_append,List.length_cons,List.length_nil]
     omega
theorem np {k:Nat} (h:k≤9223372036854775807):(Lib.decDigits k).length≤20:=Af (f:=19) (by omega)
def Bo (k:Nat) (acc:B0):B0:=if k=0 then acc else Lib.decDigits k++acc
theorem y1 {k:Nat} {acc:B0} (h:k≠0):Bo k acc=Bo (k / 10) (UInt8.ofNat (48+k % 10)::acc):=by
 unfold Bo
 rw [if_neg h]
 by_cases hk:k<10
 · rw [if_pos (by omega),dec_lt hk,Nat.mod_eq_of_lt hk];rfl
 · rw [if_neg (by omega),yZ hk];simp
theorem B2 {a:Int}:∀(f k:Nat),k<10 ^ f→k≤9223372036854775807→∀acc:B0,acc.length+f≤1000 →
   cl AP g256L0 ⟨[(0,.pv (vI a)),(3,.pv (.str acc)),(4,.pv (vI k))],[],[],[]⟩=some (.exit 0,⟨[(0,.pv (vI a)),(3,.pv (.str (Bo k acc))),(4,.pv (vI 0)),(10,.pv (.bool false))],[],[],[]⟩)
 | 0,k,hk,hk2,acc,ha=>by
   have:k=0:=by simpa using hk
   subst this
   rw [g256L0e]
   simp [g256B0,Bo]
 | f+1,k,hk,hk2,acc,ha=>by
   by_cases h0:k=0
   · subst h0
     rw [g256L0e]
     simp [g256B0,Bo]
   · have ih:=B2 (a:=a) f (k / 10) (by rw [Nat.pow_succ] at hk;omega) (by omega) (UInt8.ofNat (48+k % 10)::acc) (by simp;omega)
     rw [y1 h0]
     have e1:((k:Int).tmod 10)=((k % 10:Nat):Int):=rfl
     have e2:((k:Int).tdiv 10)=((k / 10:Nat):Int):=rfl
     have h0':¬(k:Int)=0:=by omega
     have hr:k % 10<10:=Nat.mod_lt _ (by omega)
     have hw:IntKind.i64.wrap ((k / 10:Nat):Int)=((k / 10:Nat):Int):=cX (by omega) (by omega)
     generalize k / 10=q at *
     generalize k % 10=r at *
     have:r=0∨r=1∨r=2∨r=3∨r=4∨r=5∨r=6∨r=7∨r=8∨r=9:=by omega
     have hb:1+acc.length≤9223372036854775807:=by omega
     rw [g256L0e] at ih ⊢
     rcases this with rfl | rfl | rfl | rfl | rfl | rfl | rfl | rfl | rfl | rfl<;>simp at ih e1 <;>
       simp (disch:=omega) [g256B0,e1,e2,h0,h0',hw,cX,cT,db,hb]<;>rw [g256L0e]<;>simp [ih]
theorem c256n {n:Int} (h0:0≤n) (h1:n≤9223372036854775807):(bQ AP).p 256 [vI n]=some [.str (Lib.decDigits n.toNat)]:=by
 obtain ⟨k,rfl⟩:=Int.eq_ofNat_of_zero_le h0
 rw [fh (af:=g256) rfl rfl (by decide),Int.toNat_natCast]
 by_cases hk:k=0
 · subst hk
   rw [dec_lt (by omega)]
   simp [g256]
 · have e:=B2 (a:=k) 20 k (by omega) (by omega) [] (by simp)
   have h2:¬(k:Int)<0:=by omega
   have h3:¬(k:Int)=0:=by omega
   rw [Bo,if_neg hk,List.append_nil] at e
   generalize Lib.decDigits k=D at *
   rw [g256L0e] at e
   simp at e
   simp [g256,hk,h3,h2,g256L0e,e]
section
variable {AQ:Nat→Option aK}
theorem c255n (hQ:AQ 255=some g255) {n:Int} (h0:0≤n) (h1:n≤9223372036854775807):(bQ AQ).p 255 [vI n]=some [.str (Lib.decDigits n.toNat)]:=by
 rw [zq hQ rfl]
 have h1':-9223372036854775808≤n:=by omega
 have h3:¬n<0:=by omega
 simp [kT,Lib.itoa,h1,h1',h3]
end
def wR (k:Nat):B0:=UInt8.ofNat (97+k % 26)::(if k<26 then [] else Lib.decDigits (k / 26))
theorem y3:wR 0=[97]:=by simp [wR]
theorem c246 {n:Int} (h1:n≤9223372036854775807):(bQ AP).p 246 [vI n]=some [.str (wR n.toNat)]:=by
 rw [fh (af:=g246) rfl rfl (by decide)]
 by_cases h0:n<0
 · have h2:¬26≤n:=by omega
   have h3:n.toNat=0:=by omega
   rw [h3,y3]
   simp [g246,h0,h2,cT,db,cX]
 · obtain ⟨k,rfl⟩:=Int.eq_ofNat_of_zero_le (show 0≤n by omega)
   rw [Int.toNat_natCast]
   have c:=c256n (n:=((k / 26:Nat):Int)) (by omega) (by omega)
   have hl:=np (k:=k / 26) (by omega)
   rw [Int.toNat_natCast] at c
   have e1:((k:Int).tmod 26)=((k % 26:Nat):Int):=rfl
   have e2:((k:Int).tdiv 26)=((k / 26:Nat):Int):=rfl
   have hr:k % 26<26:=Nat.mod_lt _ (by omega)
   have hw:IntKind.i64.wrap ((k / 26:Nat):Int)=((k / 26:Nat):Int):=cX (by omega) (by omega)
   have h0':¬0 > (k:Int):=by omega
   have hk:((k:Int)≥26)↔¬k<26:=by omega
   unfold wR
   generalize k / 26=q at *
   generalize k % 26=r at *
   generalize Lib.decDigits q=D at *
   have hb:1+D.length≤9223372036854775807:=by omega
   have hsl:cT true 0 true true false [.pv (.str [97,98,99,100,101,102,103,104,105,106,107,108,109,110,111,112,113,114,115,116,117,118,119,120,121,122]),.pv (vI r),.pv (vI ((r:Int)+1))]=some (.pv (.str [UInt8.ofNat (97+r)])):=by
     have:r=0∨r=1∨r=2∨r=3∨r=4∨r=5∨r=6∨r=7∨r=8∨r=9∨r=10∨r=11∨r=12∨r=13∨r=14∨r=15∨r=16∨r=17∨r=18∨r=19∨r=20∨r=21∨r=22∨r=23∨r=24∨r=25:=by omega
     rcases this with rfl | rfl | rfl | rfl | rfl | rfl | rfl | rfl | rfl | rfl | rfl | rfl | rfl | rfl | rfl | rfl | rfl | rfl | rfl | rfl | rfl | rfl | rfl | rfl | rfl | rfl<;>simp [cT,db]
   simp at c hsl
   by_cases hk2:k<26
   · have:¬26≤(k:Int):=by omega
     simp (disch:=omega) [g246,e1,cX,hsl,this,hk2]
   · have:26≤(k:Int):=by omega
     simp (disch:=omega) [g246,e1,e2,hw,cX,hsl,this,hk2,c,hb]
theorem c245 {AQ:Nat→Option aK} (hQ:AQ 255=some g255) (hQ2:AQ 245=some g245) {n:Int} (h1:n≤9223372036854775807):(bQ AQ).p 245 [vI n]=some [.str (wR n.toNat)]:=by
 rw [fh (af:=g245) hQ2 rfl (by decide)]
 by_cases h0:n<0
 · have h2:¬26≤n:=by omega
   have h3:n.toNat=0:=by omega
   rw [h3,y3]
   simp [g245,h0,h2,cT,db,bw,cd,aP,aB,cX]
 · obtain ⟨k,rfl⟩:=Int.eq_ofNat_of_zero_le (show 0≤n by omega)
   rw [Int.toNat_natCast]
   have c:=c255n hQ (n:=((k / 26:Nat):Int)) (by omega) (by omega)
   have hl:=np (k:=k / 26) (by omega)
   rw [Int.toNat_natCast] at c
   have e1:((k:Int).tmod 26)=((k % 26:Nat):Int):=rfl
   have e2:((k:Int).tdiv 26)=((k / 26:Nat):Int):=rfl
   have hr:k % 26<26:=Nat.mod_lt _ (by omega)
   have hw:IntKind.i64.wrap ((k / 26:Nat):Int)=((k / 26:Nat):Int):=cX (by omega) (by omega)
   have h0':¬0 > (k:Int):=by omega
   unfold wR
   generalize k / 26=q at *
   generalize k % 26=r at *
   generalize Lib.decDigits q=D at *
   have hb:1+D.length≤9223372036854775807:=by omega
   have:r=0∨r=1∨r=2∨r=3∨r=4∨r=5∨r=6∨r=7∨r=8∨r=9∨r=10∨r=11∨r=12∨r=13∨r=14∨r=15∨r=16∨r=17∨r=18∨r=19∨r=20∨r=21∨r=22∨r=23∨r=24∨r=25:=by omega
   try simp at c
   by_cases hk2:k<26
   · have h26:¬26≤(k:Int):=by omega
     rcases this with rfl | rfl | rfl | rfl | rfl | rfl | rfl | rfl | rfl | rfl | rfl | rfl | rfl | rfl | rfl | rfl | rfl | rfl | rfl | rfl | rfl | rfl | rfl | rfl | rfl | rfl<;>simp at e1<;>simp (disch:=omega) [g245,e1,cX,cT,db,bw,cd,aP,aB,h26,hk2]
   · have h26:26≤(k:Int):=by omega
     rcases this with rfl | rfl | rfl | rfl | rfl | rfl | rfl | rfl | rfl | rfl | rfl | rfl | rfl | rfl | rfl | rfl | rfl | rfl | rfl | rfl | rfl | rfl | rfl | rfl | rfl | rfl<;>simp at e1<;>simp (disch:=omega) [g245,e1,e2,hw,cX,cT,db,bw,cd,aP,aB,h26,hk2,c,hb]
end Go.Ab.Lw
namespace Go.Ab.Lw
open Ev
theorem c244l:(bQ AP).p 244 []=some [.bool true]:=Fc.Cm (k:=400) (n:=40) (by kernel_rfl)
theorem Bp (n:Int) (h:n≤9223372036854775807):(bQ AP).p 241 [vI n]=some [.bool true]:=by
 have c0:=c244l
 obtain ⟨r,c1,r0,r1⟩:=c26 (n:=n) (m:=100) (by omega) (by omega)
 have c2:=c245 (AQ:=AP) rfl rfl h
 have c3:=c246 h
 have c4:=c245 (AQ:=AP) rfl rfl (n:=r) (by omega)
 have c5:=c246 (n:=r) (by omega)
 rw [fh (af:=g241) rfl rfl (by decide)]
 try simp at c1
 try simp at c2
 try simp at c3
 try simp at c4
 try simp at c5
 simp [g241,c0,c1,c2,c3,c4,c5]
end Go.Ab.Lw
