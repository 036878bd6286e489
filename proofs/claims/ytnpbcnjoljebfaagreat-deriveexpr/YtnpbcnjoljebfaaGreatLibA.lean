import Derived.Test.YtnpbcnjoljebfaaGreatCodeA
import Derived.KernelRfl
/- What functions of the given program answer, told of their slim code on the abstract machine. -/
set_option linter.unusedVariables false
set_option linter.defProp false
set_option linter.unusedSimpArgs false
set_option linter.unnecessarySimpa false
set_option maxRecDepth 100000
set_option maxHeartbeats 8000000
namespace Go.Ab
def zaI:=@List.take_add_one
def zcs:=@List.drop_append
def zam:=@List.mem_flatMap
def zcE:=@List.map_congr_left
def zaG:=@decide_eq_true
def zbl:=@List.any_eq_false
def zc0:=@Int.not_le
def zbW:=@decide_eq_false_iff_not
def zce:=@Option.toList_some
def zbe:=@List.take_length
def za9:=@List.map_take
def zcj:=@List.foldl_append
def zcI:=@List.any_cons
def zcB:=@Nat.one_le_pow
def zcv:=@Nat.pow_succ
def zch:=@of_decide_eq_true
def zcb:=@List.sum_append
def zbU:=@List.flatMap_append
def za2:=@List.set_eq_take_append_cons_drop
def zcH:=@List.map_drop
def zbF:=@List.map_append
def zct:=@List.countP_cons
def zaJ:=@List.mem_singleton
def za1:=@List.drop_length
def zb5:=@List.singleton_append
def zbt:=@List.length_singleton
def zcA:=@List.length_filter_le
def za6:=@List.length_eq_zero_iff
end Go.Ab
namespace Go.Ab.Lw
structure Ty where
 kind:Int
 name:List UInt8
 id:Int
 home:Int
 args:List Ty
 deriving Inhabited
noncomputable instance:DecidableEq Ty:=fun _ _=>Classical.propDecidable _
mutual
def Ty.pv:Ty->PV
 |⟨k,n,i,h,as⟩=>.agg [.int .i64 k,.str n,.int .i64 i,.int .i64 h,.aq (Ty.dV as)]
def Ty.dV:List Ty->List PV
 |[]=>[]
 |a::r=>a.pv::Ty.dV r
end
theorem Ty.kN:∀l:List Ty,Ty.dV l=l.map Ty.pv
 |[]=>by simp[Ty.dV]
 |a::r=>by simp[Ty.dV,Ty.kN r]
@[simp] theorem Ty.kO(t:Ty):t.pv=.agg [.int .i64 t.kind,.str t.name,.int .i64 t.id,.int .i64 t.home,.aq (t.args.map Ty.pv)]:=by
 cases t;simp only[Ty.pv,Ty.kN]
theorem Ty.cB{p:Ty->Prop}(h:∀t:Ty,(∀x∈t.args,p x)->p t):∀t,p t
 |⟨k,n,i,hm,as⟩=>h _ (fun x a=>Ty.cB h x)
termination_by t=>SizeOf.sizeOf t
decreasing_by have:=_root_.List.sizeOf_lt_of_mem a;simp at*;omega
structure jI where
 pos:Int
 name:List UInt8
 fields:List Ty
 deriving Inhabited
structure Dt where
 pos:Int
 name:List UInt8
 params:List (List UInt8)
 cons:List jI
 deriving Inhabited
def jI.pv(c:jI):PV:=.agg [.int .i64 c.pos,.str c.name,.aq (c.fields.map Ty.pv)]
def Dt.pv(d:Dt):PV:=.agg [.int .i64 d.pos,.str d.name,.aq (d.params.map .str),.aq (d.cons.map jI.pv)]
@[simp] theorem jI.kO(c:jI):c.pv=.agg [.int .i64 c.pos,.str c.name,.aq (c.fields.map Ty.pv)]:=rfl
@[simp] theorem Dt.kO(d:Dt):d.pv=.agg [.int .i64 d.pos,.str d.name,.aq (d.params.map .str),.aq (d.cons.map jI.pv)]:=rfl
structure As where
 id:Int
 ty:Ty
 deriving Inhabited
def As.pv(a:As):PV:=.agg [.int .i64 a.id,.int .i64 a.ty.kind,.str a.ty.name,.int .i64 a.ty.id,.int .i64 a.ty.home,.aq (a.ty.args.map Ty.pv)]
@[simp] theorem As.kO(a:As):a.pv=.agg [.int .i64 a.id,.int .i64 a.ty.kind,.str a.ty.name,.int .i64 a.ty.id,.int .i64 a.ty.home,.aq (a.ty.args.map Ty.pv)]:=rfl
@[simp] theorem As.eta(t:As):As.mk t.id t.ty=t:=rfl
abbrev vI(n:Int):PV:=.int .i64 n
def tp(L:List Int)(i:Int):Sh:=[some [.pv (.aq (L.map vI)),.pv (vI i)]]
@[simp] theorem Zo(L:List Int)(i:Int):tp L i=[some [.pv (.aq (L.map vI)),.pv (vI i)]]:=rfl
def Sm{α:Type}(l:List α):Prop:=l.length<1099511627776
def mE{α:Type}(l:List α):Prop:=l.length<=9223372036854775807
@[simp] theorem YL(n:Nat):((n:Int)<0)<->False:=by simp
@[simp] theorem Yo(n:Nat):((n:Int)+1<0)<->False:=by simp;omega
theorem aV{α:Type}{l:List α}{i:Nat}{x:α}(h:l[i]?=some x):l.drop i=x::l.drop (i+1):=by
 obtain⟨hi,rfl⟩:=zaa.1 h;exact zc3 hi
theorem aP{α:Type}{l:List α}{i:Nat}(h:i<l.length):∃x,l[i]?=some x:=⟨_,za4 h⟩
theorem aN{α:Type}{l:List α}{i:Nat}{x:α}(h:l[i]?=some x):x∈l:=List.mem_of_getElem? h
theorem BW{α:Type}{l:List α}{i:Nat}(h:l.length<=i):l.drop i=[]:=zaX h
open Ev
theorem c26{n m:Int}(h1:1<=m)(h2:m<4611686018427387904):∃r,(aC AP).p 26 [vI n,vI m]=some [vI r]∧0<=r∧r<m:=by
 rw[az g26];have b:=Int.tmod_lt_of_pos n (show 0<m by omega);have a:=Int.lt_tmod_of_pos n (show 0<m by omega);have e1:¬m<1:=by omega
 have e2:¬m=0:=by omega
 by_cases h:n.tmod m<0
 ·refine⟨n.tmod m+m,?_,by omega,by omega⟩;simp(disch:=omega)[g26,e1,e2,h,ah]
 ·refine⟨n.tmod m,?_,by omega,by omega⟩;simp[g26,e1,e2,h]
theorem c63{n:Int}:(aC AP).p 63 [vI n]=some [(Ty.mk 1 [] n 0 []).pv]:=by
 rw[az g63];simp[g63]
theorem c71{n m:Int}:(aC AP).p 71 [vI n,vI m]=some [(Ty.mk 3 [] m n []).pv]:=by
 rw[az g71];simp[g71]
theorem c72{n:Int}:(aC AP).p 72 [vI n]=some [(Ty.mk 2 [] n 0 []).pv]:=by
 rw[az g72];simp[g72]
theorem c62{s:List UInt8}{l:List Ty}(h:Sm l):(aC AP).p 62 [.str s,.aq (l.map Ty.pv)]=some [(Ty.mk 4 s 0 0 l).pv]:=by
 unfold Sm at h;rw[az g62];cases l with
 |nil=>simp[g62]
 |cons a r=>
  have:(r.length+1)*64<=140737488355328:=by simp at h;omega
  simp[g62,this]
theorem c34:(aC AP).p 34 []=some [(Ty.mk 4 [73,110,116] 0 0 []).pv]:=by
 rw[az g34];have h:=c62 (s:=[73,110,116]) (l:=[]) (by simp[Sm]);simp at h;simp[g34,h]
theorem c69{a b:Ty}:(aC AP).p 69 [a.pv,b.pv]=some [(Ty.mk 4 [45,62] 0 0 [a,b]).pv]:=by
 rw[az g69];have h:=c62 (s:=[45,62]) (l:=[a,b]) (by simp[Sm]);simp at h;simp[g69,h]
theorem c15{l:List Int}:(aC AP).p 15 [.aq (l.map vI)]=some [.bool (decide (l.length<=60))]:=by
 rw[az g15];simp[g15];omega
def Calm(sh:Sh):Prop:=∀aL ts,bl aL ts sh=(sh,aL,ts)
def aQ(n:Int):Ty:=⟨1,[],n,0,[]⟩
def s9(h n:Int):Ty:=⟨3,[],n,h,[]⟩
def aX(n:Int):Ty:=⟨2,[],n,0,[]⟩
def bj:Ty:=⟨4,[73,110,116],0,0,[]⟩
theorem c70_4{sh:Sh}(h:Calm sh):(aC AP).i 70 [.pv (vI 4)] sh []=some ([.own ([aQ 0,aQ 1,aQ 2,aQ 3].map Ty.pv) 0],sh,[4]):=by
 have a:=h;unfold Calm at h;rw[aA g70];have c0:=c63 (n:=0);have c1:=c63 (n:=1);have c2:=c63 (n:=2);have c3:=c63 (n:=3);simp at c0 c1 c2 c3;simp(disch:=omega)[-getElem?_pos,g70,g70L0e,g70B0,ah,c0,c1,c2,c3,h,aQ]
def We:List UInt8:=[100,97,116,97,32,66,111,111,108,32,61,32,84,114,117,101,32,124,32,70,97,108,115,101,59,32,100,97,116,97,32,79,112,116,105,111,110,32,97,32,61,32,78,111,110,101,32,124,32,83,111,109,101,32,97,59,32,100,97,116,97,32,76,105,115,116,32,97,32,61,32,78,105,108,32,124,32,67,111,110,115,32,97,32,40,76,105,115,116,32,97,41,59,100,97,116,97,32,80,97,105,114,32,97,32,98,32,61,32,80,97,105,114,32,97,32,98,59,32,100,97,116,97,32,78,97,116,32,61,32,90,101,114,111,32,124,32,83,117,99,99,32,78,97,116,59,32,100,97,116,97,32,70,117,110,32,97,32,98,32,61,32,70,117,110,32,40,97,32,45,62,32,98,41,59,32,100,97,116,97,32,84,119,111,32,97,32,61,32,66,111,116,104,32,97,32,97,32,124,32,79,110,101,32,40,79,112,116,105,111,110,32,97,41,59]
def RK:List PV:=[.aq [.agg [.int .i64 4,.str [100,97,116,97],.int .i64 0],.agg [.int .i64 2,.str [66,111,111,108],.int .i64 5],.agg [.int .i64 5,.str [61],.int .i64 10],.agg [.int .i64 2,.str [84,114,117,101],.int .i64 12],.agg [.int .i64 5,.str [124],.int .i64 17],.agg [.int .i64 2,.str [70,97,108,115,101],.int .i64 19],.agg [.int .i64 5,.str [59],.int .i64 24],.agg [.int .i64 4,.str [100,97,116,97],.int .i64 26],.agg [.int .i64 2,.str [79,112,116,105,111,110],.int .i64 31],.agg [.int .i64 1,.str [97],.int .i64 38],.agg [.int .i64 5,.str [61],.int .i64 40],.agg [.int .i64 2,.str [78,111,110,101],.int .i64 42],.agg [.int .i64 5,.str [124],.int .i64 47],.agg [.int .i64 2,.str [83,111,109,101],.int .i64 49],.agg [.int .i64 1,.str [97],.int .i64 54],.agg [.int .i64 5,.str [59],.int .i64 55],.agg [.int .i64 4,.str [100,97,116,97],.int .i64 57],.agg [.int .i64 2,.str [76,105,115,116],.int .i64 62],.agg [.int .i64 1,.str [97],.int .i64 67],.agg [.int .i64 5,.str [61],.int .i64 69],.agg [.int .i64 2,.str [78,105,108],.int .i64 71],.agg [.int .i64 5,.str [124],.int .i64 75],.agg [.int .i64 2,.str [67,111,110,115],.int .i64 77],.agg [.int .i64 1,.str [97],.int .i64 82],.agg [.int .i64 5,.str [40],.int .i64 84],.agg [.int .i64 2,.str [76,105,115,116],.int .i64 85],.agg [.int .i64 1,.str [97],.int .i64 90],.agg [.int .i64 5,.str [41],.int .i64 91],.agg [.int .i64 5,.str [59],.int .i64 92],.agg [.int .i64 4,.str [100,97,116,97],.int .i64 93],.agg [.int .i64 2,.str [80,97,105,114],.int .i64 98],.agg [.int .i64 1,.str [97],.int .i64 103],.agg [.int .i64 1,.str [98],.int .i64 105],.agg [.int .i64 5,.str [61],.int .i64 107],.agg [.int .i64 2,.str [80,97,105,114],.int .i64 109],.agg [.int .i64 1,.str [97],.int .i64 114],.agg [.int .i64 1,.str [98],.int .i64 116],.agg [.int .i64 5,.str [59],.int .i64 117],.agg [.int .i64 4,.str [100,97,116,97],.int .i64 119],.agg [.int .i64 2,.str [78,97,116],.int .i64 124],.agg [.int .i64 5,.str [61],.int .i64 128],.agg [.int .i64 2,.str [90,101,114,111],.int .i64 130],.agg [.int .i64 5,.str [124],.int .i64 135],.agg [.int .i64 2,.str [83,117,99,99],.int .i64 137],.agg [.int .i64 2,.str [78,97,116],.int .i64 142],.agg [.int .i64 5,.str [59],.int .i64 145],.agg [.int .i64 4,.str [100,97,116,97],.int .i64 147],.agg [.int .i64 2,.str [70,117,110],.int .i64 152],.agg [.int .i64 1,.str [97],.int .i64 156],.agg [.int .i64 1,.str [98],.int .i64 158],.agg [.int .i64 5,.str [61],.int .i64 160],.agg [.int .i64 2,.str [70,117,110],.int .i64 162],.agg [.int .i64 5,.str [40],.int .i64 166],.agg [.int .i64 1,.str [97],.int .i64 167],.agg [.int .i64 5,.str [45,62],.int .i64 169],.agg [.int .i64 1,.str [98],.int .i64 172],.agg [.int .i64 5,.str [41],.int .i64 173],.agg [.int .i64 5,.str [59],.int .i64 174],.agg [.int .i64 4,.str [100,97,116,97],.int .i64 176],.agg [.int .i64 2,.str [84,119,111],.int .i64 181],.agg [.int .i64 1,.str [97],.int .i64 185],.agg [.int .i64 5,.str [61],.int .i64 187],.agg [.int .i64 2,.str [66,111,116,104],.int .i64 189],.agg [.int .i64 1,.str [97],.int .i64 194],.agg [.int .i64 1,.str [97],.int .i64 196],.agg [.int .i64 5,.str [124],.int .i64 198],.agg [.int .i64 2,.str [79,110,101],.int .i64 200],.agg [.int .i64 5,.str [40],.int .i64 204],.agg [.int .i64 2,.str [79,112,116,105,111,110],.int .i64 205],.agg [.int .i64 1,.str [97],.int .i64 212],.agg [.int .i64 5,.str [41],.int .i64 213],.agg [.int .i64 5,.str [59],.int .i64 214]],.agg [.int .i64 0,.int .i64 0]]
def bp:List Dt:=[⟨0,[66,111,111,108],[],[⟨12,[84,114,117,101],[]⟩,⟨19,[70,97,108,115,101],[]⟩]⟩,
 ⟨26,[79,112,116,105,111,110],[[97]],[⟨42,[78,111,110,101],[]⟩,⟨49,[83,111,109,101],[⟨5,[97],0,0,[]⟩]⟩]⟩,
 ⟨57,[76,105,115,116],[[97]],[⟨71,[78,105,108],[]⟩,⟨77,[67,111,110,115],[⟨5,[97],0,0,[]⟩,⟨4,[76,105,115,116],0,0,[⟨5,[97],0,0,[]⟩]⟩]⟩]⟩,
 ⟨93,[80,97,105,114],[[97],[98]],[⟨109,[80,97,105,114],[⟨5,[97],0,0,[]⟩,⟨5,[98],0,0,[]⟩]⟩]⟩,
 ⟨119,[78,97,116],[],[⟨130,[90,101,114,111],[]⟩,⟨137,[83,117,99,99],[⟨4,[78,97,116],0,0,[]⟩]⟩]⟩,
 ⟨147,[70,117,110],[[97],[98]],[⟨162,[70,117,110],[⟨4,[45,62],0,0,[⟨5,[97],0,0,[]⟩,⟨5,[98],0,0,[]⟩]⟩]⟩]⟩,
 ⟨176,[84,119,111],[[97]],[⟨189,[66,111,116,104],[⟨5,[97],0,0,[]⟩,⟨5,[97],0,0,[]⟩]⟩,⟨200,[79,110,101],[⟨4,[79,112,116,105,111,110],0,0,[⟨5,[97],0,0,[]⟩]⟩]⟩]⟩]
theorem Wg:(aC AP).p 118 [.str We]=some RK:=Fc.T5 (k:=400) (n:=20) (by kernel_rfl)
def Zp(g:Nat)(x:List PV):Option (List PV):=match g,x with
 |118,[.str s]=>if s=We then some RK else none
 |_,_=>none
theorem T6:∀g x r,Zp g x=some r->(aC AP).p g x=some r:=by
 intro g x r h;unfold Zp at h;split at h
 ·split at h
  ·rename_i e;subst e;cases h;exact Wg
  ·cases h
 ·cases h
theorem c79:(aC AP).p 79 []=some [.aq (bp.map Dt.pv)]:=Fc.Wd (k:=400) (n:=40) T6 (by kernel_rfl)
@[simp] theorem Vd{l:List Dt}:a7 4 (l.map Dt.pv)=true:=by cases l<;>simp
@[simp] theorem Ve{l:List Ty}:a7 5 (l.map Ty.pv)=true:=by cases l<;>simp
@[simp] theorem Vf{l:List As}:a7 6 (l.map As.pv)=true:=by cases l<;>simp
theorem Nc{n:Int}(h1:0<=n)(h2:n<18446744073709551616):IntKind.u64.wrap n=n:=by
 simp[IntKind.wrap,IntKind.bits,IntKind.signed];omega
def Wh(bits:Int)(ds:List Dt):Option (aR×St):=
 some (.exit 0,⟨[(0,.pv (vI bits)),(3,.pv (.aq (bp.map Dt.pv))),(4,.own (ds.map Dt.pv) 0),(5,.pv (vI 7)),(24,.pv (.bool false))],[],[],[ds.length]⟩)
theorem Yp(bits:Int):∀(n i:Nat),7-i=n->i<=7->∀acc:List Dt,(∀d∈acc,d∈bp)->acc.length<=1+i->
   ∃ds:List Dt,cl AP g32L0 ⟨[(0,.pv (vI bits)),(3,.pv (.aq (bp.map Dt.pv))),(4,.own (acc.map Dt.pv) 0),(5,.pv (vI i))],[],[],[acc.length]⟩=Wh bits ds ∧
     (∀d∈ds,d∈bp)∧ds.length<=8
 |0,i,hn,hi,acc,a,hl=>by
  have:i=7:=by omega
  subst this;refine⟨acc,?_,a,by omega⟩;rw[g32L0e];have h7:bp.length=7:=rfl;simp[g32B0,h7,Wh]
 |n+1,i,hn,hi,acc,a,hl=>by
  have h7:bp.length=7:=rfl;have hi:i<7:=(by omega);obtain⟨x,hx⟩:=aP (l:=bp) (i:=i) (by omega);have k:(acc.length+1)*72<=140737488355328:=by omega
  obtain⟨e,e1,f,j⟩:=Yp bits n (i+1) (by omega) (by omega) (acc++[x]) (by
   intro d hd;simp at hd;rcases hd with hd|rfl
   ·exact a d hd
   ·exact aN hx) (by simp;omega)
  obtain⟨c,e2,m2,g⟩:=Yp bits n (i+1) (by omega) (by omega) acc a (by omega);simp at e1 e2;have b:(i:Int)<7:=by omega
  have key:∀S,S=cl AP g32L0 ⟨[(0,.pv (vI bits)),(3,.pv (.aq (bp.map Dt.pv))),(4,.own (acc.map Dt.pv) 0),(5,.pv (vI i))],[],[],[acc.length]⟩->S=Wh bits e∨S=Wh bits c:=by
   intro S hS;rw[g32L0e]at hS;simp(disch:=omega)[-getElem?_pos,g32B0,h7,b,hx,ah,Nc,k,e1,e2]at hS;subst hS
   (repeat' split)<;>simp
  rcases key _ rfl with h|h
  ·exact⟨e,h,f,j⟩
  ·exact⟨c,h,m2,g⟩
theorem c32(bits:Int):∃ds:List Dt,(aC AP).p 32 [vI bits]=some [.aq (ds.map Dt.pv)]∧(∀d∈ds,d∈bp)∧ds.length<=8:=by
 have hp:=c79;have h7:bp.length=7:=rfl;obtain⟨x,hx⟩:=aP (l:=bp) (i:=1) (by decide);obtain⟨b,e1,c,f⟩:=Yp bits 7 0 rfl (by omega) [x] (by intro d hd;simp at hd;subst hd;exact aN hx) (by simp);obtain⟨a,e2,m2,e⟩:=Yp bits 7 0 rfl (by omega) [] (by simp) (by simp);rw[g32L0e]at e1 e2;simp at e1 e2
 have key:∀S,S=(aC AP).p 32 [vI bits]->S=some [.aq (b.map Dt.pv)]∨S=some [.aq (a.map Dt.pv)]:=by
  intro S hS;rw[az g32]at hS;simp[-getElem?_pos,g32,hp,g32L0e,hx,e1,e2,Wh]at hS;subst hS
  (repeat' split)<;>simp
 rcases key _ rfl with h|h
 ·exact⟨b,h,c,f⟩
 ·exact⟨a,h,m2,e⟩
def Ty.av(t:Ty):AV:=.agg [.pv (vI t.kind),.pv (.str t.name),.pv (vI t.id),.pv (vI t.home),.pv (.aq (t.args.map Ty.pv))]
@[simp] theorem Ty.Zq(t:Ty):t.av=.agg [.pv (vI t.kind),.pv (.str t.name),.pv (vI t.id),.pv (vI t.home),.pv (.aq (t.args.map Ty.pv))]:=rfl
theorem uT{r:Int}{n:Nat}(h0:0<=r)(h1:r<n):∃m:Nat,r=m∧m<n:=⟨r.toNat,by omega,by omega⟩
inductive Ty.Ok:Ty->Prop
 |mk {t:Ty}:Sm t.args->(∀x∈t.args,Ty.Ok x)->Ty.Ok t
theorem Ty.Ok.sm{t:Ty}(h:t.Ok):Sm t.args:=by cases h;assumption
theorem Ty.Ok.cY{t:Ty}(h:t.Ok):∀x∈t.args,x.Ok:=by cases h;assumption
inductive Ty.Wf:Ty->Prop
 |mk {t:Ty}:(t.kind=1->t.args=[])->(∀x∈t.args,Ty.Wf x)->Ty.Wf t
theorem Ty.Wf.var{t:Ty}(h:t.Wf):t.kind=1->t.args=[]:=by cases h;assumption
theorem Ty.Wf.cY{t:Ty}(h:t.Wf):∀x∈t.args,x.Wf:=by cases h;assumption
def iH:List As->Int->Option Ty
 |[],_=>none
 |a::r,id=>if a.id=id then some a.ty else iH r id
mutual
def Ty.sub(s:List As):Ty->Ty
 |⟨k,n,i,h,as⟩=>if k=1 then(iH s i).getD ⟨k,n,i,h,as⟩else⟨k,n,i,h,Ty.Nd s as⟩
def Ty.Nd(s:List As):List Ty->List Ty
 |[]=>[]
 |a::r=>a.sub s::Ty.Nd s r
end
theorem Ty.BX(s:List As):∀l:List Ty,Ty.Nd s l=l.map (Ty.sub s)
 |[]=>by simp[Ty.Nd]
 |a::r=>by simp[Ty.Nd,Ty.BX s r]
theorem Ty.sub_eq(s:List As)(t:Ty):t.sub s=if t.kind=1 then(iH s t.id).getD t else⟨t.kind,t.name,t.id,t.home,t.args.map (Ty.sub s)⟩:=by
 cases t;simp only[Ty.sub,Ty.BX]
def Nf(s:List As)(t:Ty):Option Ty->Option (aR×St)
 |some a=>some (.ret,⟨[(4,.au 4 0)],[(4,[.pv (vI a.kind),.pv (.str a.name),.pv (vI a.id),.pv (vI a.home),.pv (.aq (a.args.map Ty.pv))])],[],[0]⟩)
 |none=>some (.exit 0,⟨[(1,.pv (.aq (s.map As.pv))),(2,.au 2 0),(4,.au 4 0),(5,.pv (vI s.length)),(14,.pv (.bool false))],
     [(2,[.pv (vI t.kind),.pv (.str t.name),.pv (vI t.id),.pv (vI t.home),.pv (.aq (t.args.map Ty.pv))]),(4,[.pv (vI 0),.pv (.str []),.pv (vI 0),.pv (vI 0),.own [] 0])],[],[0]⟩)
theorem Wi{s:List As}(hS:Sm s)(t:Ty):∀(n i:Nat),s.length-i=n->i<=s.length->
   cl AP g46L0 ⟨[(1,.pv (.aq (s.map As.pv))),(2,.au 2 0),(4,.au 4 0),(5,.pv (vI i))],
     [(2,[.pv (vI t.kind),.pv (.str t.name),.pv (vI t.id),.pv (vI t.home),.pv (.aq (t.args.map Ty.pv))]),(4,[.pv (vI 0),.pv (.str []),.pv (vI 0),.pv (vI 0),.own [] 0])],[],[0]⟩=Nf s t (iH (s.drop i) t.id)
 |0,i,hn,hi=>by
  have:i=s.length:=by omega
  subst this;rw[g46L0e];simp[g46B0,iH,Nf]
 |n+1,i,hn,hi=>by
  have hi:i<s.length:=(by omega);obtain⟨x,hx⟩:=aP hi;unfold Sm at hS;have a:=Wi hS t n (i+1) (by omega) (by omega);simp at a;rw[g46L0e,aV hx];by_cases e:x.id=t.id
  ·simp(disch:=omega)[-getElem?_pos,g46B0,hx,hi,e,iH,Nf]
  ·simp(disch:=omega)[-getElem?_pos,g46B0,hx,hi,e,iH,ah,a]
theorem Wj{s:List As}{t:Ty}(hS:Sm t.args)(h:∀x∈t.args,(aC AP).p 46 [x.pv,.aq (s.map As.pv)]=some [(x.sub s).pv]):∀(n i:Nat),t.args.length-i=n->i<=t.args.length->∀acc:List Ty,acc=(t.args.take i).map (Ty.sub s)->
   cl AP g46L1 ⟨[(1,.pv (.aq (s.map As.pv))),(2,.au 2 0),(4,.au 4 0),(6,.au 6 0),(7,.pv (vI i))],
     [(2,[.pv (vI t.kind),.pv (.str t.name),.pv (vI t.id),.pv (vI t.home),.pv (.aq (t.args.map Ty.pv))]),(4,[.pv (vI 0),.pv (.str []),.pv (vI 0),.pv (vI 0),.own [] 0]),
       (6,[.pv (vI t.kind),.pv (.str t.name),.pv (vI t.id),.pv (vI t.home),.own (acc.map Ty.pv) 1])],[],[0,acc.length]⟩=
     some (.exit 2,⟨[(1,.pv (.aq (s.map As.pv))),(2,.au 2 0),(4,.au 4 0),(6,.au 6 0),(7,.pv (vI t.args.length)),(37,.pv (.bool false))],
     [(2,[.pv (vI t.kind),.pv (.str t.name),.pv (vI t.id),.pv (vI t.home),.pv (.aq (t.args.map Ty.pv))]),(4,[.pv (vI 0),.pv (.str []),.pv (vI 0),.pv (vI 0),.own [] 0]),
       (6,[.pv (vI t.kind),.pv (.str t.name),.pv (vI t.id),.pv (vI t.home),.own ((t.args.map (Ty.sub s)).map Ty.pv) 1])],[],[0,t.args.length]⟩)
 |0,i,hn,hi,acc,a=>by
  have:i=t.args.length:=by omega
  subst this;subst a;rw[g46L1e];simp[g46B1]
 |n+1,i,hn,hi,acc,a=>by
  have hi:i<t.args.length:=(by omega);obtain⟨x,hx⟩:=aP hi;unfold Sm at hS;have d:(acc.length+1)*64<=140737488355328:=by subst a;simp;omega
  have c:=h x (aN hx);have b:=Wj hS h n (i+1) (by omega) (by omega) (acc++[x.sub s]) (by rw[zaI,hx,a];simp);rw[g46L1e]at b⊢;simp at b c;simp(disch:=omega)[-getElem?_pos,g46B1,hx,hi,c,d,ah];rw[g46L1e];simp[b]
theorem c46{s:List As}(hS:Sm s){t:Ty}(c:t.Ok):(aC AP).p 46 [t.pv,.aq (s.map As.pv)]=some [(t.sub s).pv]:=by
 revert c
 refine Ty.cB (p:=fun t=>t.Ok->(aC AP).p 46 [t.pv,.aq (s.map As.pv)]=some [(t.sub s).pv]) ?_ t;intro t d c;rw[az g46];by_cases b:t.kind=1
 ·have h:=Wi hS t _ 0 rfl (by omega);rw[g46L0e]at h;simp at h;cases hf:iH s t.id with
  |none=>
   rw[hf]at h;simp[Nf,b]at h;simp[g46,b,g46L0e,h,Ty.sub_eq,hf]
  |some a=>
   rw[hf]at h;simp[Nf,b]at h;simp[g46,b,g46L0e,h,Ty.sub_eq,hf]
 ·have h:=Wj (s:=s) c.sm (fun x hx=>d x hx (c.cY x hx)) _ 0 rfl (by omega) [] (by simp);rw[g46L1e]at h;simp at h;simp[g46,b,g46L1e,h,Ty.sub_eq]
def aT(sh:Sh):Prop:=∀cs,some cs∈sh->∀v∈cs,∃p,v=AV.pv p
theorem iy{aL ts:aG}:∀{cs:List AV},(∀v∈cs,∃p,v=AV.pv p)->bf aL ts cs=(cs,aL,ts)
 |[],_=>rfl
 |v::r,h=>by
  obtain⟨p,rfl⟩:=h v (by simp);simp only[ur,Bf,iy (cs:=r) (fun v a=>h v (by simp[a]))]
theorem aT.norm:∀{sh:Sh},aT sh->∀aL ts,bl aL ts sh=(sh,aL,ts)
 |[],_,_,_=>rfl
 |none::sh,h,aL,ts=>by
  simp only[oV,aT.norm (sh:=sh) (fun cs a=>h cs (by simp[a]))]
 |some cs::sh,h,aL,ts=>by
  simp only[oW,iy (h cs (by simp)),aT.norm (sh:=sh) (fun cs a=>h cs (by simp[a]))]
theorem qL{n:Nat}:∀{cs:List AV},(∀v∈cs,∃p,v=AV.pv p)->cs.map (cP n)=cs
 |[],_=>rfl
 |v::r,h=>by
  obtain⟨p,rfl⟩:=h v (by simp);simp only[zao,wT,qL (cs:=r) (fun v a=>h v (by simp[a]))]
theorem aT.shift:∀{sh:Sh},aT sh->∀n,eP n sh=sh
 |[],_,_=>rfl
 |none::sh,h,n=>by
  simp only[rT,aT.shift (sh:=sh) (fun cs a=>h cs (by simp[a]))]
 |some cs::sh,h,n=>by
  simp only[rU,qL (h cs (by simp)),aT.shift (sh:=sh) (fun cs a=>h cs (by simp[a]))]
theorem aT.app{a b:Sh}(e:aT a)(d:aT b):aT (a++b):=by
 intro cs c;simp only[zai]at c;rcases c with c|c
 ·exact e cs c
 ·exact d cs c
theorem aT.one{cs:List AV}(h:∀v∈cs,∃p,v=AV.pv p):aT [some cs]:=by
 intro b a;simp at a;subst a;exact h
@[simp] theorem YM{α:Type}{l:List α}{x:α}:(l++[x])[l.length]?=some x:=by simp
def Ty.cl(t:Ty):List AV:=[.pv (vI t.kind),.pv (.str t.name),.pv (vI t.id),.pv (vI t.home),.pv (.aq (t.args.map Ty.pv))]
def Ng:List AV:=[.pv (vI 0),.pv (.str []),.pv (vI 0),.pv (vI 0),.pv (.aq [])]
def cL(d:List Ty)(m:Nat):List AV:=d.flatMap Ty.cl++(List.replicate m Ng).flatten
theorem BY{d:List Ty}:(d.flatMap Ty.cl).length=d.length*5:=by
 induction d with
 |nil=>rfl
 |cons a r b=>simp[b,Ty.cl,zaD]
theorem Qt{m:Nat}:((List.replicate m Ng).flatten).length=m*5:=by
 simp[Ng]
theorem gP{d:List Ty}{m:Nat}:(cL d m).length=(d.length+m)*5:=by
 simp only[cL,zan,BY,Qt,zaD]
theorem pQ{d:List Ty}{m:Nat}{t:Ty}:a0 (cL d (m+1)) (d.length*5) t.cl=cL (d++[t]) m:=by
 have e:cL d (m+1)=d.flatMap Ty.cl++(Ng++(List.replicate m Ng).flatten):=by simp[cL,zbn]
 have hl:(d.flatMap Ty.cl).length=d.length*5:=BY;rw[aS,e,<-hl,List.take_left,zcs,zaX (by omega)];have:(d.flatMap Ty.cl).length+t.cl.length-(d.flatMap Ty.cl).length=5:=by simp[Ty.cl]
 rw[this];simp[cL,Ng]
theorem cZ{d:List Ty}{m:Nat}:∀v∈cL d m,∃p,v=AV.pv p:=by
 intro v a;simp only[cL,zai,zam,zb7,zbD]at a;rcases a with⟨t,_,a⟩|⟨l,⟨_,rfl⟩,a⟩
 ·simp[Ty.cl]at a;rcases a with rfl|rfl|rfl|rfl|rfl<;>exact⟨_,rfl⟩
 ·simp[Ng]at a;rcases a with rfl|rfl|rfl|rfl|rfl<;>exact⟨_,rfl⟩
theorem d5{l:List AV}(h:∀v∈l,∃p,v=.pv p):dE l=false:=by
 cases l with
 |nil=>rfl
 |cons c r=>obtain⟨p,rfl⟩:=h c (by simp);rfl
@[simp] theorem Vg{d:List Ty}{m:Nat}:dE (cL d m)=false:=d5 cZ
theorem Nh{a b:List AV}{x y:List PV}(c:eY a=some x)(e:eY b=some y):eY (a++b)=some (x++y):=by
 induction a generalizing x with
 |nil=>simp at c;subst c;exact e
 |cons v r d=>
  simp only[qF]at c;simp only[za5,qF];cases h1:i5 v with
  |none=>rw[h1]at c;cases c
  |some p=>
   cases h2:eY r with
   |none=>rw[h1,h2]at c;cases c
   |some q=>
    rw[h1,h2]at c;simp at c;subst c;rw[d h2];rfl
theorem m7:∀{d:List Ty},((eY (cL d 0)).bind (gG 5 true d.length)).map PV.aq=some (.aq (d.map Ty.pv)):=by
 have key:∀d:List Ty,∃ps,eY (d.flatMap Ty.cl)=some ps∧(chunk 5 d.length ps).map PV.agg=d.map Ty.pv:=by
  intro d;induction d with
  |nil=>exact⟨[],rfl,rfl⟩
  |cons t r a=>
   obtain⟨ps,h1,h2⟩:=a;refine⟨[vI t.kind,.str t.name,vI t.id,vI t.home,.aq (t.args.map Ty.pv)]++ps,?_,?_⟩
   ·rw[zas];exact Nh (by simp[Ty.cl]) h1
   ·simp only[zax,chunk];simp[h2]
 intro d;obtain⟨ps,h1,h2⟩:=key d;have:cL d 0=d.flatMap Ty.cl:=by simp[cL]
 rw[this,h1];simp only[za3,gG,za0,zaY,h2]
mutual
def Ty.se(f:Ty->Ty):Ty->Ty
 |⟨k,n,i,h,as⟩=>match as with
  |[]=>f ⟨k,n,i,h,[]⟩
  |a::r=>⟨k,n,i,h,a.se f::Ty.Ni f r⟩
def Ty.Ni(f:Ty->Ty):List Ty->List Ty
 |[]=>[]
 |a::r=>a.se f::Ty.Ni f r
end
theorem Ty.BZ(f:Ty->Ty):∀l:List Ty,Ty.Ni f l=l.map (Ty.se f)
 |[]=>by simp[Ty.Ni]
 |a::r=>by simp[Ty.Ni,Ty.BZ f r]
theorem Ty.yU{f:Ty->Ty}{t:Ty}(h:t.args=[]):t.se f=f t:=by
 obtain⟨k,n,i,hm,as⟩:=t;simp at h;subst h;simp[Ty.se]
theorem Ty.uU{f:Ty->Ty}{t:Ty}(h:¬t.args=[]):t.se f=⟨t.kind,t.name,t.id,t.home,t.args.map (Ty.se f)⟩:=by
 obtain⟨k,n,i,hm,as⟩:=t;cases as with
 |nil=>simp at h
 |cons a r=>simp[Ty.se,Ty.BZ]
def Nj(g:Nat)(cap:List AV)(c0:List AV)(f:Ty->Ty):Prop:=∀(sh:Sh)(x:Ty),aT sh->sh[0]?=some (some c0)->x.args=[]->(aC AP).i g (.pv x.pv::cap) sh []=some ([(f x).av],sh,[])
def YN(F:AV)(t:Ty)(f:Ty->Ty)(a:Sh):Option (aR×St):=
 some (.exit 0,⟨[(1,F),(2,.au 2 0),(4,.au 4 0),(5,.bh a.length 5 t.args.length true),(20,.pv (.aq (t.args.map Ty.pv))),(21,.pv (vI t.args.length)),(22,.pv (vI t.args.length)),(23,.pv (.bool false))],
   [(2,t.cl),(4,[.pv (vI 0),.pv (.str []),.pv (vI 0),.pv (vI 0),.own [] 0])],a++[some (cL (t.args.map (Ty.se f)) 0)],[0]⟩)
theorem Zr{g:Nat}{cap:List AV}{c0:List AV}{f:Ty->Ty}{t:Ty}{b:Sh}(o:aT b)(h0:b[0]?=some (some c0))(a:bq.dP cap=true)(c:bJ.iG cap=true)(hS:Sm t.args)
   (h:∀x∈t.args,∀sh,aT sh->sh[0]?=some (some c0)->(aC AP).i 91 [.pv x.pv,.fn g cap] sh []=some ([(x.se f).av],sh,[])):∀(n i:Nat),t.args.length-i=n->i<=t.args.length->∀d:List Ty,d=(t.args.take i).map (Ty.se f)->
   cl AP g91L0 ⟨[(1,.fn g cap),(2,.au 2 0),(4,.au 4 0),(5,.bh b.length 5 t.args.length true),(20,.pv (.aq (t.args.map Ty.pv))),(21,.pv (vI t.args.length)),(22,.pv (vI i))],
     [(2,t.cl),(4,[.pv (vI 0),.pv (.str []),.pv (vI 0),.pv (vI 0),.own [] 0])],b++[some (cL d n)],[0]⟩=YN (.fn g cap) t f b
 |0,i,hn,hi,d,hd=>by
  have:i=t.args.length:=by omega
  subst this;have r:d=t.args.map (Ty.se f):=by simpa using hd
  subst r;have l:=o.app (aT.one (cZ (d:=t.args.map (Ty.se f)) (m:=0)));rw[g91L0e];simp[g91B0,YN,a,l.norm,Ty.cl]
 |n+1,i,hn,hi,d,hd=>by
  have hi:i<t.args.length:=(by omega);obtain⟨x,hx⟩:=aP hi;unfold Sm at hS;have q:d.length=i:=(by rw[hd];simp;omega);have l:=o.app (aT.one (cZ (d:=d) (m:=n+1)))
  have s:(b++[some (cL d (n+1))])[0]?=some (some c0):=by
   rw[zal];exact h0;exact(zaa.1 h0).1
  have u:=h x (aN hx) _ l s;have p:=Zr o h0 a c hS h n (i+1) (by omega) (by omega) (d++[x.se f]) (by rw[zaI,hx,hd];simp);have e:a0 (cL d (n+1)) (i*5) (x.se f).cl=cL (d++[x.se f]) n:=(by rw[<-q];exact pQ);have j:i*5+5<=(cL d (n+1)).length:=(by rw[gP];omega);have k:=o.app (aT.one (cZ (d:=d++[x.se f]) (m:=n)));rw[g91L0e]at p⊢;simp[Ty.cl,a,k.norm]at p e u;simp(disch:=omega)[-getElem?_pos,g91B0,hx,hi,a,c,l.norm,l.shift,Ty.cl,u,e,j,ah];rw[g91L0e];simp[p,a,k.norm]
theorem c91{g:Nat}{cap:List AV}{c0:List AV}{f:Ty->Ty}(hf:Nj g cap c0 f)(b:bq.dP cap=true)(a:bJ.iG cap=true)(l:dS [] 1 cap=cap)(e:∀aL ts,bf aL ts cap=(cap,aL,ts))(o:cap.all bE=true){t:Ty}(n:t.Ok):
   ∀sh,aT sh->sh[0]?=some (some c0)->(aC AP).i 91 [.pv t.pv,.fn g cap] sh []=some ([(t.se f).av],sh,[]):=by
 revert n
 refine Ty.cB (p:=fun t=>t.Ok->∀sh,aT sh->sh[0]?=some (some c0)->(aC AP).i 91 [.pv t.pv,.fn g cap] sh []=some ([(t.se f).av],sh,[])) ?_ t;intro t r n sh c h0;rw[aA g91];by_cases hn:t.args=[]
 ·have h:=hf sh t c h0 hn;simp[hn]at h;simp[g91,hn,b,a,l,e,o,c.norm,c.shift,h,Ty.yU hn]
 ·have hl:¬t.args.length=0:=(by simpa using hn);have hS:=n.sm;have h:=Zr c h0 b a n.sm (fun x hx=>r x hx (n.cY x hx)) t.args.length 0 (by omega) (by omega) [] (by simp);have s:cL [] t.args.length=(List.replicate t.args.length [.pv (vI 0),.pv (.str []),.pv (vI 0),.pv (vI 0),.pv (.aq [])]).flatten:=(by simp[cL,Ng]);have q:=c.app (aT.one (cZ (d:=[]) (m:=t.args.length)));rw[g91L0e]at h;unfold Sm at hS;have b1:(t.args.length:Int)<=9223372036854775807:=(by omega);have v:(t.args.length:Int)*64<=140737488355328:=(by omega);rw[s]at h q;simp[b,q.norm,Ty.cl,YN]at h;have u:=c.app (aT.one (cZ (d:=t.args.map (Ty.se f)) (m:=0)));have k:=m7 (d:=t.args.map (Ty.se f));have j:=gP (d:=t.args.map (Ty.se f)) (m:=0);simp at k j;simp(disch:=omega)[g91,hn,hl,b,a,c.norm,c.shift,b1,v,g91L0e,q.norm,h,Ty.uU hn,k,j]
def me(s:List As)(x:Ty):Ty:=if x.kind=1 then(iH s x.id).getD x else x
theorem Qu{s:List As}{t:Ty}(h:t.Wf):t.se (me s)=t.sub s:=by
 revert h
 refine Ty.cB (p:=fun t=>t.Wf->t.se (me s)=t.sub s) ?_ t;intro t a h;by_cases hn:t.args=[]
 ·rw[Ty.yU hn,Ty.sub_eq];unfold me;split
  ·rfl
  ·cases t;simp at hn;simp[hn]
 ·have b:¬t.kind=1:=fun e=>hn (h.var e);rw[Ty.uU hn,Ty.sub_eq,zad b];congr 1;exact zcE fun x hx=>a x hx (h.cY x hx)
def Wk(s:List As)(t:Ty)(sh:Sh):Option Ty->Option (aR×St)
 |some a=>some (.ret,⟨[(3,.au 3 0)],[(3,a.cl)],sh,[0]⟩)
 |none=>some (.exit 0,⟨[(2,.au 2 0),(3,.au 3 0),(9,.pv (.aq (s.map As.pv))),(10,.pv (vI s.length)),(11,.pv (vI s.length)),(12,.pv (.bool false))],
     [(2,t.cl),(3,[.pv (vI 0),.pv (.str []),.pv (vI 0),.pv (vI 0),.own [] 0])],sh,[0]⟩)
theorem Zs{s:List As}(hS:Sm s)(t:Ty){sh:Sh}(a:aT sh):∀(n i:Nat),s.length-i=n->i<=s.length->
   cl AP g92L0 ⟨[(2,.au 2 0),(3,.au 3 0),(9,.pv (.aq (s.map As.pv))),(10,.pv (vI s.length)),(11,.pv (vI i))],
     [(2,t.cl),(3,[.pv (vI 0),.pv (.str []),.pv (vI 0),.pv (vI 0),.own [] 0])],sh,[0]⟩=Wk s t sh (iH (s.drop i) t.id)
 |0,i,hn,hi=>by
  have:i=s.length:=by omega
  subst this;rw[g92L0e];simp[g92B0,iH,Wk,Ty.cl,a.norm]
 |n+1,i,hn,hi=>by
  have hi:i<s.length:=(by omega);obtain⟨x,hx⟩:=aP hi;unfold Sm at hS;have b:=Zs hS t a n (i+1) (by omega) (by omega);rw[g92L0e]at b;simp[Ty.cl,a.norm]at b;rw[g92L0e,aV hx];by_cases e:x.id=t.id
  ·simp(disch:=omega)[-getElem?_pos,g92B0,hx,hi,e,iH,Wk,Ty.cl,a.norm]
  ·simp(disch:=omega)[-getElem?_pos,g92B0,hx,hi,e,iH,ah,Ty.cl,a.norm];rw[g92L0e];simp[b,a.norm]
theorem c92{s:List As}(hS:Sm s):Nj 92 [.aI 0 0] [.pv (.aq (s.map As.pv))] (me s):=by
 intro sh x b h0 hx;rw[aA g92];by_cases c:x.kind=1
 ·have h:=Zs hS x b _ 0 rfl (by omega);rw[g92L0e]at h;simp[Ty.cl,b.norm]at h;cases hf:iH s x.id with
  |none=>
   rw[hf]at h;simp[Wk,Ty.cl,hx,c]at h;simp[g92,c,h0,g92L0e,b.norm,h,me,hf,hx,b.shift]
  |some a=>
   rw[hf]at h;simp[Wk,Ty.cl,hx,c]at h;simp[g92,c,h0,g92L0e,b.norm,h,me,hf,hx,b.shift]
 ·simp[g92,c,h0,b.norm,me,hx,b.shift]
theorem c45{s:List As}(hS:Sm s){t:Ty}(d:t.Ok)(c:t.Wf):(aC AP).p 45 [t.pv,.aq (s.map As.pv)]=some [(t.sub s).pv]:=by
 have h:=c91 (c92 hS) rfl rfl rfl (fun _ _=>rfl) rfl d [some [.pv (.aq (s.map As.pv))]] (by intro cs b v a;simp at b;subst b;simp at a;exact⟨_,a⟩) rfl;rw[Qu c]at h;simp at h;rw[az g45];simp[g45,h]
theorem c22{s:List As}(hS:Sm s){t:Ty}(a:t.Ok):(aC AP).p 22 [.aq (s.map As.pv),t.pv]=some [(t.sub s).pv]:=by
 have h:=c46 hS a;simp at h;rw[az g22];simp[g22,h]
noncomputable instance:DecidableEq As:=fun _ _=>Classical.propDecidable _
theorem Zt{as bs:List Ty}(hS:Sm as)(hl:as.length=bs.length)(h:∀x∈as,∀y,(aC AP).p 20 [x.pv,y.pv]=some [.bool (decide (x=y))]):∀(n i:Nat),as.length-i=n->i<=as.length->
   cl AP g57L0 ⟨[(0,.pv (.aq (as.map Ty.pv))),(1,.pv (.aq (bs.map Ty.pv))),(5,.pv (.int .i64 i))],[],[],[]⟩=
     if as.drop i=bs.drop i then some (.exit 0,⟨[(0,.pv (.aq (as.map Ty.pv))),(1,.pv (.aq (bs.map Ty.pv))),(5,.pv (.int .i64 as.length)),(14,.pv (.bool false))],[],[],[]⟩)
     else some (.ret,⟨[(4,.pv (.bool false))],[],[],[]⟩)
 |0,i,hn,hi=>by
  have:i=as.length:=by omega
  subst this;rw[g57L0e];simp[g57B0,hl]
 |n+1,i,hn,hi=>by
  have hi:i<as.length:=(by omega);obtain⟨x,hx⟩:=aP hi;obtain⟨y,hy⟩:=aP (hl ▸ hi);have b:=h x (aN hx) y;simp at b;rw[g57L0e,aV hx,aV hy];unfold Sm at hS;have a:=Zt hS hl h n (i+1) (by omega) (by omega);simp at a;simp(disch:=omega)[-getElem?_pos,g57B0,hx,hy,hi,b,ah,a];by_cases e:x=y<;>simp[e]
theorem c57{as bs:List Ty}(hS:Sm as)(h:∀x∈as,∀y,(aC AP).p 20 [x.pv,y.pv]=some [.bool (decide (x=y))]):
   (aC AP).p 57 [.aq (as.map Ty.pv),.aq (bs.map Ty.pv)]=some [.bool (decide (as=bs))]:=by
 rw[az g57];by_cases hl:as.length=bs.length
 ·have a:=Zt hS hl h _ 0 rfl (by omega);simp at a;simp[g57,hl,a];by_cases e:as=bs<;>simp[e]
 ·have:¬as=bs:=fun e=>hl (by rw[e]);simp[g57,hl,this];omega
theorem c20{a b:Ty}(c:a.Ok):(aC AP).p 20 [a.pv,b.pv]=some [.bool (decide (a=b))]:=by
 revert b c
 refine Ty.cB (p:=fun a=>∀{b:Ty},a.Ok->(aC AP).p 20 [a.pv,b.pv]=some [.bool (decide (a=b))]) ?_ a;intro a d b c;have h:=c57 (bs:=b.args) c.sm (fun x hx y=>d x hx (c.cY x hx));rw[az g20];simp[g20,h];cases a;cases b;simp
 (repeat' split)<;>simp_all
def je(a b:Int):Int:=if a<b then -1 else if b<a then 1 else 0
def uV(a b:List UInt8):Int:=if cG.ep a b=true then -1 else if a=b then 0 else 1
def CN:List Int->Int
 |[]=>0
 |x::r=>if x=0 then CN r else x
mutual
def n_:Ty->Ty->Int
 |⟨k,n,i,h,as⟩,b=>if CN [je k b.kind,uV n b.name,je i b.id,je h b.home,je as.length b.args.length]=0 then pR as b.args
     else CN [je k b.kind,uV n b.name,je i b.id,je h b.home,je as.length b.args.length]
def pR:List Ty->List Ty->Int
 |[],[]=>0
 |[],_::_=>-1
 |_::_,[]=>1
 |a::r,b::s=>if n_ a b=0 then pR r s else n_ a b
end
def yV(a b:Ty):Int:=CN [je a.kind b.kind,uV a.name b.name,je a.id b.id,je a.home b.home,je a.args.length b.args.length]
theorem yW(a b:Ty):n_ a b=if yV a b=0 then pR a.args b.args else yV a b:=by
 cases a;simp only[n_,yV];rfl
theorem c113{n:Int}:(aC AP).p 113 [vI n]=some [.bool false]:=by
 rw[az g113];simp[g113]
theorem c114{n:List UInt8}:(aC AP).p 114 [.str n]=some [.bool false]:=by
 rw[az g114];simp[g114]
theorem c81{a b:Int}:(aC AP).p 81 [vI a,vI b]=some [vI (je a b)]:=by
 have h1:=c113 (n:=a);have h2:=c113 (n:=b);rw[az g81];simp[g81,h1,h2,je]
 (repeat' split)<;>rfl
theorem c82{a b:List UInt8}:(aC AP).p 82 [.str a,.str b]=some [vI (uV a b)]:=by
 have h1:=c114 (n:=a);have h2:=c114 (n:=b);rw[az g82];by_cases e1:cG.ep a b=true
 ·simp[g82,h1,h2,uV,e1]
 ·have e1:cG.ep a b=false:=(by simpa using e1);by_cases e2:a=b
  ·subst e2;simp[g82,h1,h2,uV,e1]
  ·simp[g82,h1,h2,uV,e1,e2]
theorem c80{a b c d e:Int}:(aC AP).p 80 [.aq [vI a,vI b,vI c,vI d,vI e]]=some [vI (CN [a,b,c,d,e])]:=by
 rw[az g80];by_cases h1:a=0
 ·by_cases h2:b=0
  ·by_cases h3:c=0
   ·by_cases h4:d=0
    ·by_cases h5:e=0
     ·simp(disch:=omega)[-getElem?_pos,g80,g80L0e,g80B0,ah,CN,h1,h2,h3,h4,h5]
     ·simp(disch:=omega)[-getElem?_pos,g80,g80L0e,g80B0,ah,CN,h1,h2,h3,h4,h5]
    ·simp(disch:=omega)[-getElem?_pos,g80,g80L0e,g80B0,ah,CN,h1,h2,h3,h4]
   ·simp(disch:=omega)[-getElem?_pos,g80,g80L0e,g80B0,ah,CN,h1,h2,h3]
  ·simp(disch:=omega)[-getElem?_pos,g80,g80L0e,g80B0,ah,CN,h1,h2]
 ·simp(disch:=omega)[-getElem?_pos,g80,g80L0e,g80B0,ah,CN,h1]
def Wl(as bs:List Ty)(sh:Sh)(l:Int)(c:Int)(eq:Bool):Option (aR×St):=
 if eq=true then some (.exit 0,⟨[(0,.pv (.aq (as.map Ty.pv))),(1,.pv (.aq (bs.map Ty.pv))),(2,.fn 35 []),(11,.pv (.aq (as.map Ty.pv))),(12,.pv (vI l)),(13,.pv (vI l)),(14,.pv (.bool false))],[],sh,[]⟩)
 else some (.ret,⟨[(6,.pv (vI c))],[],sh,[]⟩)
theorem Zu{as bs:List Ty}(hS:Sm as)(hl:as.length=bs.length)(h:∀x∈as,∀y,(aC AP).i 35 [.pv x.pv,.pv y.pv] [] []=some ([.pv (vI (n_ x y))],[],[])):∀(n i:Nat),as.length-i=n->i<=as.length->
   cl AP g83L0 ⟨[(0,.pv (.aq (as.map Ty.pv))),(1,.pv (.aq (bs.map Ty.pv))),(2,.fn 35 []),(11,.pv (.aq (as.map Ty.pv))),(12,.pv (vI as.length)),(13,.pv (vI i))],[],[],[]⟩=
     Wl as bs [] as.length (pR (as.drop i) (bs.drop i)) (decide (pR (as.drop i) (bs.drop i)=0))
 |0,i,hn,hi=>by
  have:i=as.length:=by omega
  subst this;rw[g83L0e,BW (l:=bs) (by omega)];simp[g83B0,Wl,pR]
 |n+1,i,hn,hi=>by
  have hi:i<as.length:=(by omega);obtain⟨x,hx⟩:=aP hi;obtain⟨y,hy⟩:=aP (hl ▸ hi);have a:=h x (aN hx) y;have b:=Zu hS hl h n (i+1) (by omega) (by omega);unfold Sm at hS;have c:¬bs.length<=i:=(by omega);rw[g83L0e]at b⊢;rw[aV hx,aV hy];simp at b a;by_cases e:n_ x y=0
  ·rw[e]at a;simp(disch:=omega)[-getElem?_pos,g83B0,hx,hy,hi,c,a,ah];rw[g83L0e];simp[b,pR,e]
  ·simp(disch:=omega)[-getElem?_pos,g83B0,hx,hy,hi,c,a,ah,e,Wl,pR]
theorem Nk{a b:Ty}(h:yV a b=0):a.args.length=b.args.length:=by
 simp only[yV,CN]at h
 have:je a.args.length b.args.length=0:=by
  split at h
  ·split at h
   ·split at h
    ·split at h
     ·split at h
      ·assumption
      ·contradiction
     ·contradiction
    ·contradiction
   ·contradiction
  ·contradiction
 unfold je at this;split at this
 ·cases this
 ·split at this
  ·cases this
  ·omega
theorem c35_both{a:Ty}(o:a.Ok):∀b:Ty,(aC AP).p 35 [a.pv,b.pv]=some [vI (n_ a b)]∧(aC AP).i 35 [.pv a.pv,.pv b.pv] [] []=some ([.pv (vI (n_ a b))],[],[]):=by
 revert o
 refine Ty.cB (p:=fun a=>a.Ok->∀b:Ty,(aC AP).p 35 [a.pv,b.pv]=some [vI (n_ a b)]∧(aC AP).i 35 [.pv a.pv,.pv b.pv] [] []=some ([.pv (vI (n_ a b))],[],[])) ?_ a;intro a r o b;have n:=c81 (a:=a.kind) (b:=b.kind);have m:=c82 (a:=a.name) (b:=b.name);have l:=c81 (a:=a.id) (b:=b.id);have k:=c81 (a:=a.home) (b:=b.home);have j:=c81 (a:=a.args.length) (b:=b.args.length);have f:=c80 (a:=je a.kind b.kind) (b:=uV a.name b.name) (c:=je a.id b.id) (d:=je a.home b.home) (e:=je a.args.length b.args.length);have s:CN [je a.kind b.kind,uV a.name b.name,je a.id b.id,je a.home b.home,je a.args.length b.args.length]=yV a b:=rfl;rw[s]at f;have hS:=o.sm;by_cases e:yV a b=0
 ·have hl:=Nk e;have h:=Zu hS hl (fun x hx y=>(r x hx (o.cY x hx) y).2) _ 0 rfl (by omega);rw[g83L0e]at h;simp at h
  have g:(aC AP).i 83 [.pv (.aq (a.args.map Ty.pv)),.pv (.aq (b.args.map Ty.pv)),.fn 35 []] [] []=some ([.pv (vI (pR a.args b.args))],[],[]):=by
   rw[aA g83];by_cases e2:pR a.args b.args=0
   ·simp[Wl,e2]at h;have q:¬a.args.length<b.args.length:=by omega
    simp[g83,g83L0e,h,q,e2]
   ·simp[Wl,e2]at h;simp[g83,g83L0e,h]
  rw[e]at f;rw[yW,zak e];constructor
  ·rw[az g35];simp[g35,n,m,l,k,j,f,g]
  ·rw[aA g35];simp[g35,n,m,l,k,j,f,g]
 ·rw[yW,zad e];constructor
  ·rw[az g35];simp[g35,n,m,l,k,j,f,e]
  ·rw[aA g35];simp[g35,n,m,l,k,j,f,e]
theorem c35{a b:Ty}(c:a.Ok):(aC AP).p 35 [a.pv,b.pv]=some [vI (n_ a b)]:=(c35_both c b).1
theorem c33{a b:Ty}(c:a.Ok):(aC AP).p 33 [a.pv,b.pv]=some [.bool (n_ a b == 0)]:=by
 have h:=c35 (b:=b) c;simp at h;rw[az g33];simp[g33,h]
theorem fJ:∀{s:List As}{id:Int}{t:Ty},iH s id=some t->∃a∈s,a.ty=t
 |a::r,id,t,h=>by
  simp only[iH]at h;split at h
  ·cases h;exact⟨a,by simp,rfl⟩
  ·obtain⟨b,c,e⟩:=fJ h;exact⟨b,by simp[c],e⟩
theorem uW{s:List As}(hs:∀a∈s,a.ty.Ok){t:Ty}(h:t.Ok):(t.sub s).Ok:=by
 revert h
 refine Ty.cB (p:=fun t=>t.Ok->(t.sub s).Ok) ?_ t;intro t c h;rw[Ty.sub_eq];split
 ·cases hf:iH s t.id with
  |none=>simpa using h
  |some a=>obtain⟨b,d,rfl⟩:=fJ hf;simpa using hs b d
 ·refine⟨by have:=h.sm;unfold Sm at*;simpa using this,?_⟩;intro x hx;simp at hx;obtain⟨y,hy,rfl⟩:=hx;exact c y hy (h.cY y hy)
theorem yX:∀{a b:List As}{id:Int},iH (a++b) id=(iH a id).or (iH b id)
 |[],b,id=>by simp[iH]
 |x::a,b,id=>by
  simp only[za5,iH];split
  ·rfl
  ·exact yX
theorem sf:∀s:List UInt8,cG.ep s s=false
 |[]=>rfl
 |a::r=>by simp[cG.ep,sf r]
theorem Ky{a b:Int}:je a b=0<->a=b:=by
 unfold je;split
 ·constructor
  ·intro h;cases h
  ·intro h;omega
 ·split
  ·constructor
   ·intro h;cases h
   ·intro h;omega
  ·constructor
   ·intro _;omega
   ·intro _;rfl
theorem Kz{a b:List UInt8}:uV a b=0<->a=b:=by
 unfold uV;split
 ·rename_i h;constructor
  ·intro e;cases e
  ·intro e;subst e;rw[sf]at h;cases h
 ·split
  ·rename_i h;simp[h]
  ·rename_i h;simp[h]
theorem B0:∀{l:List Int},CN l=0<->∀x∈l,x=0
 |[]=>by simp[CN]
 |x::r=>by
  simp only[CN];split
  ·rename_i h;rw[B0];simp[h]
  ·rename_i h;constructor
   ·intro e;exact absurd e h
   ·intro e;exact e x (by simp)
theorem w8{a b:Ty}:yV a b=0<->a.kind=b.kind∧a.name=b.name∧a.id=b.id∧a.home=b.home∧a.args.length=b.args.length:=by
 unfold yV;rw[B0];simp[Ky,Kz]
 intros;omega
theorem w9(a:Ty):∀b,n_ a b=0<->a=b:=by
 refine Ty.cB (p:=fun a=>∀b,n_ a b=0<->a=b) ?_ a;intro a d b
 have key:∀(as bs:List Ty),(∀x∈as,∀b,n_ x b=0<->x=b)->(pR as bs=0<->as=bs):=by
  intro as;induction as with
  |nil=>intro bs _;cases bs<;>simp[pR]
  |cons x r d=>
   intro bs h;cases bs with
   |nil=>simp[pR]
   |cons y s=>
    simp only[pR];have hx:=h x (by simp) y;have hr:=d s (fun z f=>h z (by simp[f]));split
    ·rename_i e;rw[hr];simp[hx.1 e]
    ·rename_i e;constructor
     ·intro c;exact absurd c e
     ·intro c;simp at c;exact absurd (hx.2 c.1) e
 rw[yW];split
 ·rename_i h;rw[key _ _ d];rw[w8]at h;cases a;cases b;simp at h⊢;simp[h]
 ·rename_i h;constructor
  ·intro e;exact absurd e h
  ·intro e;subst e;exact absurd (w8.2 ⟨rfl,rfl,rfl,rfl,rfl⟩) h
theorem uX(a b:Ty):(n_ a b == 0)=decide (a=b):=by
 by_cases h:a=b
 ·rw[zaG h,(w9 a b).2 h];rfl
 ·rw[zaC h];simpa using fun e=>h ((w9 a b).1 e)
theorem c33e{a b:Ty}(c:a.Ok):(aC AP).p 33 [a.pv,b.pv]=some [.bool (decide (a=b))]:=by rw[c33 c,uX]
def bA{α:Type}(p:α->Bool):List α->Option Nat
 |[]=>none
 |a::r=>if p a=true then some 0 else(bA p r).map (·+1)
theorem jJ{α:Type}{p:α->Bool}:∀{l:List α},bA p l=none<->∀x∈l,p x=false
 |[]=>by simp[bA]
 |a::r=>by
  simp only[bA];by_cases h:p a=true
  ·simp[h]
  ·have h:p a=false:=(by simpa using h);simp[h,jJ]
theorem s_{α:Type}{p:α->Bool}{l:List α}:(!(l.any fun x=>!p x))=l.all p:=by
 induction l with
 |nil=>rfl
 |cons a r b=>simp[<-b]
structure El{α:Type}(f:α->PV)(sz:Nat)(ag:Bool):Prop where
 len:∀x,(a9 (f x)).length=sz
 of:∀x,cH ag sz (a9 (f x))=some (.pv (f x))
theorem El.head{α:Type}{f:α->PV}{sz:Nat}{ag:Bool}(h:El f sz ag)(l:List α):a7 sz (l.map f)=true:=by
 cases l with
 |nil=>rfl
 |cons x r=>simp[a7,h.len x]
theorem eV:El vI 1 false:=⟨fun _=>rfl,fun _=>rfl⟩
theorem FT:El PV.str 1 false:=⟨fun _=>rfl,fun _=>rfl⟩
theorem jw:El Ty.pv 5 true:=⟨fun x=>by simp,fun x=>by simp⟩
theorem Wm:El As.pv 6 true:=⟨fun x=>by simp,fun x=>by simp⟩
theorem Wn:El Dt.pv 4 true:=⟨fun x=>by simp,fun x=>by simp⟩
def yY(sz:Nat)(ag:Bool):ae:=
 (.seq
  (.jt [⟨some 9,none,[.t 8,.t 7],.v (.bin .lss)⟩] [0,1,7,8,9])
  (.seq
   (.cond (.t 9)
    .skip
    (.exit 0))
   (.seq
    (.block 1
     (.seq
      (.jt [⟨some 10,none,[.t 8],.v (.mv)⟩,
        ⟨some 5,none,[.t 10],.v (.mv)⟩] [0,1,5,7,8])
      (.seq
       (.jt [⟨some 11,none,[.t 1],.v (.mv)⟩,
         ⟨some 12,none,[.t 0],.v (.mv)⟩,
         ⟨some 13,none,[.t 5],.v (.mv)⟩,
         ⟨some 14,none,[.t 12,.t 13],.v (.eX sz)⟩,
         ⟨some 15,none,[.t 14],.dH sz ag⟩,
         ⟨some 16,none,[.t 11,.t 15],.gD⟩] [0,1,5,7,8,16])
       (.cond (.t 16)
        (.seq
         (.jt [⟨some 17,none,[.t 5],.v (.mv)⟩,
           ⟨some 4,none,[.t 17],.v (.mv)⟩] [4])
         .ret)
        .skip))))
    (.jt [⟨some 18,none,[.t 8,.c (.pv (.int .i64 1))],.v (.bin .add)⟩,
      ⟨some 8,none,[.t 18],.v (.mv)⟩] [0,1,7,8]))))
def Nl(sz:Nat)(ag:Bool):ae:=.loop [0,1,7,8] (yY sz ag)
theorem pS{sz:Nat}{ag:Bool}{st:St}:cl AP (Nl sz ag) st=after (cl AP (Nl sz ag)) (cl AP (yY sz ag) (norm (restrict [0,1,7,8] st))):=s6
def sP(sz:Nat)(ag:Bool):aw:=⟨2,19,[.t 4],
 (.seq
  (.jt [⟨some 4,none,[.c (.pv (.int .i64 0))],.v (.mv)⟩] [0,1])
  (.seq
   (.seq
    (.jt [⟨some 6,none,[.t 0],.v (.mv)⟩,
      ⟨some 7,none,[.t 6],.v (.len)⟩,
      ⟨some 8,none,[.c (.pv (.int .i64 0))],.v (.mv)⟩] [0,1,7,8])
    (.block 0
     (Nl sz ag)))
   (.seq
    (.jt [⟨some 4,none,[.c (.pv (.int .i64 (-1)))],.v (.mv)⟩] [4])
    .ret))),none,false⟩
def T7(g:Nat):aw:=⟨2,9,[.t 4],
 (.seq
  (.jt [⟨some 4,none,[.c (.pv (.bool false))],.v (.mv)⟩] [0,1])
  (.seq
   (.jt [⟨some 5,none,[.t 0],.v (.mv)⟩,
     ⟨some 6,none,[.t 1],.v (.mv)⟩,
     ⟨some 7,none,[.t 5,.t 6],.aY g []⟩,
     ⟨some 8,none,[.t 7,.c (.pv (.int .i64 0))],.v (.bin .geq)⟩,
     ⟨some 4,none,[.t 8],.v (.mv)⟩] [4])
   .ret)),none,false⟩
def FU{α:Type}(F:AV)(sh:Sh)(f:α->PV)(p:α->Bool)(s:List α):Prop:=∀x∈s,exec (aC AP) .gD [F,.pv (f x)] none sh []=some ⟨.pv (.bool (p x)),none,sh,[]⟩
def KA{α:Type}(f:α->PV)(F:AV)(s:List α)(sh:Sh)(i:Nat):Option Nat->Option (aR×St)
 |some k=>some (.ret,⟨[(4,.pv (vI (i+k:Nat)))],[],sh,[]⟩)
 |none=>some (.exit 0,⟨[(0,.pv (.aq (s.map f))),(1,F),(7,.pv (vI s.length)),(8,.pv (vI s.length)),(9,.pv (.bool false))],[],sh,[]⟩)
theorem Wo{α:Type}{f:α->PV}{sz:Nat}{ag:Bool}(b:El f sz ag){s:List α}(hS:Sm s){sh:Sh}(c:aT sh){g:Nat}{cap:List AV}{p:α->Bool}(a:bq.dP cap=true)
   (hf:FU (.fn g cap) sh f p s):∀(n i:Nat),s.length-i=n->i<=s.length->
   cl AP (Nl sz ag) ⟨[(0,.pv (.aq (s.map f))),(1,.fn g cap),(7,.pv (vI s.length)),(8,.pv (vI i))],[],sh,[]⟩=KA f (.fn g cap) s sh i (bA p (s.drop i))
 |0,i,hn,hi=>by
  have:i=s.length:=by omega
  subst this;rw[pS];simp[yY,bA,KA,c.norm,a]
 |n+1,i,hn,hi=>by
  have hi:i<s.length:=(by omega);obtain⟨x,hx⟩:=aP hi;unfold Sm at hS;have h:=Wo b hS c a hf n (i+1) (by omega) (by omega);simp at h;have d:=hf x (aN hx);rw[pS,aV hx];cases e:p x with
  |true=>
   rw[e]at d;simp(disch:=omega)[-getElem?_pos,-eT,yY,hx,hi,e,bA,KA,c.norm,d,a,b.len,b.of]
  |false=>
   rw[e]at d;simp(disch:=omega)[-getElem?_pos,-eT,yY,hx,hi,e,bA,ah,c.norm,d,h,a,b.len,b.of];cases bA p (s.drop (i+1))with
   |none=>rfl
   |some k=>simp[KA];omega
def lA(o:Option Nat):Int:=match o with|some k=>k|none=>-1
theorem Wp{α:Type}{f:α->PV}{sz:Nat}{ag:Bool}(d:El f sz ag){k:Nat}(c:AP k=some (sP sz ag)){s:List α}(hS:Sm s){sh:Sh}(b:aT sh){g:Nat}{cap:List AV}{p:α->Bool}(a:bq.dP cap=true)
   (hf:FU (.fn g cap) sh f p s):(aC AP).i k [.pv (.aq (s.map f)),.fn g cap] sh []=some ([.pv (vI (lA (bA p s)))],sh,[]):=by
 have h:=Wo d hS b a hf _ 0 rfl (by omega);simp at h;rw[eU c (by simp[sP])];cases hi:bA p s with
 |none=>rw[hi]at h;simp[KA]at h;simp[sP,h,b.norm,a,lA]
 |some k=>rw[hi]at h;simp[KA]at h;simp[sP,h,b.norm,a,lA]
theorem uY{α:Type}{p:α->Bool}{s:List α}:decide (0<=lA (bA p s))=s.any p:=by
 cases hi:bA p s with
 |none=>
  have:s.any p=false:=by rw[zbl];intro x hx;rw[jJ.1 hi x hx];simp
  rw[this];rfl
 |some k=>
  have:s.any p=true:=by
   cases e:s.any p with
   |true=>rfl
   |false=>rw[zbl]at e;have:=jJ.2 (fun x hx=>by simpa using e x hx);rw[hi]at this;cases this
  rw[this];simp[lA]
theorem Qv{α:Type}{f:α->PV}{sz:Nat}{ag:Bool}(j:El f sz ag){m k:Nat}(hm:AP m=some (T7 k))(e:AP k=some (sP sz ag)){s:List α}(hS:Sm s){sh:Sh}(d:aT sh){g:Nat}{cap:List AV}{p:α->Bool}(a:bq.dP cap=true)(b:bJ.iG cap=true)(c:∀aL ts,bf aL ts cap=(cap,aL,ts))
   (hf:FU (.fn g cap) sh f p s):(aC AP).i m [.pv (.aq (s.map f)),.fn g cap] sh []=some ([.pv (.bool (s.any p))],sh,[]):=by
 have h:=Wp j e hS d a hf;rw[eU hm (by simp[T7])];rw[<-uY];simp[T7,h,d.norm,d.shift,a,b,c]
def FV(f:St->Option (aR×St))(live:List Nat)(pi px sz:Nat)(ag:Bool)(env:List (Nat×AV))(r:List (PV×Nat)):Option (aR×St)->Option (aR×St)
 |some (.normal,a)=>hU f live pi px sz ag env r a
 |some (e,a)=>some (e,{a with env:=env})
 |none=>none
@[simp] theorem Pb{f:St->Option (aR×St)}{live:List Nat}{pi px sz:Nat}{ag:Bool}{env:List (Nat×AV)}{r:List (PV×Nat)}{st:St}:FV f live pi px sz ag env r (some (.normal,st))=hU f live pi px sz ag env r st:=rfl
@[simp] theorem T8{f:St->Option (aR×St)}{live:List Nat}{pi px sz:Nat}{ag:Bool}{env e:List (Nat×AV)}{r:List (PV×Nat)}{mem:List (Nat×List AV)}{sh:Sh}{aa:aG}:FV f live pi px sz ag env r (some (.ret,⟨e,mem,sh,aa⟩))=some (.ret,⟨env,mem,sh,aa⟩):=rfl
@[simp] theorem Vh{f:St->Option (aR×St)}{live:List Nat}{pi px sz:Nat}{ag:Bool}{env e:List (Nat×AV)}{mem:List (Nat×List AV)}{sh:Sh}{aa:aG}:hU f live pi px sz ag env [] ⟨e,mem,sh,aa⟩=some (.normal,⟨env,mem,sh,aa⟩):=rfl
theorem uZ{α:Type}{g:α->PV}{f:St->Option (aR×St)}{live:List Nat}{pi px sz:Nat}{ag:Bool}(a:El g sz ag){env e:List (Nat×AV)}{mem:List (Nat×List AV)}{sh:Sh}{aa:aG}{x:α}{i:Nat}{r:List (PV×Nat)}:
   hU f live pi px sz ag env ((g x,i)::r) ⟨e,mem,sh,aa⟩=FV f live pi px sz ag env r (f (norm (restrict live ⟨cN (cN env pi (.pv (.int .i64 i))) px (.pv (g x)),mem,sh,aa⟩))):=by
 have h:sK sz ag (g x)=some (.pv (g x)):=by simp[sK,a.len,a.of]
 simp only[hU,h];generalize f (norm (restrict live ⟨cN (cN env pi (.pv (.int .i64 i))) px (.pv (g x)),mem,sh,aa⟩))=q;cases q with
 |none=>rfl
 |some q=>obtain⟨e,s⟩:=q;cases e<;>rfl
def T9(g:St->Option (aR×St)):Option (aR×St)->Option (aR×St)
 |some (.normal,a)=>g a
 |_=>none
theorem o6{f g:St->Option (aR×St)}{st:St}:andThen f g st=T9 g (f st):=by
 unfold andThen T9;cases f st with
 |none=>rfl
 |some q=>obtain⟨e,s⟩:=q;cases e<;>rfl
@[simp] theorem RL{g:St->Option (aR×St)}{st:St}:T9 g (some (.normal,st))=g st:=rfl
theorem sg{f:St->Option (aR×St)}{gb s pi px sz:Nat}{ag:Bool}{live:List Nat}{env:List (Nat×AV)}{mem:List (Nat×List AV)}{sh:Sh}{aa:aG}{l:List PV}(h:sh[s]?=some (some [.pv (.aq l)]))(hl:l.length<4611686018427387904):
   e8 f (some (.fn gb [.aI s 0])) gb pi px sz ag live ⟨env,mem,sh,aa⟩=hU f live pi px sz ag (ir live env) l.zipIdx.reverse ⟨env,mem,kill sh [s],aa⟩:=by
 unfold e8;simp only[za0,h,hl]
theorem Nn{α:Type}{l:List α}{k:Nat}{x:α}(h:l[k]?=some x):(l.take (k+1)).zipIdx.reverse=(x,k)::(l.take k).zipIdx.reverse:=by
 have a:=(zaa.1 h).1;rw[zaI,h];simp[List.zipIdx_append];omega
@[simp] theorem Wq{c:eM}{gb pi px sz:Nat}{ag:Bool}{live:List Nat}{x y:ae}{env:List (Nat×AV)}{mem:List (Nat×List AV)}{sh:Sh}{aa:aG}:
   cl AP (.back c gb pi px sz ag live x y) ⟨env,mem,sh,aa⟩=e8 (andThen (cl AP x) (cl AP y)) (g_ env c) gb pi px sz ag live ⟨env,mem,sh,aa⟩:=Pz
abbrev vC(c:Int):PV:=.int .u8 c
def B1(c:Int):Bool:=decide (97<=c) && decide (c<=122)
def KB(c:Int):Bool:=decide (65<=c) && decide (c<=90)
def GS(c:Int):Bool:=decide (48<=c) && decide (c<=57)
def pT(c:Int):Bool:=B1 c || KB c || GS c || (c == 95)
def jo(s:List UInt8):Bool:=s.all fun b=>pT b.toNat
def w_:List (List UInt8):=[[100,97,116,97],[108,101,116],[114,101,99],[105,110],[99,97,115,101],[111,102],[101,110,100]]
def mf(s:List UInt8):Bool:=w_.contains s
def eJ(s:List UInt8)(lo hi:Int):Bool:=match s with
 |[]=>false
 |b::r=>decide (lo<=b.toNat) && decide ((b.toNat:Int)<=hi) && decide ((b::r).length<=12) && jo (b::r) && !mf (b::r)
theorem c109{c:Int}:(aC AP).p 109 [vC c]=some [.bool (B1 c)]:=by
 rw[az g109];by_cases h:97<=c<;>simp[g109,B1,h]
theorem c111{c:Int}:(aC AP).p 111 [vC c]=some [.bool (KB c)]:=by
 rw[az g111];by_cases h:65<=c<;>simp[g111,KB,h]
theorem c124{c:Int}:(aC AP).p 124 [vC c]=some [.bool (GS c)]:=by
 rw[az g124];by_cases h:48<=c<;>simp[g124,GS,h]
theorem c117{c:Int}:(aC AP).p 117 [vC c]=some [.bool (pT c)]:=by
 have h1:=c109 (c:=c);have h2:=c111 (c:=c);have h3:=c124 (c:=c);rw[az g117];cases e1:B1 c
 ·cases e2:KB c
  ·cases e3:GS c
   ·simp[e1,e2,e3]at h1 h2 h3;simp[g117,h1,h2,h3,pT,e1,e2,e3]
   ·simp[e1,e2,e3]at h1 h2 h3;simp[g117,h1,h2,h3,pT,e1,e2,e3]
  ·simp[e1,e2]at h1 h2;simp[g117,h1,h2,pT,e1,e2]
 ·simp[e1]at h1;simp[g117,h1,pT,e1]
theorem sj{b:UInt8}{r:List UInt8}:jo (b::r)=(pT b.toNat && jo r):=rfl
theorem mh:jo []=true:=rfl
theorem Wr{s:List UInt8}(hS:mE s):∀(n i:Nat),s.length-i=n->i<=s.length->
   cl AP g108L0 ⟨[(0,.pv (.str s)),(3,.pv (vI i))],[],[],[]⟩=
     if jo (s.drop i)=true then some (.exit 0,⟨[(0,.pv (.str s)),(3,.pv (vI s.length)),(7,.pv (.bool false))],[],[],[]⟩)
     else some (.ret,⟨[(2,.pv (.bool false))],[],[],[]⟩)
 |0,i,hn,hi=>by
  have:i=s.length:=by omega
  subst this;rw[g108L0e];simp[g108B0,mh]
 |n+1,i,hn,hi=>by
  have hi:i<s.length:=(by omega);obtain⟨x,hx⟩:=aP hi;unfold mE at hS;have b:=Wr hS n (i+1) (by omega) (by omega);simp at b;have a:=c117 (c:=x.toNat);rw[g108L0e,aV hx,sj];cases e:pT x.toNat
  ·rw[e]at a;simp(disch:=omega)[-getElem?_pos,g108B0,hx,hi,a,e]
  ·rw[e]at a;simp(disch:=omega)[-getElem?_pos,g108B0,hx,hi,a,e,ah,b]
theorem c108{s:List UInt8}(hS:mE s):(aC AP).p 108 [.str s]=some [.bool (jo s && !(s == []))]:=by
 have h:=Wr hS _ 0 rfl (by omega);simp at h;rw[az g108];cases e:jo s<;>simp[e]at h<;>simp[g108,h]
theorem c110{s:List UInt8}:(aC AP).p 110 [.str s]=some [.bool (mf s)]:=by
 rw[az g110];by_cases h1:s=[100,97,116,97]
 ·subst h1;simp(disch:=omega)[-getElem?_pos,g110,g110L0e,g110B0,ah,mf,w_]
 ·by_cases h2:s=[108,101,116]
  ·subst h2;simp(disch:=omega)[-getElem?_pos,g110,g110L0e,g110B0,ah,mf,w_]
  ·by_cases h3:s=[114,101,99]
   ·subst h3;simp(disch:=omega)[-getElem?_pos,g110,g110L0e,g110B0,ah,mf,w_]
   ·by_cases h4:s=[105,110]
    ·subst h4;simp(disch:=omega)[-getElem?_pos,g110,g110L0e,g110B0,ah,mf,w_]
    ·by_cases h5:s=[99,97,115,101]
     ·subst h5;simp(disch:=omega)[-getElem?_pos,g110,g110L0e,g110B0,ah,mf,w_]
     ·by_cases h6:s=[111,102]
      ·subst h6;simp(disch:=omega)[-getElem?_pos,g110,g110L0e,g110B0,ah,mf,w_]
      ·by_cases h7:s=[101,110,100]
       ·subst h7;simp(disch:=omega)[-getElem?_pos,g110,g110L0e,g110B0,ah,mf,w_]
       ·have f1:=zbK h1;have f2:=zbK h2;have f3:=zbK h3;have b:=zbK h4;have f5:=zbK h5;have a:=zbK h6;have f7:=zbK h7;simp(disch:=omega)[-getElem?_pos,g110,g110L0e,g110B0,ah,mf,w_,h1,h2,h3,h4,h5,h6,h7,f1,f2,f3,b,f5,a,f7]
theorem c77{s:List UInt8}(hS:mE s):(aC AP).p 77 [.str s]=some [.bool (eJ s 97 122)]:=by
 have h1:=c108 hS;have h3:=c110 (s:=s);rw[az g77];cases s with
 |nil=>simp[mh]at h1;simp[g77,h1,eJ]
 |cons b r=>
  have h2:=c109 (c:=b.toNat);cases e1:jo (b::r)
  ·simp[e1]at h1;simp[g77,h1,eJ,e1]
  ·simp[e1]at h1;cases e2:B1 b.toNat
   ·rw[e2]at h2;have:(decide ((97:Int)<=b.toNat) && decide ((b.toNat:Int)<=122))=false:=e2;simp[g77,h1,h2,eJ,this]
   ·rw[e2]at h2;have:(decide ((97:Int)<=b.toNat) && decide ((b.toNat:Int)<=122))=true:=e2;by_cases e3:(b::r).length<=12
    ·have d:(r.length:Int)+1<=12:=(by simp at e3;omega);have a:r.length+1<=12:=(by simpa using e3);cases e4:mf (b::r)<;>simp[e4]at h3<;>simp[g77,h1,h2,h3,d,a,e4,eJ,this,e1]
    ·have d:¬((r.length:Int)+1<=12):=(by simp at e3;omega);have a:¬(r.length+1<=12):=(by simpa using e3);simp[g77,h1,h2,d,a,eJ,this,e1]
theorem T_{b:UInt8}{r:List UInt8}(h:mf (b::r)=true):KB b.toNat=false:=by
 simp only[mf,w_,zb6,zah,List.not_mem_nil,or_false,zbm]at h;rcases h with⟨rfl,_⟩|⟨rfl,_⟩|⟨rfl,_⟩|⟨rfl,_⟩|⟨rfl,_⟩|⟨rfl,_⟩|⟨rfl,_⟩<;>rfl
theorem c78{s:List UInt8}(hS:mE s):(aC AP).p 78 [.str s]=some [.bool (eJ s 65 90)]:=by
 have h1:=c108 hS;rw[az g78];cases s with
 |nil=>simp[mh]at h1;simp[g78,h1,eJ]
 |cons b r=>
  have h2:=c111 (c:=b.toNat);cases e1:jo (b::r)
  ·simp[e1]at h1;simp[g78,h1,eJ,e1]
  ·simp[e1]at h1;cases e2:KB b.toNat
   ·rw[e2]at h2;have:(decide ((65:Int)<=b.toNat) && decide ((b.toNat:Int)<=90))=false:=e2;simp[g78,h1,h2,eJ,this]
   ·rw[e2]at h2;have:(decide ((65:Int)<=b.toNat) && decide ((b.toNat:Int)<=90))=true:=e2
    have e4:mf (b::r)=false:=by
     cases e:mf (b::r)
     ·rfl
     ·rw[T_ e]at e2;cases e2
    by_cases e3:(b::r).length<=12
    ·have d:(r.length:Int)+1<=12:=(by simp at e3;omega);have a:r.length+1<=12:=(by simpa using e3);simp[g78,h1,h2,d,a,e4,eJ,this,e1]
    ·have d:¬((r.length:Int)+1<=12):=(by simp at e3;omega);have a:¬(r.length+1<=12):=(by simpa using e3);simp[g78,h1,h2,d,a,eJ,this,e1]
theorem Zv{s:List UInt8}(hS:mE s):∀(n i:Nat),s.length-i=n->i<=s.length->
   cl AP g73L0 ⟨[(0,.pv (.str s)),(31,.pv (vI s.length)),(32,.pv (vI i))],[],[],[]⟩=
     if jo (s.drop i)=true then some (.exit 0,⟨[(0,.pv (.str s)),(31,.pv (vI s.length)),(32,.pv (vI s.length)),(33,.pv (.bool false))],[],[],[]⟩)
     else some (.ret,⟨[(6,.pv (.bool false))],[],[],[]⟩)
 |0,i,hn,hi=>by
  have:i=s.length:=by omega
  subst this;rw[g73L0e];simp[g73B0,mh]
 |n+1,i,hn,hi=>by
  have hi:i<s.length:=(by omega);obtain⟨x,hx⟩:=aP hi;unfold mE at hS;have t:=Zv hS n (i+1) (by omega) (by omega);simp at t;rw[g73L0e,aV hx,sj];have key:pT x.toNat=((decide (97<=(x.toNat:Int)) && decide ((x.toNat:Int)<=122))|| (decide (65<=(x.toNat:Int)) && decide ((x.toNat:Int)<=90))|| (decide (48<=(x.toNat:Int)) && decide ((x.toNat:Int)<=57))|| ((x.toNat:Int)== 95)):=rfl;rw[key];have a:∃c:Int,c=x.toNat:=⟨_,rfl⟩;obtain⟨c,a⟩:=a;have u:(97<=(x.toNat:Int))=(97<=c):=(by rw[a]);rw[<-a]
  have b:∀b1 j h g e d f:Bool,decide (97<=c)=b1->decide (c<=122)=j->decide (65<=c)=h->decide (c<=90)=g->decide (48<=c)=e->decide (c<=57)=d->(c == 95)=f->
      after (cl AP g73L0) (cl AP g73B0 (norm (restrict [0,31,32] ⟨[(0,.pv (.str s)),(31,.pv (vI s.length)),(32,.pv (vI i))],[],[],[]⟩)))=
      if (((b1 && j)|| (h && g)|| (e && d)|| f) && jo (s.drop (i+1)))=true then some (.exit 0,⟨[(0,.pv (.str s)),(31,.pv (vI s.length)),(32,.pv (vI s.length)),(33,.pv (.bool false))],[],[],[]⟩)
      else some (.ret,⟨[(6,.pv (.bool false))],[],[],[]⟩):=by
    intro b1 j h g e d f h1 h2 h3 h4 h5 h6 h7;have g8:decide (c<48)=!e:=by rw[<-h5,<-zcW];simp[zc0]
    have g9:decide (57<c)=!d:=by rw[<-h6,<-zcW];simp[zc0]
    cases b1<;>cases h<;>cases e<;>cases j<;>cases g<;>cases d<;>cases f <;>
      (have r:=h1;have q:=h2;have p:=h3;have o:=h4;have m:=h5;have l:=h6;have k:=h7
       simp only[zaW,zbW,zcK,beq_eq_false_iff_ne,ne_eq]at r q p o m l k
       first
       |(exfalso;omega)
       |(simp(disch:=omega)[-getElem?_pos,g73B0,hx,hi,<-a,r,q,p,o,m,l,k,g8,g9,ah,t];done))
  exact b _ _ _ _ _ _ _ rfl rfl rfl rfl rfl rfl rfl
theorem c73{s:List UInt8}(hS:mE s){lo hi:Int}:(aC AP).p 73 [.str s,vC lo,vC hi]=some [.bool (eJ s lo hi)]:=by
 have h:=Zv hS _ 0 rfl (by omega);simp at h;rw[az g73];cases s with
 |nil=>simp[g73,eJ]
 |cons b r=>
  by_cases e3:r.length+1<=12
  ·have a:¬((12:Int)<r.length+1):=(by omega);have e0:¬((r.length:Int)+1<1):=(by omega);by_cases e1:(b.toNat:Int)<lo
   ·have d:¬(lo<=(b.toNat:Int)):=(by omega);simp[g73,eJ,e0,a,e1,d]
   ·have d:lo<=(b.toNat:Int):=(by omega);by_cases e2:hi<(b.toNat:Int)
    ·have c:¬((b.toNat:Int)<=hi):=(by omega);simp[g73,eJ,e0,a,e1,e2,c]
    ·have c:(b.toNat:Int)<=hi:=(by omega);cases e4:jo (b::r)
     ·simp[e4]at h;simp[g73,eJ,e0,a,e1,e2,d,c,h,e4]
     ·simp[e4]at h;cases e5:mf (b::r)
      ·have k:∀k∈w_,¬(b::r)=k:=by
        intro k o e;rw[e]at e5;simp only[mf]at e5;rw[List.contains_eq_mem]at e5;simp at e5;exact e5 o
       have n:=k [100,97,116,97] (by simp[w_]);have m:=k [108,101,116] (by simp[w_]);have l:=k [114,101,99] (by simp[w_]);have j:=k [105,110] (by simp[w_]);have i:=k [99,97,115,101] (by simp[w_]);have g:=k [111,102] (by simp[w_]);have f:=k [101,110,100] (by simp[w_]);have b1:((b::r)== [100,97,116,97])=false:=(by simpa using n);have x:((b::r)== [108,101,116])=false:=(by simpa using m);have w:((b::r)== [114,101,99])=false:=(by simpa using l);have v:((b::r)== [105,110])=false:=(by simpa using j);have u:((b::r)== [99,97,115,101])=false:=(by simpa using i);have t:((b::r)== [111,102])=false:=(by simpa using g);have q:((b::r)== [101,110,100])=false:=(by simpa using f);simp[g73,eJ,e0,a,e1,e2,d,c,h,e4,e5,e3,-List.cons_beq_cons,b1,x,w,v,u,t,q]
      ·simp only[mf,w_,zb6,zah,List.not_mem_nil,or_false]at e5
       rcases e5 with e|e|e|e|e|e|e<;>(simp only[zbm]at e;obtain⟨rfl,rfl⟩:=e)<;>
         simp[eJ,mf,w_]<;>(simp at e1 e2 h d c;simp[g73,h,e1,e2])
  ·have a:(12:Int)<r.length+1:=(by omega);simp[g73,eJ,a,e3]
def kZ(s:List UInt8)(n:Nat):Bool:=if s=[45,62]then decide (n=2)else if s=[73,110,116]then decide (n=0)else eJ s 65 90 && decide (n<=4)
theorem c74{s:List UInt8}(hS:mE s){n:Nat}:(aC AP).p 74 [.str s,vI n]=some [.bool (kZ s n)]:=by
 have h:=c73 hS (lo:=65) (hi:=90);rw[az g74];by_cases e1:s=[45,62]
 ·have:((n:Int)== 2)=decide (n=2):=by rw[zaN];simp;omega
  subst e1;simp[g74,kZ,this]
 ·have b1:(s == [45,62])=false:=(by simpa using e1);by_cases e2:s=[73,110,116]
  ·have:((n:Int)== 0)=decide (n=0):=by rw[zaN];simp
   subst e2;simp[g74,kZ,this]
  ·have a:(s == [73,110,116])=false:=(by simpa using e2);have:decide ((n:Int)<=4)=decide (n<=4):=(by rw[zaN];simp;omega);cases e3:eJ s 65 90<;>simp[e3]at h<;>simp[g74,kZ,e1,e2,b1,a,h,e3,this]
mutual
def cC:Ty->Bool
 |⟨k,n,i,h,as⟩=>
  if k=1∨k=2 then decide (n=[]) && decide (as=[]) && decide (0<=i) && decide (i<=1000000) && (h == 0)
  else if k=3 then decide (n=[]) && decide (as=[]) && decide (0<=i) && decide (i<=1000000) && decide (-1<=h) && decide (h<=1000000)
  else if k=5 then decide (as=[]) && (i == 0) && (h == 0) && eJ n 97 122
  else if k=4 then(i == 0) && (h == 0) && kZ n as.length && u_ as
  else false
def u_:List Ty->Bool
 |[]=>true
 |a::r=>cC a && u_ r
end
theorem vd:∀l:List Ty,u_ l=l.all cC
 |[]=>by simp[u_]
 |a::r=>by simp[u_,vd r]
theorem nI(t:Ty):cC t =
   if t.kind=1∨t.kind=2 then decide (t.name=[]) && decide (t.args=[]) && decide (0<=t.id) && decide (t.id<=1000000) && (t.home == 0)
   else if t.kind=3 then decide (t.name=[]) && decide (t.args=[]) && decide (0<=t.id) && decide (t.id<=1000000) && decide (-1<=t.home) && decide (t.home<=1000000)
   else if t.kind=5 then decide (t.args=[]) && (t.id == 0) && (t.home == 0) && eJ t.name 97 122
   else if t.kind=4 then(t.id == 0) && (t.home == 0) && kZ t.name t.args.length && t.args.all cC
   else false:=by
 cases t;simp only[cC,vd]
def KD(F:AV)(s:List Ty)(sh:Sh)(i:Nat):Option Nat->Option (aR×St)
 |some k=>some (.ret,⟨[(4,.pv (vI (i+k:Nat)))],[],sh,[]⟩)
 |none=>some (.exit 0,⟨[(0,.pv (.aq (s.map Ty.pv))),(1,F),(7,.pv (vI s.length)),(8,.pv (vI s.length)),(9,.pv (.bool false))],[],sh,[]⟩)
theorem Ws{s:List Ty}(hS:Sm s){sh:Sh}(h:aT sh){g:Nat}{cap:List AV}{p:Ty->Bool}(b:bq.dP cap=true)(a:bJ.iG cap=true)(d:dS [] 1 cap=cap)(c:∀aL ts,bf aL ts cap=(cap,aL,ts))(f:cap.all bE=true)
   (hf:∀x∈s,(aC AP).i g (.pv x.pv::cap) sh []=some ([.pv (.bool (p x))],sh,[])):∀(n i:Nat),s.length-i=n->i<=s.length->
   cl AP g107L0 ⟨[(0,.pv (.aq (s.map Ty.pv))),(1,.fn g cap),(7,.pv (vI s.length)),(8,.pv (vI i))],[],sh,[]⟩=KD (.fn g cap) s sh i (bA p (s.drop i))
 |0,i,hn,hi=>by
  have:i=s.length:=by omega
  subst this;rw[g107L0e];simp[g107B0,bA,KD,h.norm,b]
 |n+1,i,hn,hi=>by
  have hi:i<s.length:=(by omega);obtain⟨x,hx⟩:=aP hi;unfold Sm at hS;have l:=Ws hS h b a d c f hf n (i+1) (by omega) (by omega);simp at l;have j:=hf x (aN hx);simp at j;rw[g107L0e,aV hx];cases e:p x with
  |true=>
   rw[e]at j;simp(disch:=omega)[-getElem?_pos,g107B0,hx,hi,e,bA,KD,h.norm,h.shift,j,b,a,d,c,f]
  |false=>
   rw[e]at j;simp(disch:=omega)[-getElem?_pos,g107B0,hx,hi,e,bA,ah,h.norm,h.shift,j,l,b,a,d,c,f];cases bA p (s.drop (i+1))with
   |none=>rfl
   |some k=>simp[KD];omega
theorem c75{s:List Ty}(hS:Sm s){sh:Sh}(f:aT sh){g:Nat}{cap:List AV}{p:Ty->Bool}(a:bq.dP cap=true)(b:bJ.iG cap=true)(j:dS [] 1 cap=cap)(d:∀aL ts,bf aL ts cap=(cap,aL,ts))(l:cap.all bE=true)
   (hf:∀x∈s,(aC AP).i g (.pv x.pv::cap) sh []=some ([.pv (.bool (p x))],sh,[])):(aC AP).i 75 [.pv (.aq (s.map Ty.pv)),.fn g cap] sh []=some ([.pv (.bool (s.any p))],sh,[]):=by
 have h:=Ws hS f a b j d l hf _ 0 rfl (by omega);simp at h
 have c:(aC AP).i 107 [.pv (.aq (s.map Ty.pv)),.fn g cap] sh []=some ([.pv (vI (match bA p s with|some k=>k|none=>-1))],sh,[]):=by
  rw[aA g107];cases hi:bA p s with
  |none=>rw[hi]at h;simp[KD]at h;simp[g107,h,f.norm,a]
  |some k=>rw[hi]at h;simp[KD]at h;simp[g107,h,f.norm,a]
 rw[aA g75];cases hi:bA p s with
 |none=>
  rw[hi]at c;have:s.any p=false:=by rw[zbl];intro x hx;rw[jJ.1 hi x hx];simp
  simp[g75,c,f.norm,f.shift,a,b,d,this]
 |some k=>
  rw[hi]at c
  have:s.any p=true:=by
   cases e:s.any p with
   |true=>rfl
   |false=>rw[zbl]at e;have:=jJ.2 (fun x hx=>by simpa using e x hx);rw[hi]at this;cases this
  simp[g75,c,f.norm,f.shift,a,b,d,this]
inductive Ty.Nm:Ty->Prop
 |mk {t:Ty}:mE t.name->(∀x∈t.args,Ty.Nm x)->Ty.Nm t
theorem Ty.Nm.sm{t:Ty}(h:t.Nm):mE t.name:=by cases h;assumption
theorem Ty.Nm.cY{t:Ty}(h:t.Nm):∀x∈t.args,x.Nm:=by cases h;assumption
theorem c29{t:Ty}(b:t.Ok)(hN:t.Nm):(aC AP).p 29 [t.pv]=some [.bool (cC t)]:=by
 revert b hN
 refine Ty.cB (p:=fun t=>t.Ok->t.Nm->(aC AP).p 29 [t.pv]=some [.bool (cC t)]) ?_ t;intro t k b hN;have m:=c74 hN.sm (n:=t.args.length);have hl:=c73 hN.sm (lo:=97) (hi:=122)
 have o:=c75 b.sm (sh:=[]) (by intro cs h;simp at h) (g:=76) (cap:=[]) (p:=fun x=>!cC x) rfl rfl rfl (fun _ _=>rfl) rfl (by
  intro x hx;have a:=k x hx (b.cY x hx) (hN.cY x hx);simp at a;rw[aA g76];simp[g76,a])
 have j:=s_ (p:=cC) (l:=t.args);rw[az g29,nI];have h0:((t.args.length:Int)== 0)=decide (t.args=[]):=by rw[zaN];simp
 by_cases i:t.kind=1
 ·simp[g29,i,h0]
  (repeat' split)<;>simp_all<;>omega
 ·by_cases f:t.kind=2
  ·simp[g29,f,h0]
   (repeat' split)<;>simp_all<;>omega
  ·by_cases e:t.kind=3
   ·simp[g29,e,h0]
    (repeat' split)<;>simp_all<;>omega
   ·by_cases c:t.kind=5
    ·simp[g29,c,h0,hl]
     (repeat' split)<;>simp_all<;>omega
    ·by_cases d:t.kind=4
     ·simp[g29,d,h0,m,o]
      (repeat' split)<;>simp_all<;>omega
     ·simp[g29,i,f,e,d,c,h0]
abbrev Sc:=As
structure En where
 name:List UInt8
 sc:Sc
 deriving Inhabited
def En.pv(a:En):PV:=.agg [.str a.name,.int .i64 a.sc.id,.int .i64 a.sc.ty.kind,.str a.sc.ty.name,.int .i64 a.sc.ty.id,.int .i64 a.sc.ty.home,.aq (a.sc.ty.args.map Ty.pv)]
@[simp] theorem En.kO(a:En):a.pv=.agg [.str a.name,.int .i64 a.sc.id,.int .i64 a.sc.ty.kind,.str a.sc.ty.name,.int .i64 a.sc.ty.id,.int .i64 a.sc.ty.home,.aq (a.sc.ty.args.map Ty.pv)]:=rfl
@[simp] theorem En.eta(t:En):En.mk t.name t.sc=t:=rfl
theorem No:El En.pv 7 true:=⟨fun x=>by simp,fun x=>by simp⟩
noncomputable instance:DecidableEq En:=fun _ _=>Classical.propDecidable _
@[simp] theorem Vi{l:List En}:a7 7 (l.map En.pv)=true:=No.head l
def ee:Sc:=⟨0,⟨0,[],0,0,[]⟩⟩
def m8:List En->List UInt8->Option Sc
 |[],_=>none
 |a::r,s=>match m8 r s with
  |some c=>some c
  |none=>if a.name=s then some a.sc else none
theorem B2(l:List En)(a:En)(s:List UInt8):m8 (l++[a]) s=if a.name=s then some a.sc else m8 l s:=by
 induction l with
 |nil=>simp[m8]
 |cons b r c=>
  simp only[za5,m8,c];by_cases h:a.name=s
  ·simp[h]
  ·simp[h]
def ta(o:Option Sc):List PV:=[(o.getD ee).pv,.bool o.isSome]
theorem Wt{l:List En}(hS:Sm l){s:List UInt8}:∀(k:Nat),k<=l.length->
   cl AP g181L0 ⟨[(0,.pv (.aq (l.map En.pv))),(1,.pv (.str s)),(4,.au 4 0),(6,.pv (vI ((k:Int)-1)))],[(4,[.pv (vI 0),.pv (vI 0),.pv (.str []),.pv (vI 0),.pv (vI 0),.own [] 0])],[],[0]⟩=
     match m8 (l.take k) s with
     |some c=>some (.ret,⟨[(4,.au 4 0),(5,.pv (.bool true))],[(4,[.pv (vI c.id),.pv (vI c.ty.kind),.pv (.str c.ty.name),.pv (vI c.ty.id),.pv (vI c.ty.home),.pv (.aq (c.ty.args.map Ty.pv))])],[],[0]⟩)
     |none=>some (.exit 0,⟨[(0,.pv (.aq (l.map En.pv))),(1,.pv (.str s)),(4,.au 4 0),(6,.pv (vI (-1))),(11,.pv (.bool false))],[(4,[.pv (vI 0),.pv (vI 0),.pv (.str []),.pv (vI 0),.pv (vI 0),.own [] 0])],[],[0]⟩)
 |0,_=>by
  rw[g181L0e];simp[g181B0,m8]
 |k+1,b=>by
  obtain⟨x,hx⟩:=aP (l:=l) (i:=k) (by omega);have a:=Wt hS (s:=s) k (by omega);unfold Sm at hS;have e1:((k+1:Nat):Int)-1=k:=by omega
  rw[g181L0e,e1,zaI,hx];simp only[zce,B2];by_cases e:x.name=s
  ·simp(disch:=omega)[-getElem?_pos,g181B0,hx,e]
  ·simp(disch:=omega)[-getElem?_pos,g181B0,hx,e,ah];simpa using a
theorem c181{l:List En}(hS:Sm l){s:List UInt8}:(aC AP).p 181 [.aq (l.map En.pv),.str s]=some (ta (m8 l s)):=by
 have h:=Wt hS (s:=s) l.length (zaj _);unfold Sm at hS;rw[az g181];rw[zbe]at h;rw[g181L0e]at h;cases e:m8 l s with
 |none=>
  rw[e]at h;simp at h;simp(disch:=omega)[g181,ah,g181L0e,h,ta,ee]
 |some c=>
  rw[e]at h;simp at h;simp(disch:=omega)[g181,ah,g181L0e,h,ta]
theorem nJ:∀{a b:Sh}{aL ts:aG},bl aL ts (a++b)=((bl aL ts a).1++(bl (bl aL ts a).2.1 (bl aL ts a).2.2 b).1,(bl (bl aL ts a).2.1 (bl aL ts a).2.2 b).2)
 |[],_,_,_=>rfl
 |none::a,b,aL,ts=>by simp only[za5,oV,nJ (a:=a)]
 |some cs::a,b,aL,ts=>by simp only[za5,oW,nJ (a:=a)]
theorem c210{l:List En}{sh:Sh}{ts o:aG}(hn:bl ts [] sh=(sh,o,ts)):(aC AP).i 210 [.pv (.aq (l.map En.pv))] sh ts=some ([.fn 233 [.aI sh.length 0]],sh++[some [.pv (.aq (l.map En.pv))]],ts):=by
 rw[aA g210];simp[g210,nJ,hn]
def pU(s:List UInt8):Sh:=[some [.pv (.str s)],some [.pv (vI 0),.pv (vI 0),.pv (.str []),.pv (vI 0),.pv (vI 0),.own [] 0],some [.pv (.bool false)],none]
def jq:List (Nat×AV):=[(3,.aI 0 0),(4,.aI 1 0),(5,.aI 2 0)]
def Np(s:List UInt8)(m:List (Nat×List AV)):Option Sc->Option (aR×St)
 |some c=>some (.ret,⟨jq,m,[some [.pv (.str s)],some [.pv (vI c.id),.pv (vI c.ty.kind),.pv (.str c.ty.name),.pv (vI c.ty.id),.pv (vI c.ty.home),.pv (.aq (c.ty.args.map Ty.pv))],some [.pv (.bool true)],none],[0]⟩)
 |none=>some (.normal,⟨jq,m,pU s,[0]⟩)
def FW(m:List (Nat×List AV)):Prop:=look m 3=none∧look m 4=none∧look m 5=none∧look m 10=none∧look m 11=none
theorem YO(x:En)(s:List UInt8)(i:Nat){mem:List (Nat×List AV)}(hm:FW mem):∃e m,FW m∧andThen (cl AP g180X0) (cl AP g180Y0) (norm (restrict [3,4,5,10,11] ⟨cN (cN jq 10 (.pv (vI i))) 11 (.pv x.pv),mem,pU s,[0]⟩))=
   if x.name=s then some (.ret,⟨e,m,[some [.pv (.str s)],some [.pv (vI x.sc.id),.pv (vI x.sc.ty.kind),.pv (.str x.sc.ty.name),.pv (vI x.sc.ty.id),.pv (vI x.sc.ty.home),.pv (.aq (x.sc.ty.args.map Ty.pv))],some [.pv (.bool true)],none],[0]⟩)
   else some (.normal,⟨e,m,pU s,[0]⟩):=by
 obtain⟨h1,h2,h3,h4,h5⟩:=hm;by_cases e:x.name=s
 ·refine⟨[(4,.aI 1 0),(5,.aI 2 0)],[],by simp[FW],?_⟩;simp[-getElem?_pos,jq,pU,o6,g180X0,g180Y0,e,h1,h2,h3,h4,h5]
 ·refine⟨[(3,.aI 0 0),(4,.aI 1 0),(5,.aI 2 0),(7,.au 7 0),(15,.pv (.bool false))],[(7,[.pv (.str x.name),.pv (vI x.sc.id),.pv (vI x.sc.ty.kind),.pv (.str x.sc.ty.name),.pv (vI x.sc.ty.id),.pv (vI x.sc.ty.home),.pv (.aq (x.sc.ty.args.map Ty.pv))])],by simp[FW],?_⟩;simp[-getElem?_pos,jq,pU,o6,g180X0,g180Y0,e,h1,h2,h3,h4,h5]
theorem YP{l:List En}{s:List UInt8}:∀(k:Nat),k<=l.length->∀e mem,FW mem->∃m,FW m ∧
   hU (andThen (cl AP g180X0) (cl AP g180Y0)) [3,4,5,10,11] 10 11 7 true jq (((l.take k).map En.pv).zipIdx.reverse) ⟨e,mem,pU s,[0]⟩=Np s m (m8 (l.take k) s):=by
 intro k;induction k with
 |zero=>intro _ e mem hm;exact⟨mem,hm,by simp[m8,Np]⟩
 |succ k d=>
  intro g e mem hm;obtain⟨x,hx⟩:=aP (l:=l) (i:=k) (by omega);have f:=Nn (l:=l.map En.pv) (k:=k) (x:=x.pv) (by simp[hx]);obtain⟨e1,c,a,h1⟩:=YO x s k hm;rw[za9,f,uZ No,h1,zaI,hx];simp only[zce,B2];by_cases e:x.name=s
  ·exact⟨c,a,by simp[e,Np]⟩
  ·obtain⟨m,b,h⟩:=d (by omega) e1 c a;rw[za9]at h;exact⟨m,b,by simp[e,h]⟩
theorem c180{l:List En}(hS:Sm l){s:List UInt8}:(aC AP).p 180 [.aq (l.map En.pv),.str s]=some (ta (m8 l s)):=by
 rw[az g180];have h:=c210 (l:=l) (sh:=[some [AV.pv (PV.str s)],some [AV.pv (PV.int IntKind.i64 0),AV.pv (PV.int IntKind.i64 0),AV.pv (PV.str []),AV.pv (PV.int IntKind.i64 0),AV.pv (PV.int IntKind.i64 0),AV.own [] 0],some [AV.pv (PV.bool false)]]) (ts:=[0]) (o:=[1]) (by simp);have hw:=fun f live=>sg (f:=f) (gb:=233) (s:=3) (pi:=10) (px:=11) (sz:=7) (ag:=true) (live:=live) (env:=[(3,AV.aI 0 0),(4,AV.aI 1 0),(5,AV.aI 2 0),(9,AV.fn 233 [AV.aI 3 0])]) (mem:=[]) (sh:=[some [AV.pv (PV.str s)],some [AV.pv (PV.int IntKind.i64 0),AV.pv (PV.int IntKind.i64 0),AV.pv (PV.str []),AV.pv (PV.int IntKind.i64 0),AV.pv (PV.int IntKind.i64 0),AV.own [] 0],some [AV.pv (PV.bool false)],some [.pv (.aq (l.map En.pv))]]) (aa:=[0]) (l:=l.map En.pv) rfl (by unfold Sm at hS;simp;omega)
 obtain⟨m,⟨h1,h2,h3,h4,h5⟩,a⟩:=YP (l:=l) (s:=s) l.length (zaj _) [(3,AV.aI 0 0),(4,AV.aI 1 0),(5,AV.aI 2 0),(9,AV.fn 233 [AV.aI 3 0])] [] (by simp[FW]);rw[zbe]at a;have b:ir [3,4,5,10,11] [(3,AV.aI 0 0),(4,AV.aI 1 0),(5,AV.aI 2 0),(9,AV.fn 233 [AV.aI 3 0])]=jq:=by simp[ir,jq]
 simp[pU]at a;simp at h hw;cases e:m8 l s with
 |none=>
  rw[e]at a;simp[Np,jq,pU]at a;simp[g180,h,hw,b,jq,a,ta,ee]
 |some c=>
  rw[e]at a;simp[Np,jq,pU]at a;simp[g180,h,hw,b,jq,a,ta]
structure Vj{α:Type}(f:α->PV)(cs:α->List PV)(sz:Nat):Prop where
 eq:∀x,f x=.agg (cs x)
 len:∀x,(cs x).length=sz
 leaf:∀x,((cs x).map AV.pv).all aZ=true
def Wu(z1 z2:List PV)(b a:Nat):ae:=
 (.seq
  (.jt [⟨some 18,none,[.t 17,.t 16],.v (.bin .lss)⟩] [1,2,15,16,17,18])
  (.seq
   (.cond (.t 18)
    .skip
    (.exit 0))
   (.seq
    (.block 1
     (.seq
      (.jt [⟨some 19,none,[.t 17],.v (.mv)⟩,
        ⟨some 20,none,[.t 15,.t 17],.v (.eX b)⟩,
        ⟨some 21,none,[.t 20],.dH b true⟩,
        ⟨some 8,none,[],.alloc 8 z1⟩,
        ⟨some 7,none,[.t 19],.v (.mv)⟩,
        ⟨none,none,[.t 8,.t 21],.bB 8 0 b⟩] [1,2,7,8,15,16,17])
      (.seq
       (.jt [⟨some 22,none,[.t 1],.v (.mv)⟩,
         ⟨some 23,none,[.t 7],.v (.mv)⟩,
         ⟨some 24,none,[.t 22,.t 23],.v (.eX a)⟩,
         ⟨some 25,none,[.t 24],.dH a true⟩,
         ⟨some 9,none,[],.alloc 9 z2⟩,
         ⟨none,none,[.t 9,.t 25],.bB 9 0 a⟩] [1,2,8,9,15,16,17])
       (.seq
        (.jt [⟨some 26,none,[.t 2],.v (.mv)⟩,
          ⟨some 27,none,[.t 8],.cg 8 0 b true⟩,
          ⟨some 28,none,[.t 9],.cg 9 0 a true⟩,
          ⟨some 29,none,[.t 26,.t 27,.t 28],.gD⟩,
          ⟨some 30,none,[.t 29],.v (.un .not)⟩] [1,2,15,16,17,30])
        (.cond (.t 30)
         (.seq
          (.jt [⟨some 6,none,[.c (.pv (.bool false))],.v (.mv)⟩] [6])
          .ret)
         .skip)))))
    (.jt [⟨some 31,none,[.t 17,.c (.pv (.int .i64 1))],.v (.bin .add)⟩,
      ⟨some 17,none,[.t 31],.v (.mv)⟩] [1,2,15,16,17]))))
def Yq(z1 z2:List PV)(b a:Nat):ae:=.loop [1,2,15,16,17] (Wu z1 z2 b a)
theorem Nq{z1 z2:List PV}{b a:Nat}{st:St}:cl AP (Yq z1 z2 b a) st=after (cl AP (Yq z1 z2 b a)) (cl AP (Wu z1 z2 b a) (norm (restrict [1,2,15,16,17] st))):=s6
def Wv(z1 z2:List PV)(b a:Nat):aw:=⟨3,32,[.t 6],
 (.seq
  (.jt [⟨some 6,none,[.c (.pv (.bool false))],.v (.mv)⟩] [0,1,2])
  (.seq
   (.seq
    (.jt [⟨some 10,none,[.t 0],.v (.mv)⟩,
      ⟨some 11,none,[.t 10],.v (.len)⟩,
      ⟨some 12,none,[.t 1],.v (.mv)⟩,
      ⟨some 13,none,[.t 12],.v (.len)⟩,
      ⟨some 14,none,[.t 11,.t 13],.v (.bin .neq)⟩] [0,1,2,14])
    (.cond (.t 14)
     (.seq
      (.jt [⟨some 6,none,[.c (.pv (.bool false))],.v (.mv)⟩] [6])
      .ret)
     .skip))
   (.seq
    (.seq
     (.jt [⟨some 15,none,[.t 0],.v (.mv)⟩,
       ⟨some 16,none,[.t 15],.v (.len)⟩,
       ⟨some 17,none,[.c (.pv (.int .i64 0))],.v (.mv)⟩] [1,2,15,16,17])
     (.block 0
      (Yq z1 z2 b a)))
    (.seq
     (.jt [⟨some 6,none,[.c (.pv (.bool true))],.v (.mv)⟩] [6])
     .ret)))),none,false⟩
def Nr{α a:Type}(F:AV)(sh:Sh)(c:α->List PV)(d:a->List PV)(p:α->a->Bool)(s:List α):Prop:=
 ∀x∈s,∀y,exec (aC AP) .gD [F,.agg ((c x).map .pv),.agg ((d y).map .pv)] none sh []=some ⟨.pv (.bool (p x y)),none,sh,[]⟩
def mH{α a:Type}(p:α->a->Bool):List α->List a->Bool
 |[],[]=>true
 |x::r,y::t=>p x y && mH p r t
 |_,_=>false
theorem B3{α c:Type}{p:α->c->Bool}:∀{a:List α}{b:List c},mH p a b=true->a.length=b.length
 |[],[],_=>rfl
 |x::r,y::t,h=>by simp only[mH,zaf]at h;simp[B3 h.2]
 |[],_::_,h=>by simp[mH]at h
 |_::_,[],h=>by simp[mH]at h
def Ww{α c:Type}(f:α->PV)(g:c->PV)(F:AV)(a:List α)(b:List c)(sh:Sh)(t:Bool):Option (aR×St):=
 if t=true then some (.exit 0,⟨[(1,.pv (.aq (b.map g))),(2,F),(15,.pv (.aq (a.map f))),(16,.pv (vI a.length)),(17,.pv (vI a.length)),(18,.pv (.bool false))],[],sh,[]⟩)
 else some (.ret,⟨[(6,.pv (.bool false))],[],sh,[]⟩)
theorem Zw{α q:Type}{f:α->PV}{g:q->PV}{c:α->List PV}{d:q->List PV}{m j:Nat}(hf:Vj f c m)(o:Vj g d j){z1 z2:List PV}(h1:z1.length=m)(h2:z2.length=j){a:List α}{b:List q}(hS:Sm a)(hl:a.length=b.length)
   {sh:Sh} (r:aT sh) {k:Nat} {cap:List AV} {p:α->q->Bool} (h:bq.dP cap=true) (hp:Nr (.fn k cap) sh c d p a):∀(n i:Nat),a.length-i=n->i<=a.length->
   cl AP (Yq z1 z2 m j) ⟨[(1,.pv (.aq (b.map g))),(2,.fn k cap),(15,.pv (.aq (a.map f))),(16,.pv (vI a.length)),(17,.pv (vI i))],[],sh,[]⟩=Ww f g (.fn k cap) a b sh (mH p (a.drop i) (b.drop i))
 |0,i,hn,hi=>by
  have:i=a.length:=by omega
  subst this;rw[Nq,BW (l:=b) (by omega),BW (l:=a) (by omega)];simp[Wu,Ww,mH,r.norm,h]
 |n+1,i,hn,hi=>by
  have hi:i<a.length:=(by omega);obtain⟨x,hx⟩:=aP hi;obtain⟨y,hy⟩:=aP (hl ▸ hi);unfold Sm at hS;have C:=Zw hf o h1 h2 hS hl r h hp n (i+1) (by omega) (by omega);simp at C;have s:=hp x (aN hx) y;rw[Nq,aV hx,aV hy];have u:=hf.len x;have t:=o.len y;have e1:(z1.map bw.zeroCell).drop m=[]:=(by rw[zaX];simp[h1]);have e2:(z2.map bw.zeroCell).drop j=[]:=(by rw[zaX];simp[h2]);have t1:((c x).map AV.pv).take m=(c x).map AV.pv:=(by rw[zaw];simp[u]);have z:((d y).map AV.pv).take j=(d y).map AV.pv:=(by rw[zaw];simp[t]);have B:(c x).take m=c x:=(by rw[zaw];omega);have A:(d y).take j=d y:=(by rw[zaw];omega);have w:=hf.leaf x;have v:=o.leaf y;cases e:p x y with
  |true=>
   rw[e]at s;simp(disch:=omega)[-getElem?_pos,-eT,-List.all_map,-List.map_take,-List.map_drop,-List.map_eq_nil_iff,Wu,hx,hy,hi,e,mH,ah,r.norm,s,C,h,hf.eq,o.eq,u,t,h1,h2,e1,e2,t1,z,B,A,w,v]
  |false=>
   rw[e]at s;simp(disch:=omega)[-getElem?_pos,-eT,-List.all_map,-List.map_take,-List.map_drop,-List.map_eq_nil_iff,Wu,hx,hy,hi,e,mH,Ww,r.norm,s,h,hf.eq,o.eq,u,t,h1,h2,e1,e2,t1,z,B,A,w,v]
theorem ZX{α l:Type}{f:α->PV}{g:l->PV}{c:α->List PV}{d:l->List PV}{q o:Nat}(hf:Vj f c q)(r:Vj g d o){z1 z2:List PV}(h1:z1.length=q)(h2:z2.length=o){m:Nat}(hm:AP m=some (Wv z1 z2 q o)){a:List α}{b:List l}(hS:Sm a)
   {sh:Sh} (n:aT sh) {k:Nat} {cap:List AV} {p:α->l->Bool} (j:bq.dP cap=true) (hp:Nr (.fn k cap) sh c d p a):
   (aC AP).i m [.pv (.aq (a.map f)),.pv (.aq (b.map g)),.fn k cap] sh []=some ([.pv (.bool (mH p a b))],sh,[]):=by
 rw[eU hm (by simp[Wv])];by_cases hl:a.length=b.length
 ·have h:=Zw hf r h1 h2 hS hl n j hp _ 0 rfl (by omega);simp at h;cases e:mH p a b with
  |true=>rw[e]at h;simp[Ww]at h;simp[Wv,h,n.norm,j,hl.symm]
  |false=>rw[e]at h;simp[Ww]at h;simp[Wv,h,n.norm,j,hl.symm]
 ·have e:mH p a b=false:=by
   cases e:mH p a b with
   |true=>exact absurd (B3 e) hl
   |false=>rfl
  simp[Wv,n.norm,j,hl,e];omega
def Ns(sz:Nat):aw:=⟨1,9,[.t 2],
 (.seq
  (.jt [⟨some 2,none,[.c (.cQ [])],.v (.mv)⟩] [0])
  (.seq
   (.jt [⟨some 3,none,[.t 0],.v (.mv)⟩,
     ⟨some 4,none,[.t 0],.v (.mv)⟩,
     ⟨some 5,none,[.t 4],.v (.len)⟩,
     ⟨some 6,none,[.t 0],.v (.mv)⟩,
     ⟨some 7,none,[.t 6],.v (.len)⟩,
     ⟨some 8,none,[.t 3,.t 5,.t 7],.v (.slice false sz false true true)⟩,
     ⟨some 2,none,[.t 8],.v (.mv)⟩] [2])
   .ret)),none,false⟩
theorem Ua{sz:Nat}{l:List PV}:cX false sz false true true [.pv (.aq l),.pv (.int .i64 l.length),.pv (.int .i64 l.length)]=some (.cQ l):=by
 simp[cX,db,dY]
theorem Wx{m sz:Nat}(hm:AP m=some (Ns sz)){l:List PV}{sh:Sh}{ts:aG}:(aC AP).i m [.pv (.aq l)] sh ts=some ((ct ts [.cQ l] sh).1,(ct ts [.cQ l] sh).2.1,(ct ts [.cQ l] sh).2.2.2):=by
 rw[eU hm (by simp[Ns])];simp[Ns,Ua]
theorem Zx{t:Ty}(hS:Sm t.args)(h:∀x∈t.args,(aC AP).p 30 [x.pv]=some [.bool (cC x)]):∀(n i:Nat),t.args.length-i=n->i<=t.args.length->
   cl AP g30L0 ⟨[(1,.au 1 0),(3,.pv (vI i))],[(1,t.cl)],[],[]⟩=
     if (t.args.drop i).all cC=true then some (.exit 1,⟨[(1,.au 1 0),(3,.pv (vI t.args.length)),(99,.pv (.bool false))],[(1,t.cl)],[],[]⟩)
     else some (.ret,⟨[(2,.pv (.bool false))],[],[],[]⟩)
 |0,i,hn,hi=>by
  have:i=t.args.length:=by omega
  subst this;rw[g30L0e];simp[g30B0,Ty.cl]
 |n+1,i,hn,hi=>by
  have hi:i<t.args.length:=(by omega);obtain⟨x,hx⟩:=aP hi;unfold Sm at hS;have b:=Zx hS h n (i+1) (by omega) (by omega);have a:=h x (aN hx);simp[Ty.cl]at b a;rw[g30L0e,aV hx];cases e:cC x
  ·rw[e]at a;simp(disch:=omega)[-getElem?_pos,g30B0,Ty.cl,hx,hi,a,e]
  ·rw[e]at a;simp(disch:=omega)[-getElem?_pos,g30B0,Ty.cl,hx,hi,a,e,ah,b]
theorem c30{t:Ty}(g:t.Ok)(hN:t.Nm):(aC AP).p 30 [t.pv]=some [.bool (cC t)]:=by
 revert g hN
 refine Ty.cB (p:=fun t=>t.Ok->t.Nm->(aC AP).p 30 [t.pv]=some [.bool (cC t)]) ?_ t;intro t o g hN;have hl:=c77 hN.sm;have hu:=c78 hN.sm;rw[az g30,nI];have h0:((t.args.length:Int)== 0)=decide (t.args=[]):=by rw[zaN];simp
 have h2:((t.args.length:Int)== 2)=decide (t.args.length=2):=by rw[zaN];simp;omega
 have h4:decide ((t.args.length:Int)<=4)=decide (t.args.length<=4):=by rw[zaN];simp;omega
 by_cases l:t.kind=1
 ·simp[g30,l,h0]
  (repeat' split)<;>simp_all<;>omega
 ·by_cases k:t.kind=2
  ·simp[g30,k,h0]
   (repeat' split)<;>simp_all<;>omega
  ·by_cases j:t.kind=3
   ·simp[g30,j,h0]
    (repeat' split)<;>simp_all<;>omega
   ·by_cases i:t.kind=5
    ·simp[g30,i,h0,hl]
     (repeat' split)<;>simp_all<;>omega
    ·by_cases b:t.kind=4
     ·by_cases c:t.id=0
      ·by_cases d:t.home=0
       ·have a:=Zx g.sm (fun x hx=>o x hx (g.cY x hx) (hN.cY x hx)) _ 0 rfl (by omega);rw[g30L0e]at a;simp[Ty.cl]at a;cases m:t.args.all cC
        ·have:¬∀x∈t.args,cC x=true:=by rw[<-zaq,m];simp
         simp[this,b,c,d]at a;simp[g30,b,c,d,g30L0e,a]
        ·have:∀x∈t.args,cC x=true:=by rw[<-zaq,m]
         have a:=a;rw[zak this]at a;simp[b,c,d]at a;by_cases f:t.name=[45,62]
         ·simp[f]at a;simp[g30,b,c,d,g30L0e,a,f,kZ,h2]
         ·have b1:(t.name == [45,62])=false:=(by simpa using f);by_cases e:t.name=[73,110,116]
          ·simp[e]at a;simp[g30,b,c,d,g30L0e,a,e,kZ,h0]
          ·have n:(t.name == [73,110,116])=false:=(by simpa using e);cases h:eJ t.name 65 90
           ·rw[h]at hu;simp[g30,b,c,d,g30L0e,a,f,e,b1,n,kZ,hu,h]
           ·rw[h]at hu;simp[g30,b,c,d,g30L0e,a,f,e,b1,n,kZ,hu,h,h4]
       ·simp[g30,b,c,d]
      ·simp[g30,b,c]
     ·simp[g30,l,k,j,b,i]
mutual
def o7:Ty->Int->Int
 |⟨_,_,_,_,as⟩,l=>max (ve as (l-1)) 0
def ve:List Ty->Int->Int
 |[],l=>l
 |a::r,l=>if 0<l then ve r (o7 a l)else l
end
theorem yZ(t:Ty)(l:Int):o7 t l=max (ve t.args (l-1)) 0:=by cases t;simp only[o7]
theorem qM(t:Ty):∀l:Int,0<l->0<=o7 t l∧o7 t l<=l-1:=by
 refine Ty.cB (p:=fun t=>∀l:Int,0<l->0<=o7 t l∧o7 t l<=l-1) ?_ t;intro t b l hl
 have key:∀(as:List Ty),(∀x∈as,∀l:Int,0<l->0<=o7 x l∧o7 x l<=l-1)->∀l:Int,0<=l->0<=ve as l∧ve as l<=l:=by
  intro as;induction as with
  |nil=>intro _ l h;simp[ve,h]
  |cons a r b=>
   intro h l h0;simp only[ve];split
   ·rename_i hp;have:=h a (by simp) l hp;have:=b (fun x hx=>h x (by simp[hx])) (o7 a l) this.1;omega
   ·omega
 rw[yZ];have:=key t.args b (l-1) (by omega);omega
theorem FX:∀(as:List Ty)(l:Int),0<=l->0<=ve as l∧ve as l<=l
 |[],l,h=>by simp[ve,h]
 |a::r,l,h=>by
  simp only[ve];split
  ·rename_i hp;have h1:=qM a l hp;have:=FX r (o7 a l) h1.1;omega
  ·omega
theorem GU:∀(as:List Ty)(l:Int),0<=l->0<ve as l->(as.length:Int)<l∧∀x∈as,∃l':Int,0<l'∧l'<=l∧0<o7 x l'
 |[],l,h,hp=>by simp[ve]at hp⊢;exact hp
 |a::r,l,h,hp=>by
  simp only[ve]at hp;split at hp
  ·rename_i h0;have h1:=qM a l h0;have h2:=GU r (o7 a l) h1.1 hp
   have h3:0<o7 a l:=by
    have:=FX r (o7 a l) h1.1;omega
   refine⟨by simp;omega,?_⟩;intro x hx;simp at hx;rcases hx with rfl|hx
   ·exact⟨l,h0,by omega,h3⟩
   ·obtain⟨l',c,d,b⟩:=h2.2 x hx;exact⟨l',c,by omega,b⟩
  ·omega
theorem Ub(t:Ty):∀l:Int,0<l->l<=100000->0<o7 t l->t.Ok:=by
 refine Ty.cB (p:=fun t=>∀l:Int,0<l->l<=100000->0<o7 t l->t.Ok) ?_ t;intro t c l h0 h1 hp;rw[yZ]at hp;have a:0<ve t.args (l-1):=by omega
 obtain⟨f,b⟩:=GU t.args (l-1) (by omega) a;refine⟨by unfold Sm;omega,fun x hx=>?_⟩;obtain⟨l',e,g,d⟩:=b x hx;exact c x hx l' e (by omega) d
theorem Zy{t:Ty}(h:∀x∈t.args,∀l:Int,0<l->l<=4611686018427387904->(aC AP).p 88 [x.pv,vI l]=some [vI (o7 x l)]):∀(n i:Nat),t.args.length-i=n->i<=t.args.length->∀l:Int,0<=l->i+l<=4611686018427387904->
   ∃(k:Nat)(b:Bool),cl AP g88L0 ⟨[(1,.pv (vI l)),(2,.au 2 0),(5,.pv (vI i))],[(2,t.cl)],[],[]⟩=
     some (.exit 0,⟨[(1,.pv (vI (ve (t.args.drop i) l))),(2,.au 2 0),(5,.pv (vI k)),(16,.pv (.bool b))],[(2,t.cl)],[],[]⟩)
 |0,i,hn,hi,l,hl,e=>by
  have:i=t.args.length:=by omega
  subst this;refine⟨t.args.length,false,?_⟩;rw[g88L0e];simp[g88B0,Ty.cl,ve]
 |n+1,i,hn,hi,l,hl,e=>by
  have hi:i<t.args.length:=(by omega);obtain⟨x,hx⟩:=aP hi;rw[g88L0e,aV hx];by_cases hp:0<l
  ·have d:=h x (aN hx) l hp (by omega);have a:=qM x l hp;obtain⟨k,b,c⟩:=Zy h n (i+1) (by omega) (by omega) (o7 x l) a.1 (by omega);refine⟨k,b,?_⟩;simp[Ty.cl]at c d;simp(disch:=omega)[-getElem?_pos,g88B0,Ty.cl,hx,hi,d,hp,ve,ah,c]
  ·refine⟨i,false,?_⟩;simp(disch:=omega)[-getElem?_pos,g88B0,Ty.cl,hx,hi,hp,ve]
theorem c88(t:Ty):∀l:Int,0<l->l<=4611686018427387904->(aC AP).p 88 [t.pv,vI l]=some [vI (o7 t l)]:=by
 refine Ty.cB (p:=fun t=>∀l:Int,0<l->l<=4611686018427387904->(aC AP).p 88 [t.pv,vI l]=some [vI (o7 t l)]) ?_ t;intro t a l h0 h1;obtain⟨k,b,h⟩:=Zy a _ 0 rfl (by omega) (l-1) (by omega) (by omega);rw[g88L0e]at h;simp[Ty.cl]at h;rw[az g88,yZ];simp(disch:=omega)[g88,ah,g88L0e,h];omega
section
variable {P:Program} {n:Nat} {t e:TypeId} {p:PV}
theorem pV(hu:P.underlying t=some (.int .i64))(h:m5 P n t p):∃i,p=vI i:=by
 cases n with
 |zero=>simp[m5]at h
 |succ n=>simp only[m5,hu]at h;obtain⟨i,rfl,_⟩:=h;exact⟨i,rfl⟩
theorem Nt{α:Type}{f:α->PV}(hu:P.underlying t=some (.slice e))(c:∀(m:Nat)(q:PV),m5 P m e q->∃x,q=f x)(h:m5 P n t p):∃l:List α,p=.aq (l.map f):=by
 cases n with
 |zero=>simp[m5]at h
 |succ n=>
  simp only[m5,hu]at h;obtain⟨els,rfl,_,h⟩:=h
  have key:∀els:List PV,(∀q∈els,m5 P n e q)->∃l:List α,els=l.map f:=by
   intro els;induction els with
   |nil=>intro _;exact⟨[],rfl⟩
   |cons q r a=>
    intro h;obtain⟨x,rfl⟩:=c n q (h q (by simp));obtain⟨l,rfl⟩:=a (fun q b=>h q (by simp[b]));exact⟨x::l,rfl⟩
  obtain⟨l,rfl⟩:=key els h;exact⟨l,rfl⟩
theorem vf(hu:P.underlying t=some (.slice e))(a:P.underlying e=some (.int .i64))(h:m5 P n t p):∃L:List Int,p=.aq (L.map vI):=
 Nt hu (fun _ _ h=>pV a h) h
end
end Go.Ab.Lw
namespace Go.Ab.Lw
open Ev
theorem y4{P:Program}{b ts d a:TypeId}{g f1 f2 f3 f:Field}(hi:P.underlying b=some (.int .i64))(hs:P.underlying ts=some .string)(hl:P.underlying d=some (.slice a))
   (e:P.underlying a=some (.struct #[g,f1,f2,f3,f])) (e0:g.type=b) (e1:f1.type=ts) (e2:f2.type=b) (e3:f3.type=b) (e4:f.type=d):
   ∀(n:Nat)(p:PV),m5 P n a p->∃x:Ty,p=x.pv∧x.Nm
 |0,p,h=>by simp[m5]at h
 |n+1,p,h=>by
  simp only[m5,e]at h;obtain⟨ps,rfl,h⟩:=h
  match ps,h with
  |[t,p1,p2,p3,p4],⟨h0,h1,h2,h3,h4,_⟩=>
   rw[e0]at h0;rw[e1]at h1;rw[e2]at h2;rw[e3]at h3;rw[e4]at h4;obtain⟨k,rfl⟩:=pV hi h0;obtain⟨i,rfl⟩:=pV hi h2;obtain⟨m,rfl⟩:=pV hi h3;cases n with
   |zero=>simp[m5]at h4
   |succ n=>
    simp only[m5,hs]at h1;obtain⟨s,rfl,c⟩:=h1;simp only[m5,hl]at h4;obtain⟨els,rfl,_,h4⟩:=h4
    have key:∀els:List PV,(∀q∈els,m5 P n a q)->∃l:List Ty,els=l.map Ty.pv∧∀x∈l,x.Nm:=by
     intro els;induction els with
     |nil=>intro _;exact⟨[],rfl,by simp⟩
     |cons q r j=>
      intro h;obtain⟨x,rfl,hx⟩:=y4 hi hs hl e e0 e1 e2 e3 e4 n q (h q (by simp));obtain⟨l,rfl,hl⟩:=j (fun q o=>h q (by simp[o]));refine⟨x::l,rfl,?_⟩;intro y hy;simp at hy;rcases hy with rfl|hy
      ·exact hx
      ·exact hl y hy
    obtain⟨l,rfl,hl⟩:=key els h4;refine⟨⟨k,s,i,m,l⟩,by simp[a9],⟨?_,hl⟩⟩;unfold maxLen at c;simp only[mE];omega
 termination_by n=>n
def Wy:ae:=
 (.seq
  (.jt [⟨some 9,none,[.t 8,.t 7],.v (.bin .lss)⟩] [0,1,7,8,9])
  (.seq
   (.cond (.t 9)
    .skip
    (.exit 0))
   (.seq
    (.block 1
     (.seq
      (.jt [⟨some 10,none,[.t 8],.v (.mv)⟩,
        ⟨some 5,none,[.t 10],.v (.mv)⟩] [0,1,5,7,8])
      (.seq
       (.jt [⟨some 11,none,[.t 1],.v (.mv)⟩,
         ⟨some 12,none,[.t 0],.v (.mv)⟩,
         ⟨some 13,none,[.t 5],.v (.mv)⟩,
         ⟨some 14,none,[.t 12,.t 13],.v (.eX 1)⟩,
         ⟨some 15,none,[.t 14],.v (.gC 1 false)⟩,
         ⟨some 16,none,[.t 11,.t 15],.v (.bin .eql)⟩] [0,1,5,7,8,16])
       (.cond (.t 16)
        (.seq
         (.jt [⟨some 17,none,[.t 5],.v (.mv)⟩,
           ⟨some 4,none,[.t 17],.v (.mv)⟩] [4])
         .ret)
        .skip))))
    (.jt [⟨some 18,none,[.t 8,.c (.pv (.int .i64 1))],.v (.bin .add)⟩,
      ⟨some 8,none,[.t 18],.v (.mv)⟩] [0,1,7,8]))))
def Yr:ae:=.loop [0,1,7,8] Wy
theorem Nu{st:St}:cl AP Yr st=after (cl AP Yr) (cl AP Wy (norm (restrict [0,1,7,8] st))):=s6
def Wz:aw:=⟨2,19,[.t 4],
 (.seq
  (.jt [⟨some 4,none,[.c (.pv (.int .i64 0))],.v (.mv)⟩] [0,1])
  (.seq
   (.seq
    (.jt [⟨some 6,none,[.t 0],.v (.mv)⟩,
      ⟨some 7,none,[.t 6],.v (.len)⟩,
      ⟨some 8,none,[.c (.pv (.int .i64 0))],.v (.mv)⟩] [0,1,7,8])
    (.block 0
     Yr))
   (.seq
    (.jt [⟨some 4,none,[.c (.pv (.int .i64 (-1)))],.v (.mv)⟩] [4])
    .ret))),none,false⟩
def YQ(g:Nat):aw:=⟨2,9,[.t 4],
 (.seq
  (.jt [⟨some 4,none,[.c (.pv (.bool false))],.v (.mv)⟩] [0,1])
  (.seq
   (.jt [⟨some 5,none,[.t 0],.v (.mv)⟩,
     ⟨some 6,none,[.t 1],.v (.mv)⟩,
     ⟨some 7,none,[.t 5,.t 6],.aH g⟩,
     ⟨some 8,none,[.t 7,.c (.pv (.int .i64 0))],.v (.bin .geq)⟩,
     ⟨some 4,none,[.t 8],.v (.mv)⟩] [4])
   .ret)),none,false⟩
structure WA{α:Type}[DecidableEq α](f:α->PV):Prop where
 el:El f 1 false
 eq:∀x y,bw (.bin .eql) [.pv (f x),.pv (f y)]=some (.pv (.bool (decide (x=y))))
theorem Qw:WA vI:=⟨eV,fun x y=>by simp;rw[zaN];simp⟩
theorem GV:WA PV.str:=⟨FT,fun x y=>by simp;rw[zaN];simp⟩
def Vk{α:Type}(f:α->PV)(s:List α)(y:α)(i:Nat):Option Nat->Option (aR×St)
 |some k=>some (.ret,⟨[(4,.pv (vI (i+k:Nat)))],[],[],[]⟩)
 |none=>some (.exit 0,⟨[(0,.pv (.aq (s.map f))),(1,.pv (f y)),(7,.pv (vI s.length)),(8,.pv (vI s.length)),(9,.pv (.bool false))],[],[],[]⟩)
theorem Zz{α:Type}[DecidableEq α]{f:α->PV}(a:WA f){s:List α}(hS:Sm s)(y:α):∀(n i:Nat),s.length-i=n->i<=s.length->
   cl AP Yr ⟨[(0,.pv (.aq (s.map f))),(1,.pv (f y)),(7,.pv (vI s.length)),(8,.pv (vI i))],[],[],[]⟩=Vk f s y i (bA (fun x=>decide (y=x)) (s.drop i))
 |0,i,hn,hi=>by
  have:i=s.length:=by omega
  subst this;rw[Nu];simp[Wy,bA,Vk]
 |n+1,i,hn,hi=>by
  have hi:i<s.length:=(by omega);obtain⟨x,hx⟩:=aP hi;unfold Sm at hS;have b:=Zz a hS y n (i+1) (by omega) (by omega);simp at b;have h1:=a.el.len x;have h2:=a.el.of x;have h3:=a.eq y x;rw[Nu,aV hx];by_cases e:y=x
  ·rw[zaG e]at h3;simp(disch:=omega)[-getElem?_pos,Wy,hx,hi,e,bA,Vk,h1,h2];rw[<-e]at h3⊢;simp[h3]
  ·rw[zaC e]at h3;simp(disch:=omega)[-getElem?_pos,Wy,hx,hi,e,bA,ah,b,h1,h2,h3];cases bA (fun x=>decide (y=x)) (s.drop (i+1))with
   |none=>rfl
   |some k=>simp[Vk];omega
theorem ZA{α:Type}[DecidableEq α]{f:α->PV}(b:WA f){k:Nat}(a:AP k=some Wz){s:List α}(hS:Sm s){y:α}:(aC AP).p k [.aq (s.map f),f y]=some [vI (lA (bA (fun x=>decide (y=x)) s))]:=by
 have h:=Zz b hS y _ 0 rfl (by omega);simp at h;rw[l_ a rfl (by simp[Wz])];cases hi:bA (fun x=>decide (y=x)) s with
 |none=>rw[hi]at h;simp[Vk]at h;simp[Wz,h,lA]
 |some k=>rw[hi]at h;simp[Vk]at h;simp[Wz,h,lA]
theorem Qx{α:Type}[DecidableEq α]{s:List α}{y:α}:(s.any fun x=>decide (y=x))=decide (y∈s):=by
 rw[zaN];simp
theorem ZB{α:Type}[DecidableEq α]{f:α->PV}(b:WA f){m k:Nat}(hm:AP m=some (YQ k))(a:AP k=some Wz){s:List α}(hS:Sm s){y:α}:(aC AP).p m [.aq (s.map f),f y]=some [.bool (decide (y∈s))]:=by
 have h:=ZA b a hS (y:=y);rw[l_ hm rfl (by simp[YQ]),<-Qx,<-uY];simp[YQ,h]
theorem c98{s:List Int}(hS:Sm s){y:Int}:(aC AP).p 98 [.aq (s.map vI),vI y]=some [.bool (decide (y∈s))]:=ZB Qw (k:=116) rfl rfl hS
theorem ZC{s:List Int}(hS:Sm s)(y:Int):∀(n i:Nat),s.length-i=n->i<=s.length->
   cl AP g95L0 ⟨[(0,.pv (.aq (s.map vI))),(1,.pv (vI y)),(5,.pv (vI i))],[],[],[]⟩=
     if y∈s.drop i then some (.ret,⟨[(4,.pv (.bool true))],[],[],[]⟩)else some (.exit 0,⟨[(0,.pv (.aq (s.map vI))),(1,.pv (vI y)),(5,.pv (vI s.length)),(9,.pv (.bool false))],[],[],[]⟩)
 |0,i,hn,hi=>by
  have:i=s.length:=by omega
  subst this;rw[g95L0e];simp[g95B0]
 |n+1,i,hn,hi=>by
  have hi:i<s.length:=(by omega);obtain⟨x,hx⟩:=aP hi;unfold Sm at hS;have a:=ZC hS y n (i+1) (by omega) (by omega);simp at a;rw[g95L0e,aV hx];by_cases e:x=y
  ·simp(disch:=omega)[-getElem?_pos,g95B0,hx,hi,e]
  ·have b:¬y=x:=fun h=>e h.symm;simp(disch:=omega)[-getElem?_pos,g95B0,hx,hi,e,b,ah,a]
theorem c95{s:List Int}(hS:Sm s){y:Int}:(aC AP).p 95 [.aq (s.map vI),vI y]=some [.bool (decide (y∈s))]:=by
 have h:=ZC hS y _ 0 rfl (by omega);simp at h;rw[az g95];by_cases e:y∈s<;>simp[g95,h,e]
mutual
def Ty.nodes:Ty->List Ty
 |⟨k,n,i,h,as⟩=>⟨k,n,i,h,as⟩::Ty.vg as
def Ty.vg:List Ty->List Ty
 |[]=>[]
 |a::r=>a.nodes++Ty.vg r
end
theorem Ty.xa:∀l:List Ty,Ty.vg l=l.flatMap Ty.nodes
 |[]=>by simp[Ty.vg]
 |a::r=>by simp[Ty.vg,Ty.xa r]
theorem Ty.aM(t:Ty):t.nodes=t::t.args.flatMap Ty.nodes:=by cases t;simp only[Ty.nodes,Ty.xa]
theorem gv{α:Type}[DecidableEq α]:∀{l S:List α},l.Nodup->(∀x∈l,x∈S)->l.length<=S.length
 |[],_,_,_=>by simp
 |x::r,S,hn,h=>by
  have hx:=h x (by simp)
  have hr:=gv (l:=r) (S:=S.erase x) (zcy.1 hn).2 (fun y hy=>by
   rw[List.mem_erase_of_ne]
   ·exact h y (by simp[hy])
   ·rintro rfl;exact(zcy.1 hn).1 hy)
  have:=List.length_erase_of_mem hx;have:0<S.length:=List.length_pos_of_mem hx;simp;omega
def bW(out:List Int)(x:Ty):List Int:=if x.kind=1∧x.id∉out then out++[x.id]else out
structure gQ(S out:List Int):Prop where
 nodup:out.Nodup
 sub:∀x∈out,x∈S
 vT:S.length<1099511627776
theorem gQ.len{S out:List Int}(h:gQ S out):Sm out:=by
 have:=gv h.nodup h.sub;have:=h.vT;unfold Sm;omega
theorem gQ.add{S out:List Int}(h:gQ S out){x:Ty}(hx:x.kind=1->x.id∈S):gQ S (bW out x):=by
 unfold bW;split
 ·rename_i e;refine⟨?_,?_,h.vT⟩
  ·rw[List.nodup_append];refine⟨h.nodup,by simp,?_⟩;intro a d b c;simp at c;subst c
   rintro rfl;exact e.2 d
  ·intro y hy;simp at hy;rcases hy with hy|rfl
   ·exact h.sub y hy
   ·exact hx e.1
 ·exact h
theorem gQ.fold{S:List Int}:∀{l:List Ty}{out:List Int},gQ S out->(∀x∈l,x.kind=1->x.id∈S)->gQ S (l.foldl bW out)
 |[],_,h,_=>h
 |x::r,out,h,hx=>by
  simp only[zaU];exact gQ.fold (h.add (hx x (by simp))) (fun y hy=>hx y (by simp[hy]))
def tf(out:List Int):Sh:=[some [.own (out.map vI) 0]]
theorem c97{S out:List Int}(h:gQ S out)(x:Ty):(aC AP).i 97 [.pv x.pv,.aI 0 0] (tf out) [out.length]=some ([],tf (bW out x),[(bW out x).length]):=by
 have hl:=h.len;have k:=c98 hl (y:=x.id);unfold Sm at hl;have b:(out.length+1)*8<=140737488355328:=by omega
 have a:a7 1 (out.map vI)=true:=eV.head out;rw[aA g97];by_cases e1:x.kind=1
 ·by_cases e2:x.id∈out
  ·rw[zaG e2]at k;simp[g97,tf,bW,e1,e2,k,a]
  ·rw[zaC e2]at k;simp[g97,tf,bW,e1,e2,k,b,a]
 ·simp[g97,tf,bW,e1]
theorem ZD{S:List Int}{t:Ty}(hS:Sm t.args)(h:∀x∈t.args,∀out,gQ S out->(aC AP).i 96 [.pv x.pv,.fn 97 [.aI 0 0]] (tf out) [out.length]=some ([],tf (x.nodes.foldl bW out),[(x.nodes.foldl bW out).length]))
   (d:∀x∈t.args.flatMap Ty.nodes,x.kind=1->x.id∈S):∀(n i:Nat),t.args.length-i=n->i<=t.args.length->∀out,gQ S out->
   cl AP g96L0 ⟨[(1,.fn 97 [.aI 0 0]),(10,.pv (.aq (t.args.map Ty.pv))),(11,.pv (vI t.args.length)),(12,.pv (vI i))],[],tf out,[out.length]⟩=
     some (.exit 0,⟨[(1,.fn 97 [.aI 0 0]),(10,.pv (.aq (t.args.map Ty.pv))),(11,.pv (vI t.args.length)),(12,.pv (vI t.args.length)),(13,.pv (.bool false))],[],tf (((t.args.drop i).flatMap Ty.nodes).foldl bW out),[(((t.args.drop i).flatMap Ty.nodes).foldl bW out).length]⟩)
 |0,i,hn,hi,out,c=>by
  have:i=t.args.length:=by omega
  subst this;rw[g96L0e];simp[g96B0,tf]
 |n+1,i,hn,hi,out,c=>by
  have hi:i<t.args.length:=(by omega);obtain⟨x,hx⟩:=aP hi;unfold Sm at hS;have b:∀y∈x.nodes,y.kind=1->y.id∈S:=fun y hy=>d y (by simp only[zam];exact⟨x,aN hx,hy⟩)
  have k:=h x (aN hx) out c;have a:=ZD hS h d n (i+1) (by omega) (by omega) _ (c.fold b);rw[g96L0e]at a⊢;rw[aV hx];simp[tf]at k a;simp(disch:=omega)[-getElem?_pos,g96B0,tf,hx,hi,k,ah];rw[g96L0e];simp[a]
theorem c96{S:List Int}{t:Ty}(c:t.Ok)(a:∀x∈t.nodes,x.kind=1->x.id∈S):∀out,gQ S out->
   (aC AP).i 96 [.pv t.pv,.fn 97 [.aI 0 0]] (tf out) [out.length]=some ([],tf (t.nodes.foldl bW out),[(t.nodes.foldl bW out).length]):=by
 revert c a
 refine Ty.cB (p:=fun t=>t.Ok->(∀x∈t.nodes,x.kind=1->x.id∈S)->∀out,gQ S out->
   (aC AP).i 96 [.pv t.pv,.fn 97 [.aI 0 0]] (tf out) [out.length]=some ([],tf (t.nodes.foldl bW out),[(t.nodes.foldl bW out).length])) ?_ t
 intro t d c a out b;rw[Ty.aM]at a⊢;have k:=c97 b t;have h:=ZD (S:=S) c.sm (fun x hx out b=>d x hx (c.cY x hx) (fun y hy=>a y (by simp only[zah,zam];exact .inr ⟨x,hx,hy⟩)) out b) (fun x hx=>a x (by simp only[zah];exact .inr hx)) _ 0 rfl (by omega) _ (b.add (a t (by simp)));rw[aA g96];rw[g96L0e]at h;simp[tf]at k h;simp[g96,g96L0e,tf,k,h]
def vars(l:List Ty):List Int:=(l.flatMap Ty.nodes).foldl bW []
theorem ZE{S:List Int}{l:List Ty}(hS:Sm l)(e:∀t∈l,t.Ok)(d:∀x∈l.flatMap Ty.nodes,x.kind=1->x.id∈S):∀(n i:Nat),l.length-i=n->i<=l.length->∀out,gQ S out->
   cl AP g55L0 ⟨[(3,.aI 0 0),(6,.pv (.aq (l.map Ty.pv))),(7,.pv (vI l.length)),(8,.pv (vI i))],[],tf out,[out.length]⟩=
     some (.exit 0,⟨[(3,.aI 0 0),(6,.pv (.aq (l.map Ty.pv))),(7,.pv (vI l.length)),(8,.pv (vI l.length)),(9,.pv (.bool false))],[],tf (((l.drop i).flatMap Ty.nodes).foldl bW out),[(((l.drop i).flatMap Ty.nodes).foldl bW out).length]⟩)
 |0,i,hn,hi,out,c=>by
  have:i=l.length:=by omega
  subst this;rw[g55L0e];simp[g55B0,tf]
 |n+1,i,hn,hi,out,c=>by
  have hi:i<l.length:=(by omega);obtain⟨x,hx⟩:=aP hi;unfold Sm at hS;have a:∀y∈x.nodes,y.kind=1->y.id∈S:=fun y hy=>d y (by simp only[zam];exact⟨x,aN hx,hy⟩)
  have k:=c96 (e x (aN hx)) a out c;have b:=ZE hS e d n (i+1) (by omega) (by omega) _ (c.fold a);rw[g55L0e]at b⊢;rw[aV hx];simp[tf]at k b;simp(disch:=omega)[-getElem?_pos,g55B0,tf,hx,hi,k,ah];rw[g55L0e];simp[b]
theorem m9{S:List Int}(h:S.length<1099511627776):gQ S []:=⟨by simp,by simp,h⟩
theorem c55{S:List Int}(hf:S.length<1099511627776){l:List Ty}(hS:Sm l)(b:∀t∈l,t.Ok)(a:∀x∈l.flatMap Ty.nodes,x.kind=1->x.id∈S):(aC AP).p 55 [.aq (l.map Ty.pv)]=some [.aq ((vars l).map vI)]:=by
 have h:=ZE hS b a _ 0 rfl (by omega) [] (m9 hf);rw[az g55];rw[g55L0e]at h;simp[tf]at h;simp[g55,g55L0e,h,vars]
mutual
def Ty.fw(k:Int):Ty->List Ty
 |⟨kd,n,i,h,as⟩=>if kd=k∧as.length=0 then[⟨kd,n,i,h,as⟩]else Ty.Nv k as
def Ty.Nv(k:Int):List Ty->List Ty
 |[]=>[]
 |a::r=>a.fw k++Ty.Nv k r
end
theorem Ty.GW(k:Int):∀l:List Ty,Ty.Nv k l=l.flatMap (Ty.fw k)
 |[]=>by simp[Ty.Nv]
 |a::r=>by simp[Ty.Nv,Ty.GW k r]
theorem Ty.mi(k:Int)(t:Ty):t.fw k=if t.kind=k∧t.args.length=0 then[t]else t.args.flatMap (Ty.fw k):=by cases t;simp only[Ty.fw,Ty.GW]
noncomputable def iE(out:List Ty)(x:Ty):List Ty:=if x∈out then out else out++[x]
structure gR(S out:List Ty):Prop where
 nodup:out.Nodup
 sub:∀x∈out,x∈S
 vT:S.length<1099511627776
 ok:∀x∈S,x.Ok
theorem gR.len{S out:List Ty}(h:gR S out):Sm out:=by
 have:=gv h.nodup h.sub;have:=h.vT;unfold Sm;omega
theorem gR.add{S out:List Ty}(h:gR S out){x:Ty}(hx:x∈S):gR S (iE out x):=by
 unfold iE;split
 ·exact h
 ·rename_i e;refine⟨?_,?_,h.vT,h.ok⟩
  ·rw[List.nodup_append];refine⟨h.nodup,by simp,?_⟩;intro a d b c;simp at c;subst c
   rintro rfl;exact e d
  ·intro y hy;simp at hy;rcases hy with hy|rfl
   ·exact h.sub y hy
   ·exact hx
theorem gR.fold{S:List Ty}:∀{l:List Ty}{out:List Ty},gR S out->(∀x∈l,x∈S)->gR S (l.foldl iE out)
 |[],_,h,_=>h
 |x::r,out,h,hx=>by
  simp only[zaU];exact gR.fold (h.add (hx x (by simp))) (fun y hy=>hx y (by simp[hy]))
theorem WB{S out:List Ty}(h:gR S out)(t:Ty):∀(n i:Nat),out.length-i=n->i<=out.length->
   cl AP g99L0 ⟨[(0,.own (out.map Ty.pv) 0),(4,.au 4 0),(7,.pv (vI i))],[(4,[.pv (vI t.kind),.pv (.str t.name),.pv (vI t.id),.pv (vI t.home),.pv (.aq (t.args.map Ty.pv))])],[],[out.length]⟩=
     if t∈out.drop i then some (.ret,⟨[(6,.own (out.map Ty.pv) 0)],[],[],[out.length]⟩)
     else some (.exit 0,⟨[(0,.own (out.map Ty.pv) 0),(4,.au 4 0),(7,.pv (vI out.length)),(22,.pv (.bool false))],[(4,[.pv (vI t.kind),.pv (.str t.name),.pv (vI t.id),.pv (vI t.home),.pv (.aq (t.args.map Ty.pv))])],[],[out.length]⟩)
 |0,i,hn,hi=>by
  have:i=out.length:=by omega
  subst this;rw[g99L0e];simp[g99B0]
 |n+1,i,hn,hi=>by
  have hi:i<out.length:=(by omega);obtain⟨x,hx⟩:=aP hi;have hS:=h.len;unfold Sm at hS;have k:=c20 (b:=t) (h.ok x (h.sub x (aN hx)));have a:=WB h t n (i+1) (by omega) (by omega);rw[g99L0e]at a⊢;rw[aV hx];simp at a k;by_cases e:x=t
  ·subst e;rw[zaG rfl]at k;simp(disch:=omega)[-getElem?_pos,g99B0,hx,hi,k]
  ·have c:¬t=x:=fun h=>e h.symm;rw[zaC e]at k;simp(disch:=omega)[-getElem?_pos,g99B0,hx,hi,k,c,ah];rw[g99L0e];simp[a]
theorem WC{S:List Ty}{kd:Int}{t:Ty}(hS:Sm t.args)(h:∀x∈t.args,∀out,gR S out->(aC AP).i 99 [.own (out.map Ty.pv) 0,.pv x.pv,.pv (vI kd)] [] [out.length]=some ([.own (((x.fw kd).foldl iE out).map Ty.pv) 0],[],[((x.fw kd).foldl iE out).length]))
   (d:∀x∈t.args.flatMap (Ty.fw kd),x∈S):∀(n i:Nat),t.args.length-i=n->i<=t.args.length->∀out,gR S out->
   cl AP g99L1 ⟨[(0,.own (out.map Ty.pv) 0),(2,.pv (vI kd)),(4,.au 4 0),(8,.pv (vI i))],[(4,[.pv (vI t.kind),.pv (.str t.name),.pv (vI t.id),.pv (vI t.home),.pv (.aq (t.args.map Ty.pv))])],[],[out.length]⟩=
     some (.exit 2,⟨[(0,.own ((((t.args.drop i).flatMap (Ty.fw kd)).foldl iE out).map Ty.pv) 0),(2,.pv (vI kd)),(4,.au 4 0),(8,.pv (vI t.args.length)),(40,.pv (.bool false))],[(4,[.pv (vI t.kind),.pv (.str t.name),.pv (vI t.id),.pv (vI t.home),.pv (.aq (t.args.map Ty.pv))])],[],[(((t.args.drop i).flatMap (Ty.fw kd)).foldl iE out).length]⟩)
 |0,i,hn,hi,out,c=>by
  have:i=t.args.length:=by omega
  subst this;rw[g99L1e];simp[g99B1]
 |n+1,i,hn,hi,out,c=>by
  have hi:i<t.args.length:=(by omega);obtain⟨x,hx⟩:=aP hi;unfold Sm at hS;have b:∀y∈x.fw kd,y∈S:=fun y hy=>d y (by simp only[zam];exact⟨x,aN hx,hy⟩)
  have k:=h x (aN hx) out c;have a:=WC hS h d n (i+1) (by omega) (by omega) _ (c.fold b);rw[g99L1e]at a⊢;rw[aV hx];simp at k a;simp(disch:=omega)[-getElem?_pos,g99B1,hx,hi,k,ah];rw[g99L1e];simp[a]
theorem c99{S:List Ty}{kd:Int}{t:Ty}(c:t.Ok)(a:∀x∈t.fw kd,x∈S):∀out,gR S out->
   (aC AP).i 99 [.own (out.map Ty.pv) 0,.pv t.pv,.pv (vI kd)] [] [out.length]=some ([.own (((t.fw kd).foldl iE out).map Ty.pv) 0],[],[((t.fw kd).foldl iE out).length]):=by
 revert c a
 refine Ty.cB (p:=fun t=>t.Ok->(∀x∈t.fw kd,x∈S)->∀out,gR S out->
   (aC AP).i 99 [.own (out.map Ty.pv) 0,.pv t.pv,.pv (vI kd)] [] [out.length]=some ([.own (((t.fw kd).foldl iE out).map Ty.pv) 0],[],[((t.fw kd).foldl iE out).length])) ?_ t
 intro t f c a out b;rw[Ty.mi]at a⊢;have hl:=b.len;unfold Sm at hl;have g:(out.length+1)*64<=140737488355328:=by omega
 rw[aA g99];by_cases e:t.kind=kd∧t.args.length=0
 ·rw[zak e]at a⊢;obtain⟨e1,e2⟩:=e;subst e1;have e3:t.args=[]:=by simpa using e2
  have h:=WB b t _ 0 rfl (by omega);rw[g99L0e]at h;simp[e3]at h;by_cases em:t∈out
  ·simp[em]at h;have d:iE out t=out:=by simp[iE,em]
   simp[g99,e3,g99L0e,h,d]
  ·simp[em]at h;have d:iE out t=out++[t]:=by simp[iE,em]
   simp[g99,e3,g99L0e,h,d,g]
 ·rw[zad e]at a⊢;have h:=WC (S:=S) (kd:=kd) c.sm (fun x hx out b=>f x hx (c.cY x hx) (fun y hy=>a y (by simp only[zam];exact⟨x,hx,hy⟩)) out b) a _ 0 rfl (by omega) out b;rw[g99L1e]at h;simp at h;by_cases e1:t.kind=kd
  ·have e2:¬t.args.length=0:=fun h=>e ⟨e1,h⟩;have e3:¬t.args=[]:=by simpa using e2
   subst e1;simp[g99,e2,e3,g99L1e,h]
  ·simp[g99,e1,g99L1e,h]
def qN(out:List Int)(x:Ty):List Int:=if x.id∈out then out else out++[x.id]
noncomputable def nK(l:List Ty):List Int:=((l.flatMap (Ty.fw 1)).foldl iE []).foldl qN []
theorem WD{S:List Ty}{l:List Ty}(hS:Sm l)(e:∀t∈l,t.Ok)(d:∀x∈l.flatMap (Ty.fw 1),x∈S):∀(n i:Nat),l.length-i=n->i<=l.length->∀out,gR S out->
   cl AP g56L0 ⟨[(0,.pv (.aq (l.map Ty.pv))),(3,.own (out.map Ty.pv) 0),(4,.pv (vI i))],[],[],[out.length]⟩=
     some (.exit 0,⟨[(0,.pv (.aq (l.map Ty.pv))),(3,.own ((((l.drop i).flatMap (Ty.fw 1)).foldl iE out).map Ty.pv) 0),(4,.pv (vI l.length)),(10,.pv (.bool false))],[],[],[(((l.drop i).flatMap (Ty.fw 1)).foldl iE out).length]⟩)
 |0,i,hn,hi,out,c=>by
  have:i=l.length:=by omega
  subst this;rw[g56L0e];simp[g56B0]
 |n+1,i,hn,hi,out,c=>by
  have hi:i<l.length:=(by omega);obtain⟨x,hx⟩:=aP hi;unfold Sm at hS;have a:∀y∈x.fw 1,y∈S:=fun y hy=>d y (by simp only[zam];exact⟨x,aN hx,hy⟩)
  have k:=c99 (kd:=1) (e x (aN hx)) a out c;have b:=WD hS e d n (i+1) (by omega) (by omega) _ (c.fold a);rw[g56L0e]at b⊢;rw[aV hx];simp at k b;simp(disch:=omega)[-getElem?_pos,g56B0,hx,hi,k,ah];rw[g56L0e];simp[b]
theorem Nw{l:List Ty}{out:List Int}:(l.foldl qN out).length<=out.length+l.length:=by
 induction l generalizing out with
 |nil=>simp
 |cons x r a=>
  simp only[zaU,zax];have:=a (out:=qN out x);have h2:(qN out x).length<=out.length+1:=by unfold qN;split<;>simp
  omega
theorem Uc{S l:List Ty}(b:gR S l):∀(n i:Nat),l.length-i=n->i<=l.length->∀out:List Int,out.length<=i->
   cl AP g56L1 ⟨[(3,.own (l.map Ty.pv) 0),(5,.own (out.map vI) 1),(6,.pv (vI i))],[],[],[l.length,out.length]⟩=
     some (.exit 2,⟨[(3,.own (l.map Ty.pv) 0),(5,.own (((l.drop i).foldl qN out).map vI) 1),(6,.pv (vI l.length)),(22,.pv (.bool false))],[],[],[l.length,((l.drop i).foldl qN out).length]⟩)
 |0,i,hn,hi,out,d=>by
  have:i=l.length:=by omega
  subst this;rw[g56L1e];simp[g56B1]
 |n+1,i,hn,hi,out,d=>by
  have hi:i<l.length:=(by omega);obtain⟨x,hx⟩:=aP hi;have hS:=b.len;unfold Sm at hS;have k:=c95 (s:=out) (by unfold Sm;omega) (y:=x.id);have g:(out.length+1)*8<=140737488355328:=(by omega);have f:a7 1 (out.map vI)=true:=eV.head out;rw[aV hx];by_cases e:x.id∈out
  ·have a:=Uc b n (i+1) (by omega) (by omega) out (by omega);have c:qN out x=out:=(by simp[qN,e]);rw[g56L1e]at a⊢;rw[zaG e]at k;simp at a;simp(disch:=omega)[-getElem?_pos,g56B1,hx,hi,k,ah];rw[g56L1e];simp[a,c]
  ·have a:=Uc b n (i+1) (by omega) (by omega) (out++[x.id]) (by simp;omega);have c:qN out x=out++[x.id]:=(by simp[qN,e]);rw[g56L1e]at a⊢;rw[zaC e]at k;simp at a;simp(disch:=omega)[-getElem?_pos,g56B1,hx,hi,k,ah,g,f];rw[g56L1e];simp[a,c]
theorem c56{S:List Ty}(hf:S.length<1099511627776)(a:∀x∈S,x.Ok){l:List Ty}(hS:Sm l)(c:∀t∈l,t.Ok)(b:∀x∈l.flatMap (Ty.fw 1),x∈S):(aC AP).p 56 [.aq (l.map Ty.pv)]=some [.aq ((nK l).map vI)]:=by
 have c0:gR S []:=⟨by simp,by simp,hf,a⟩;have h1:=WD hS c b _ 0 rfl (by omega) [] c0;have h2:=Uc (c0.fold (l:=l.flatMap (Ty.fw 1)) b) _ 0 rfl (by omega) [] (by simp);rw[az g56];rw[g56L0e]at h1;rw[g56L1e]at h2;simp at h1 h2;simp[g56,g56L0e,h1,g56L1e,h2,nK]
theorem KE{t:Ty}(b:t.Wf):∀out,t.nodes.foldl bW out=(t.fw 1).foldl bW out:=by
 revert b
 refine Ty.cB (p:=fun t=>t.Wf->∀out,t.nodes.foldl bW out=(t.fw 1).foldl bW out) ?_ t;intro t d b out
 have flat:∀(as:List Ty),(∀x∈as,x∈t.args)->∀out,(as.flatMap Ty.nodes).foldl bW out=(as.flatMap (Ty.fw 1)).foldl bW out:=by
  intro as;induction as with
  |nil=>intro _ _;rfl
  |cons a r c=>
   intro h out;simp only[zas,zcj];rw[d a (h a (by simp)) (b.cY a (h a (by simp))),c (fun x hx=>h x (by simp[hx]))]
 rw[Ty.aM,Ty.mi];by_cases e:t.kind=1
 ·have f:=b.var e;simp[e,f]
 ·have:bW out t=out:=by simp[bW,e]
  simp only[zaU,this];rw[zad (fun h=>e h.1)];exact flat t.args (fun _ h=>h) out
theorem Nx{k:Int}{t x:Ty}(h:x∈t.fw k):x.kind=k∧x.args=[]:=by
 revert h
 refine Ty.cB (p:=fun t=>x∈t.fw k->x.kind=k∧x.args=[]) ?_ t;intro t a h;rw[Ty.mi]at h;split at h
 ·rename_i e;simp at h;subst h;exact⟨e.1,by simpa using e.2⟩
 ·simp only[zam]at h;obtain⟨y,hy,hx⟩:=h;exact a y hy hx
theorem Ny{l:List Ty}{out:List Int}{x:Ty}(b:x.kind=1)(h:x∈l):x.id∈l.foldl bW out:=by
 have mono:∀(l:List Ty)(out:List Int)(i:Int),i∈out->i∈l.foldl bW out:=by
  intro l;induction l with
  |nil=>intro out i h;exact h
  |cons y r a=>
   intro out i h;simp only[zaU];refine a _ _ ?_;unfold bW;split<;>simp[h]
 induction l generalizing out with
 |nil=>simp at h
 |cons y r a=>
  simp only[zaU];simp at h;rcases h with rfl|h
  ·refine mono _ _ _ ?_;unfold bW;split
   ·simp
   ·rename_i e;simp[b]at e;exact e
  ·exact a h
theorem KF(l:List Ty)(a:∀x∈l,x.kind=1):∀acc:List Ty,(l.foldl iE acc).foldl bW []=l.foldl bW (acc.foldl bW []):=by
 induction l with
 |nil=>intro acc;rfl
 |cons x r b=>
  intro acc;simp only[zaU];rw[b (fun y hy=>a y (by simp[hy]))];congr 1;unfold iE;split
  ·rename_i e;have:=Ny (out:=[]) (a x (by simp)) e;simp[bW,this]
  ·simp
theorem KH(l:List Ty)(a:∀x∈l,x.kind=1):∀out,l.foldl qN out=l.foldl bW out:=by
 induction l with
 |nil=>intro out;rfl
 |cons x r b=>
  intro out;simp only[zaU];rw[b (fun y hy=>a y (by simp[hy]))];congr 1;unfold qN bW;have:=a x (by simp);by_cases e:x.id∈out<;>simp[e,this]
theorem Nz{l acc:List Ty}{x:Ty}(h:x∈l.foldl iE acc):x∈acc∨x∈l:=by
 induction l generalizing acc with
 |nil=>exact .inl h
 |cons y r a=>
  simp only[zaU]at h;rcases a h with h|h
  ·unfold iE at h;split at h
   ·exact .inl h
   ·simp at h;rcases h with h|rfl
    ·exact .inl h
    ·right;simp
  ·right;simp[h]
theorem kg{l:List Ty}(e:∀t∈l,t.Wf):nK l=vars l:=by
 have b:∀x∈l.flatMap (Ty.fw 1),x.kind=1:=fun x hx=>by
  simp only[zam]at hx;obtain⟨t,_,h⟩:=hx;exact(Nx h).1
 unfold nK vars;rw[KH _ (fun x hx=>by rcases Nz hx with h|h;simp at h;exact b x h),KF _ b]
 have:∀(l:List Ty),(∀t∈l,t.Wf)->∀out,(l.flatMap (Ty.fw 1)).foldl bW out=(l.flatMap Ty.nodes).foldl bW out:=by
  intro l;induction l with
  |nil=>intro _ _;rfl
  |cons a r c=>
   intro h out;simp only[zas,zcj];rw[KE (h a (by simp)),c (fun t d=>h t (by simp[d]))]
 exact this l e []
theorem nL{k:Int}{t x:Ty}(h:x∈t.fw k):x∈t.nodes:=by
 revert h
 refine Ty.cB (p:=fun t=>x∈t.fw k->x∈t.nodes) ?_ t;intro t a h;rw[Ty.mi]at h;rw[Ty.aM];split at h
 ·simp at h;subst h;simp
 ·simp only[zam]at h;obtain⟨y,hy,hx⟩:=h;simp only[zah,zam];exact .inr ⟨y,hy,a y hy hx⟩
theorem c176{t:Ty}:(aC AP).p 176 [t.pv]=some [(As.mk 0 t).pv]:=by
 rw[az g176];simp[g176]
theorem NA{a b:Sc}:a=b<->a.id=b.id∧a.ty=b.ty:=by cases a;cases b;simp
theorem FY{a b:En}:a=b<->a.name=b.name∧a.sc=b.sc:=by cases a;cases b;simp
theorem c183{a b:Sc}(c:a.ty.Ok):(aC AP).p 183 [a.pv,b.pv]=some [.bool (decide (a=b))]:=by
 have k:=c20 (b:=b.ty) c;rw[az g183];simp at k;by_cases e:a.id=b.id
 ·have:decide (a=b)=decide (a.ty=b.ty):=by rw[zaN];simp[NA,e]
  simp[g183,k,e,this]
 ·have:decide (a=b)=false:=by simp[NA,e]
  simp[g183,e,this]
theorem c177{l:List En}(hS:Sm l){n:List UInt8}{c:Sc}:(aC AP).p 177 [.aq (l.map En.pv),.str n,c.pv]=some [.aq ((l++[En.mk n c]).map En.pv)]:=by
 have k:=Wx (m:=209) (sz:=7) rfl (l:=l.map En.pv) (sh:=[]) (ts:=[]);unfold Sm at hS;have a:(l.length+1)*88<=140737488355328:=by omega
 rw[az g177];simp at k;simp[g177,k,a]
theorem c179{l:List En}(hS:Sm l){n:List UInt8}{c:Sc}:(aC AP).p 179 [.aq (l.map En.pv),.str n,c.pv]=some [.aq ((l++[En.mk n c]).map En.pv)]:=by
 unfold Sm at hS;have d:(l.length+1)*88<=140737488355328:=by omega
 have b:l.length*88<=140737488355328:=by omega
 rw[az g179];cases l with
 |nil=>simp[g179]
 |cons a r=>
  simp at d b;simp[g179,d,b]
theorem WE{a b:List En}(hS:Sm a)(hl:a.length=b.length)(h:∀x∈a,x.sc.ty.Ok):∀(n i:Nat),a.length-i=n->i<=a.length->
   cl AP g178L0 ⟨[(0,.pv (.aq (a.map En.pv))),(1,.pv (.aq (b.map En.pv))),(5,.pv (.int .i64 i))],[],[],[]⟩=
     if a.drop i=b.drop i then some (.exit 0,⟨[(0,.pv (.aq (a.map En.pv))),(1,.pv (.aq (b.map En.pv))),(5,.pv (.int .i64 a.length)),(14,.pv (.bool false))],[],[],[]⟩)
     else some (.ret,⟨[(4,.pv (.bool false))],[],[],[]⟩)
 |0,i,hn,hi=>by
  have:i=a.length:=by omega
  subst this;rw[g178L0e];simp[g178B0,hl]
 |n+1,i,hn,hi=>by
  have hi:i<a.length:=(by omega);obtain⟨x,hx⟩:=aP hi;obtain⟨y,hy⟩:=aP (hl ▸ hi);have c:=c183 (b:=y.sc) (h x (aN hx));simp at c;rw[g178L0e,aV hx,aV hy];unfold Sm at hS;have d:=WE hS hl h n (i+1) (by omega) (by omega);simp at d;by_cases e1:x.name=y.name
  ·by_cases e2:x.sc=y.sc
   ·have e:x=y:=FY.2 ⟨e1,e2⟩;subst e;simp at c;simp(disch:=omega)[-getElem?_pos,g178B0,hx,hy,hi,c,ah,d]
   ·have e:¬x=y:=fun e=>e2 (FY.1 e).2;rw[zaC e2]at c;simp(disch:=omega)[-getElem?_pos,g178B0,hx,hy,hi,c,ah,d,e,e1]
  ·have e:¬x=y:=fun e=>e1 (FY.1 e).1;simp(disch:=omega)[-getElem?_pos,g178B0,hx,hy,hi,c,ah,d,e,e1]
theorem c178{a b:List En}(hS:Sm a)(h:∀x∈a,x.sc.ty.Ok):(aC AP).p 178 [.aq (a.map En.pv),.aq (b.map En.pv)]=some [.bool (decide (a=b))]:=by
 rw[az g178];by_cases hl:a.length=b.length
 ·have c:=WE hS hl h _ 0 rfl (by omega);simp at c;simp[g178,hl,c];by_cases e:a=b<;>simp[e]
 ·have:¬a=b:=fun e=>hl (by rw[e]);simp[g178,hl,this];omega
def a8:List En->List En
 |[]=>[]
 |a::r=>if(r.any fun x=>decide (x.name=a.name))=true then a8 r else a::a8 r
@[simp] theorem WG{α:Type}{l:List α}{x:α}:(l++[x]).take (l.length+1)=l++[x]:=by rw[zaw];simp
def zM(x:En):List AV:=[.pv (.str x.name),.pv (vI x.sc.id),.pv (vI x.sc.ty.kind),.pv (.str x.sc.ty.name),.pv (vI x.sc.ty.id),.pv (vI x.sc.ty.home),.pv (.aq (x.sc.ty.args.map Ty.pv))]
theorem c212(sh:Sh)(b:aT sh)(a x:En):(aC AP).i 212 [.pv x.pv,.aI sh.length 0] (sh++[some (zM a)]) []=some ([.pv (.bool (decide (x.name=a.name)))],sh++[some (zM a)],[]):=by
 have c:aT (sh++[some (zM a)]):=b.app (aT.one (by simp[zM]));rw[aA g212];have:=c.norm;simp[zM]at this;simp[g212,zM,this];by_cases e:x.name=a.name<;>simp[e]
theorem c211{s:List En}(hS:Sm s)(sh:Sh)(c:aT sh)(a:En):(aC AP).i 211 [.pv (.aq (s.map En.pv)),.fn 212 [.aI sh.length 0]] (sh++[some (zM a)]) []=some ([.pv (.bool (s.any fun x=>decide (x.name=a.name)))],sh++[some (zM a)],[]):=by
 have b:aT (sh++[some (zM a)]):=c.app (aT.one (by simp[zM]));refine Qv No (m:=211) (k:=234) rfl rfl hS b (by simp) (by simp) (by simp) ?_;intro x _;have k:=c212 sh c a x;have h1:=b.norm;have h2:=b.shift;simp at k;simp[h1,h2,k]
theorem NB{sz:Nat}{l:List PV}{k:IntKind}{h:Int}(h0:0<=h)(h1:h<=l.length)(hs:a7 sz l=true):cX false sz true false false [.pv (.aq l),.pv (.int k h)]=some (.pv (.aq (l.drop h.toNat))):=by
 simp[cX,db,dY,h0,h1,hs]
theorem Ud{l:List En}(hS:Sm l):∀(n i:Nat),l.length-i=n->i<=l.length->∀(acc:List En)(sh:Sh),acc.length<=i->aT sh->∃sh',aT sh' ∧
   cl AP g182L0 ⟨[(0,.pv (.aq (l.map En.pv))),(3,.own (acc.map En.pv) 0),(6,.pv (.aq (l.map En.pv))),(7,.pv (vI l.length)),(8,.pv (vI i))],[],sh,[acc.length]⟩=
     some (.exit 0,⟨[(0,.pv (.aq (l.map En.pv))),(3,.own ((acc++a8 (l.drop i)).map En.pv) 0),(6,.pv (.aq (l.map En.pv))),(7,.pv (vI l.length)),(8,.pv (vI l.length)),(9,.pv (.bool false))],[],sh',[(acc++a8 (l.drop i)).length]⟩)
 |0,i,hn,hi,acc,sh,o,d=>by
  have:i=l.length:=by omega
  subst this;refine⟨sh,d,?_⟩;rw[g182L0e];simp[g182B0,a8,d.norm]
 |n+1,i,hn,hi,acc,sh,o,d=>by
  have hi:i<l.length:=(by omega);obtain⟨x,hx⟩:=aP hi;have f:aT (sh++[some (zM x)]):=d.app (aT.one (by simp[zM]));have g:Sm (l.drop (i+1)):=(by unfold Sm at hS⊢;simp;omega);have k:=c211 g sh d x;unfold Sm at hS;have m:(acc.length+1)*88<=140737488355328:=(by omega);have h1:=f.norm;have h2:=f.shift;have b:=NB (sz:=7) (l:=l.map En.pv) (k:=.i64) (h:=(i:Int)+1) (by omega) (by simp;omega) (by simp);have hd:((i:Int)+1).toNat=i+1:=(by omega);rw[hd]at b;rw[aV hx];cases e:(l.drop (i+1)).any fun y=>decide (y.name=x.name)with
  |true=>
   obtain⟨sh',c,a⟩:=Ud hS n (i+1) (by omega) (by omega) acc (sh++[some (zM x)]) (by omega) f;refine⟨sh',c,?_⟩;have j:a8 (x::l.drop (i+1))=a8 (l.drop (i+1)):=by simp only[a8,e,za0]
   rw[g182L0e]at a⊢;rw[e]at k;simp[zM]at k h1 h2;simp[zM,h1]at a;simp(disch:=omega)[-getElem?_pos,g182B0,hx,hi,ah,d.norm,b,k,h1,h2,j];rw[g182L0e];simp[a,h1]
  |false=>
   obtain⟨sh',c,a⟩:=Ud hS n (i+1) (by omega) (by omega) (acc++[x]) (sh++[some (zM x)]) (by simp;omega) f;refine⟨sh',c,?_⟩;have j:a8 (x::l.drop (i+1))=x::a8 (l.drop (i+1)):=by simp only[a8,e];simp
   rw[g182L0e]at a⊢;rw[e]at k;simp[zM]at k h1 h2;simp[zM,h1]at a;simp(disch:=omega)[-getElem?_pos,g182B0,hx,hi,ah,d.norm,b,k,h1,h2,j,m];rw[g182L0e];simp[a,h1]
theorem c182{l:List En}(hS:Sm l):(aC AP).p 182 [.aq (l.map En.pv)]=some [.aq ((a8 l).map En.pv)]:=by
 obtain⟨sh',b,h⟩:=Ud hS _ 0 rfl (by omega) [] [] (by simp) (by intro cs a;simp at a);rw[az g182];rw[g182L0e]at h;simp at h;simp[g182,g182L0e,h]
theorem any_none{r:List En}{a:En}:(r.any fun x=>decide (x.name=a.name))=true<->∃c,m8 r a.name=some c:=by
 induction r with
 |nil=>simp[m8]
 |cons b r d=>
  simp only[zcI,zbh,d,m8,zaW];cases h:m8 r a.name with
  |some c=>simp
  |none=>by_cases e:b.name=a.name<;>simp[e]
theorem cS(l:List En):∀x∈a8 l,x∈l:=by
 induction l with
 |nil=>simp[a8]
 |cons a r b=>
  intro x hx;simp only[a8]at hx;split at hx
  ·simp[b x hx]
  ·simp at hx;rcases hx with rfl|hx
   ·simp
   ·simp[b x hx]
theorem d6(l:List En):(a8 l).length<=l.length:=by
 induction l with
 |nil=>simp[a8]
 |cons a r b=>
  simp only[a8];split<;>simp<;>omega
def varNames:List (List UInt8):=[[120],[121],[122],[102],[103],[118,49],[118,50],[105,100]]
def bF(ids:List Int):List Int->List As->List As
 |[],acc=>acc
 |v::r,acc=>bF ids r (if v∈ids then acc++[⟨v,aX acc.length⟩]else acc)
def dB(ids:List Int)(t:Ty)(vs:List Int):Sc:=⟨(bF ids vs []).length,t.sub (bF ids vs [])⟩
theorem Ue{t:Ty}{ids vs:List Int}(hS:Sm vs)(hi:Sm ids):∀(n i:Nat),vs.length-i=n->i<=vs.length->∀acc:List As,acc.length<=i->
   cl AP g208L0 ⟨[(1,.pv (.aq (ids.map vI))),(2,.au 2 0),(4,.au 4 0),(5,.pv (.aq (vs.map vI))),(6,.own (acc.map As.pv) 0),(7,.pv (vI i))],[(2,[.pv (vI t.kind),.pv (.str t.name),.pv (vI t.id),.pv (vI t.home),.pv (.aq (t.args.map Ty.pv))]),(4,[.pv (vI 0),.pv (vI 0),.pv (.str []),.pv (vI 0),.pv (vI 0),.own [] 1])],[],[acc.length,0]⟩=
     some (.exit 0,⟨[(1,.pv (.aq (ids.map vI))),(2,.au 2 0),(4,.au 4 0),(5,.pv (.aq (vs.map vI))),(6,.own ((bF ids (vs.drop i) acc).map As.pv) 0),(7,.pv (vI vs.length)),(14,.pv (.bool false))],[(2,[.pv (vI t.kind),.pv (.str t.name),.pv (vI t.id),.pv (vI t.home),.pv (.aq (t.args.map Ty.pv))]),(4,[.pv (vI 0),.pv (vI 0),.pv (.str []),.pv (vI 0),.pv (vI 0),.own [] 1])],[],[(bF ids (vs.drop i) acc).length,0]⟩)
 |0,i,hn,a,acc,g=>by
  have:i=vs.length:=by omega
  subst this;rw[g208L0e];simp[g208B0,bF]
 |n+1,i,hn,a,acc,g=>by
  have a:i<vs.length:=(by omega);obtain⟨x,hx⟩:=aP a;unfold Sm at hS;have k:=c95 hi (y:=x);have d:=c72 (n:=acc.length);have f:(acc.length+1)*72<=140737488355328:=(by omega);rw[aV hx];by_cases e:x∈ids
  ·have b:=Ue (t:=t) hS hi n (i+1) (by omega) (by omega) (acc++[⟨x,aX acc.length⟩]) (by simp;omega);have c:bF ids (x::vs.drop (i+1)) acc=bF ids (vs.drop (i+1)) (acc++[⟨x,aX acc.length⟩]):=(by simp[bF,e]);rw[c];rw[g208L0e]at b⊢;rw[zaG e]at k;simp[aX]at b d;simp(disch:=omega)[-getElem?_pos,g208B0,hx,a,k,d,ah,f,aX];rw[g208L0e];simp[b,aX]
  ·have b:=Ue (t:=t) hS hi n (i+1) (by omega) (by omega) acc (by omega);have c:bF ids (x::vs.drop (i+1)) acc=bF ids (vs.drop (i+1)) acc:=(by simp[bF,e]);rw[c];rw[g208L0e]at b⊢;rw[zaC e]at k;simp at b;simp(disch:=omega)[-getElem?_pos,g208B0,hx,a,k,ah];rw[g208L0e];simp[b]
theorem o8{ids:List Int}:∀(vs:List Int)(acc:List As),(bF ids vs acc).length<=acc.length+vs.length
 |[],acc=>by simp[bF]
 |v::r,acc=>by
  simp only[bF];have:=o8 (ids:=ids) r (if v∈ids then acc++[⟨v,aX acc.length⟩]else acc);split at this<;>simp at this⊢<;>(split<;>simp_all<;>omega)
structure Qy(t:Ty):Prop where
 ok:t.Ok
 wf:t.Wf
 vT:∃S:List Ty,S.length<1099511627776∧(∀x∈S,x.Ok)∧∀x∈t.fw 1,x∈S
theorem vh{t:Ty}(h:Qy t):Sm (nK [t]):=by
 obtain⟨S,hf,a,b⟩:=h.vT;have c0:gR S []:=⟨by simp,by simp,hf,a⟩;have:=(c0.fold (l:=[t].flatMap (Ty.fw 1)) (by simpa using b)).len;unfold Sm at*;have h2:=Nw (l:=([t].flatMap (Ty.fw 1)).foldl iE []) (out:=[]);unfold nK;simp at this h2⊢;omega
theorem c208{t:Ty}(h:Qy t){ids:List Int}(hi:Sm ids):(aC AP).p 208 [t.pv,.aq (ids.map vI)]=some [(dB ids t (vars [t])).pv]:=by
 obtain⟨S,hf,d,f⟩:=h.vT;have b:=c56 hf d (l:=[t]) (by simp[Sm]) (by simpa using h.ok) (by simpa using f);have c:=vh h;rw[kg (by simpa using h.wf)]at b c;have a:=Ue (t:=t) c hi _ 0 rfl (by omega) [] (by simp);have hl:=o8 (ids:=ids) (vars [t]) [];have e:=c46 (s:=bF ids (vars [t]) []) (by unfold Sm at c⊢;simp at hl;omega) h.ok;rw[az g208];rw[g208L0e]at a;simp at b a e;simp[g208,b,g208L0e,a,e,dB]
theorem c70_3{sh:Sh}(h:Calm sh):(aC AP).i 70 [.pv (vI 3)] sh []=some ([.own ([aQ 0,aQ 1,aQ 2].map Ty.pv) 0],sh,[3]):=by
 unfold Calm at h;rw[aA g70];have c0:=c63 (n:=0);have c1:=c63 (n:=1);have c2:=c63 (n:=2);simp at c0 c1 c2;simp(disch:=omega)[-getElem?_pos,g70,g70L0e,g70B0,ah,c0,c1,c2,h,aQ]
theorem bQ{t:Ty}(h:t.args=[]):t.Ok:=⟨by rw[h];simp[Sm],by rw[h];simp⟩
theorem xd{ids:List Int}:∀(vs:List Int)(acc:List As),(∀a∈acc,a.ty.Ok)->∀a∈bF ids vs acc,a.ty.Ok
 |[],acc,h=>by simpa[bF]using h
 |v::r,acc,h=>by
  simp only[bF];refine xd r _ ?_;split
  ·intro a b;simp at b;rcases b with b|rfl
   ·exact h a b
   ·exact bQ rfl
  ·exact h
theorem o9{ids vs:List Int}{t:Ty}(h:t.Ok):(dB ids t vs).ty.Ok:=uW (xd vs [] (by simp)) h
inductive iz (D:Dt->Prop) (lv:List Ty):Nat->Ty->Prop
 |leaf {n:Nat} {t:Ty}:t∈lv->iz D lv n t
 |int {n:Nat}:iz D lv n bj
 |dK {n:Nat} {d:Dt} {args:List Ty}:D d->args.length=d.params.length->(∀x∈args,iz D lv n x)->iz D lv (n+1) ⟨4,d.name,0,0,args⟩
 |arrow {n:Nat} {a b:Ty}:iz D lv n a->iz D lv n b->iz D lv (n+1) ⟨4,[45,62],0,0,[a,b]⟩
theorem iz.ok{D:Dt->Prop}(b:∀d,D d->d.params.length<=8){lv:List Ty}(h:∀t∈lv,t.args=[]){n:Nat}{t:Ty}(m:iz D lv n t):t.Ok:=by
 induction m with
 |leaf hl=>exact bQ (h _ hl)
 |int=>exact bQ rfl
 |dK hd hl _ a=>exact⟨by have:=b _ hd;unfold Sm;simp;omega,a⟩
 |arrow _ _ e c=>exact⟨by simp[Sm],by intro x hx;simp at hx;rcases hx with rfl|rfl<;>assumption⟩
theorem NC{f:Ty->List Ty}{b:Nat}:∀{l:List Ty},(∀x∈l,(f x).length<=b)->(l.flatMap f).length<=l.length*b
 |[],_=>by simp
 |a::r,h=>by
  have h1:=h a (by simp);have h2:=NC (f:=f) (b:=b) (l:=r) (fun x hx=>h x (by simp[hx]));simp only[zas,zan,zax,zaD];omega
theorem iz.small{D:Dt->Prop}(e:∀d,D d->d.params.length<=8){lv:List Ty}(h:∀t∈lv,t.args=[]){n:Nat}{t:Ty}(m:iz D lv n t):t.nodes.length<=9 ^ n:=by
 have one:∀n:Nat,1<=9 ^ n:=fun n=>zcB n 9 (by decide);induction m with
 |leaf hl=>rw[Ty.aM,h _ hl];simpa using one _
 |int=>rw[Ty.aM];simpa[bj]using one _
 | @dK n d args hd hl _ c=>
  rw[Ty.aM];have h1:=NC (f:=Ty.nodes) (l:=args) c;have h2:=e _ hd;have h3:=one n;have h4:args.length*9 ^ n<=8*9 ^ n:=zaH _ (by omega);simp only[zax,zcv];omega
 | @arrow n a b _ _ i g=>
  rw[Ty.aM];have h3:=one n;simp only[zax,zas,zb8,zaM,zan,zcv];omega
abbrev bD:=List UInt8
theorem c214{s:List bD}(hS:Sm s){y:bD}:(aC AP).p 214 [.aq (s.map .str),.str y]=some [.bool (decide (y∈s))]:=by
 rw[ZB GV (m:=214) (k:=223) rfl rfl hS];simp only[zae,zbm,PV.bool.injEq,and_true];rw[zaN];simp
theorem WH{s:List bD}(hS:Sm s)(y:bD):∀(n i:Nat),s.length-i=n->i<=s.length->
   cl AP g216L0 ⟨[(0,.pv (.aq (s.map .str))),(1,.pv (.str y)),(5,.pv (vI i))],[],[],[]⟩=
     match bA (fun x=>decide (x=y)) (s.drop i)with
     |some k=>some (.ret,⟨[(4,.pv (vI (i+k:Nat)))],[],[],[]⟩)
     |none=>some (.exit 0,⟨[(0,.pv (.aq (s.map .str))),(1,.pv (.str y)),(5,.pv (vI s.length)),(9,.pv (.bool false))],[],[],[]⟩)
 |0,i,hn,hi=>by
  have:i=s.length:=by omega
  subst this;rw[g216L0e];simp[g216B0,bA]
 |n+1,i,hn,hi=>by
  have hi:i<s.length:=(by omega);obtain⟨x,hx⟩:=aP hi;unfold Sm at hS;have a:=WH hS y n (i+1) (by omega) (by omega);simp at a;rw[g216L0e,aV hx];by_cases e:x=y
  ·simp(disch:=omega)[-getElem?_pos,g216B0,hx,hi,e,bA]
  ·simp(disch:=omega)[-getElem?_pos,g216B0,hx,hi,e,bA,ah,a];cases bA (fun x=>decide (x=y)) (s.drop (i+1))with
   |none=>rfl
   |some k=>simp;omega
def o_(s:List bD)(y:bD):Int:=lA (bA (fun x=>decide (x=y)) s)
theorem c216{s:List bD}(hS:Sm s){y:bD}:(aC AP).p 216 [.aq (s.map .str),.str y]=some [vI (o_ s y)]:=by
 unfold o_;have h:=WH hS y _ 0 rfl (by omega);simp at h;rw[az g216];cases hi:bA (fun x=>decide (x=y)) s with
 |none=>rw[hi]at h;simp at h;simp[g216,h,lA]
 |some k=>rw[hi]at h;simp at h;simp[g216,h,lA]
theorem ND{s:List bD}{y:bD}:o_ s y<0<->y∉s:=by
 unfold o_;have h:=uY (p:=fun x=>decide (x=y)) (s:=s);have e:s.any (fun x=>decide (x=y))=decide (y∈s):=by rw[zaN];simp
 rw[e]at h;by_cases hy:y∈s
 ·rw[zaG hy]at h;have h:=zch h;exact⟨fun h'=>absurd h (zc0.2 h'),fun h'=>absurd hy h'⟩
 ·rw[zaC hy]at h;have h:=of_decide_eq_false h;exact⟨fun _=>hy,fun _=>zc0.1 h⟩
def Uf:List Dt->bD->Option Dt
 |[],_=>none
 |d::r,s=>if d.name=s then some d else Uf r s
def Qz(ds:List Dt)(s:bD):Option Nat:=if s=[73,110,116]then some 0 else if s=[45,62]then some 2 else(Uf ds s).map (·.params.length)
def rA:Option Nat->List PV
 |some n=>[vI n,.bool true]
 |none=>[vI 0,.bool false]
theorem WI{ds:List Dt}(hS:Sm ds)(s:bD):∀(n i:Nat),ds.length-i=n->i<=ds.length->
   cl AP g217L0 ⟨[(0,.pv (.aq (ds.map Dt.pv))),(1,.pv (.str s)),(6,.pv (vI i))],[],[],[]⟩=
     match Uf (ds.drop i) s with
     |some d=>some (.ret,⟨[(4,.pv (vI d.params.length)),(5,.pv (.bool true))],[],[],[]⟩)
     |none=>some (.exit 1,⟨[(0,.pv (.aq (ds.map Dt.pv))),(1,.pv (.str s)),(6,.pv (vI ds.length)),(15,.pv (.bool false))],[],[],[]⟩)
 |0,i,hn,hi=>by
  have:i=ds.length:=by omega
  subst this;rw[g217L0e];simp[g217B0,Uf]
 |n+1,i,hn,hi=>by
  have hi:i<ds.length:=(by omega);obtain⟨x,hx⟩:=aP hi;unfold Sm at hS;have a:=WI hS s n (i+1) (by omega) (by omega);rw[g217L0e]at a⊢;rw[aV hx];simp at a;by_cases e:x.name=s
  ·simp(disch:=omega)[-getElem?_pos,g217B0,hx,hi,e,Uf]
  ·simp(disch:=omega)[-getElem?_pos,g217B0,hx,hi,e,Uf,ah];rw[g217L0e];simp[a]
theorem c217{ds:List Dt}(hS:Sm ds){s:bD}:(aC AP).p 217 [.aq (ds.map Dt.pv),.str s]=some (rA (Qz ds s)):=by
 have h:=WI hS s _ 0 rfl (by omega);rw[az g217];rw[g217L0e]at h;simp at h;unfold Qz;by_cases e1:s=[73,110,116]
 ·simp[g217,e1,rA]
 ·by_cases e2:s=[45,62]
  ·simp[g217,e2,rA]
  ·cases hl:Uf ds s with
   |none=>rw[hl]at h;simp at h;simp[g217,e1,e2,g217L0e,h,rA]
   |some d=>rw[hl]at h;simp at h;simp[g217,e1,e2,g217L0e,h,rA]
def kP(ds:List Dt)(l:List bD)(t:Ty):Int:=
 if t.kind=5 then(if t.name∈l then 0 else 7)
 else if t.kind=4 then(match Qz ds t.name with|none=>7|some n=>if n=t.args.length then 0 else 8)else 0
mutual
def Ty.formed(ds:List Dt)(l:List bD):Ty->Int
 |⟨k,n,i,h,as⟩=>if kP ds l ⟨k,n,i,h,as⟩≠0 then kP ds l ⟨k,n,i,h,as⟩else Ty.gw ds l as
def Ty.gw(ds:List Dt)(l:List bD):List Ty->Int
 |[]=>0
 |a::r=>if a.formed ds l≠0 then a.formed ds l else Ty.gw ds l r
end
theorem Ty.xe(ds:List Dt)(l:List bD)(t:Ty):t.formed ds l=if kP ds l t≠0 then kP ds l t else Ty.gw ds l t.args:=by
 cases t;simp only[Ty.formed]
def Ug(t:Ty):List AV:=[.pv (vI t.kind),.pv (.str t.name),.pv (vI t.id),.pv (vI t.home),.pv (.aq (t.args.map Ty.pv))]
@[simp] theorem YR(t:Ty):Ug t=[.pv (vI t.kind),.pv (.str t.name),.pv (vI t.id),.pv (vI t.home),.pv (.aq (t.args.map Ty.pv))]:=rfl
theorem WJ{ds:List Dt}{l:List bD}{t:Ty}(hS:Sm t.args)(h:∀x∈t.args,(aC AP).p 186 [.aq (ds.map Dt.pv),x.pv,.aq (l.map .str)]=some [vI (x.formed ds l)]):∀(n i:Nat),t.args.length-i=n->i<=t.args.length->
   cl AP g186L0 ⟨[(0,.pv (.aq (ds.map Dt.pv))),(2,.pv (.aq (l.map .str))),(4,.au 4 0),(9,.pv (vI i))],[(4,Ug t)],[],[]⟩=
     if Ty.gw ds l (t.args.drop i)≠0 then some (.ret,⟨[(6,.pv (vI (Ty.gw ds l (t.args.drop i))))],[],[],[]⟩)
     else some (.exit 1,⟨[(0,.pv (.aq (ds.map Dt.pv))),(2,.pv (.aq (l.map .str))),(4,.au 4 0),(9,.pv (vI t.args.length)),(40,.pv (.bool false))],[(4,Ug t)],[],[]⟩)
 |0,i,hn,hi=>by
  have:i=t.args.length:=by omega
  subst this;rw[g186L0e];simp[g186B0,Ty.gw]
 |n+1,i,hn,hi=>by
  have hi:i<t.args.length:=(by omega);obtain⟨x,hx⟩:=aP hi;unfold Sm at hS;have k:=h x (aN hx);have a:=WJ hS h n (i+1) (by omega) (by omega);rw[g186L0e]at a⊢;rw[aV hx];simp at a k;by_cases e:x.formed ds l=0
  ·rw[e]at k;simp(disch:=omega)[-getElem?_pos,g186B0,hx,hi,k,Ty.gw,e,ah];rw[g186L0e];simp[a]
  ·simp(disch:=omega)[-getElem?_pos,g186B0,hx,hi,k,Ty.gw,e,ah]
inductive Ty.Cw:Ty->Prop
 |mk {t:Ty}:(t.kind≠4->t.args=[])->(∀x∈t.args,Ty.Cw x)->Ty.Cw t
theorem Ty.Cw.bare{t:Ty}(h:t.Cw):t.kind≠4->t.args=[]:=by cases h;assumption
theorem Ty.Cw.cY{t:Ty}(h:t.Cw):∀x∈t.args,x.Cw:=by cases h;assumption
theorem c186{ds:List Dt}(hd:Sm ds){l:List bD}(hl:Sm l){t:Ty}(c:t.Ok)(hC:t.Cw):(aC AP).p 186 [.aq (ds.map Dt.pv),t.pv,.aq (l.map .str)]=some [vI (t.formed ds l)]:=by
 revert c hC
 refine Ty.cB (p:=fun t=>t.Ok->t.Cw->(aC AP).p 186 [.aq (ds.map Dt.pv),t.pv,.aq (l.map .str)]=some [vI (t.formed ds l)]) ?_ t;intro t j c hC;have h:=WJ (ds:=ds) (l:=l) c.sm (fun x hx=>j x hx (c.cY x hx) (hC.cY x hx)) _ 0 rfl (by omega);have i:=c216 hl (y:=t.name);have a:=c217 hd (s:=t.name);have e:=ND (s:=l) (y:=t.name);rw[az g186,Ty.xe];rw[g186L0e]at h;simp at h;by_cases e1:t.kind=5
 ·by_cases e2:t.name∈l
  ·simp[e2]at e;have d:¬o_ l t.name<0:=by omega
   have f:=hC.bare (by rw[e1];decide);simp[g186,e1,e2,i,d,kP,f,Ty.gw]
  ·simp[e2]at e;simp[g186,e1,e2,i,e,kP]
 ·by_cases e4:t.kind=4
  ·cases b:Qz ds t.name with
   |none=>
    rw[b]at a;simp[rA]at a;simp[g186,e1,e4,a,kP,b]
   |some m=>
    rw[b]at a;simp[rA]at a;by_cases e5:m=t.args.length
    ·by_cases e3:Ty.gw ds l t.args=0
     ·simp[e3,e4]at h;simp[g186,e4,e5,e3,a,kP,b,g186L0e,h]
     ·simp[e3,e4]at h;simp[g186,e4,e5,e3,a,kP,b,g186L0e,h]
    ·have g:¬(m:Int)=t.args.length:=(by omega);simp[g186,e4,e5,g,a,kP,b]
  ·have f:=hC.bare e4;simp[g186,e1,e4,kP,f,Ty.gw]
structure da(E:Type) where
 pos:Int
 dK:List UInt8
 vars:List (List UInt8)
 body:E
structure Ex where
 kind:Int
 pos:Int
 name:List UInt8
 num:Int
 kids:List Ex
 aF:List (da Ex)
 ty:Ty
abbrev Ar:=da Ex
def ca:Ty:=⟨0,[],0,0,[]⟩
instance:Inhabited Ex:=⟨⟨0,0,[],0,[],[],ca⟩⟩
instance:Inhabited Ar:=⟨⟨0,[],[],default⟩⟩
def Ty.cells(t:Ty):List PV:=[.int .i64 t.kind,.str t.name,.int .i64 t.id,.int .i64 t.home,.aq (t.args.map Ty.pv)]
mutual
def Ex.cells:Ex->List PV
 |⟨k,p,n,m,ks,as,t⟩=>.int .i64 k::.int .i64 p::.str n::.int .i64 m::.aq (Ex.dV ks)::.aq (Ex.WK as)::t.cells
def Ex.dV:List Ex->List PV
 |[]=>[]
 |e::r=>.agg (Ex.cells e)::Ex.dV r
def Ex.WK:List (da Ex)->List PV
 |[]=>[]
 |⟨p,c,v,b⟩::r=>.agg (.int .i64 p::.str c::.aq (v.map .str)::Ex.cells b)::Ex.WK r
end
def Ex.pv(e:Ex):PV:=.agg e.cells
def Ar.pv(a:Ar):PV:=.agg (.int .i64 a.pos::.str a.dK::.aq (a.vars.map .str)::a.body.cells)
theorem Ex.kN:∀l:List Ex,Ex.dV l=l.map Ex.pv
 |[]=>by simp[Ex.dV]
 |e::r=>by simp[Ex.dV,Ex.kN r,Ex.pv]
theorem Ex.GX:∀l:List Ar,Ex.WK l=l.map Ar.pv
 |[]=>by simp[Ex.WK]
 |⟨p,c,v,b⟩::r=>by simp[Ex.WK,Ex.GX r,Ar.pv]
theorem Ex.aE(e:Ex):e.cells=[.int .i64 e.kind,.int .i64 e.pos,.str e.name,.int .i64 e.num,.aq (e.kids.map Ex.pv),.aq (e.aF.map Ar.pv),.int .i64 e.ty.kind,.str e.ty.name,.int .i64 e.ty.id,.int .i64 e.ty.home,.aq (e.ty.args.map Ty.pv)]:=by
 cases e;simp only[Ex.cells,Ex.kN,Ex.GX,Ty.cells]
@[simp] theorem Ex.kO(e:Ex):e.pv=.agg [.int .i64 e.kind,.int .i64 e.pos,.str e.name,.int .i64 e.num,.aq (e.kids.map Ex.pv),.aq (e.aF.map Ar.pv),.int .i64 e.ty.kind,.str e.ty.name,.int .i64 e.ty.id,.int .i64 e.ty.home,.aq (e.ty.args.map Ty.pv)]:=by
 rw[Ex.pv,Ex.aE]
@[simp] theorem Ar.kO(a:Ar):a.pv=.agg [.int .i64 a.pos,.str a.dK,.aq (a.vars.map .str),.int .i64 a.body.kind,.int .i64 a.body.pos,.str a.body.name,.int .i64 a.body.num,.aq (a.body.kids.map Ex.pv),.aq (a.body.aF.map Ar.pv),.int .i64 a.body.ty.kind,.str a.body.ty.name,.int .i64 a.body.ty.id,.int .i64 a.body.ty.home,.aq (a.body.ty.args.map Ty.pv)]:=by
 rw[Ar.pv,Ex.aE]
theorem sk:El Ex.pv 11 true:=⟨fun x=>by simp,fun x=>by simp⟩
theorem Uh:El Ar.pv 14 true:=⟨fun x=>by simp,fun x=>by simp⟩
@[simp] theorem Vl{l:List Ex}:a7 11 (l.map Ex.pv)=true:=sk.head l
@[simp] theorem Vm{l:List Ar}:a7 14 (l.map Ar.pv)=true:=Uh.head l
@[simp] theorem Ui{l:List (List UInt8)}:a7 1 (l.map PV.str)=true:=FT.head l
@[simp] theorem Vo{l:List Int}:a7 1 (l.map vI)=true:=eV.head l
def Ex.ch(e:Ex):List Ex:=e.kids++e.aF.map da.body
theorem da.qO(a:Ar):SizeOf.sizeOf a.body<SizeOf.sizeOf a:=by cases a;simp;omega
theorem Ex.cB{p:Ex->Prop}(h:∀e:Ex,(∀x∈e.kids,p x)->(∀a∈e.aF,p a.body)->p e):∀e,p e
 |⟨k,ps,n,m,ks,as,t⟩=>h _ (fun x b=>Ex.cB h x) (fun a c=>Ex.cB h a.body)
termination_by e=>SizeOf.sizeOf e
decreasing_by
 ·have:=_root_.List.sizeOf_lt_of_mem b;simp at*;omega
 ·have:=_root_.List.sizeOf_lt_of_mem c;have:=da.qO a;simp at*;omega
theorem Ex.recC{p:Ex->Prop}(h:∀e:Ex,(∀x∈e.ch,p x)->p e):∀e,p e:=Ex.cB fun e h1 h2=>h e fun x hx=>by
 rw[Ex.ch,zai,zat]at hx;rcases hx with hx|⟨a,b,rfl⟩
 ·exact h1 x hx
 ·exact h2 a b
structure Sl where
 bd:Bool
 ty:Ty
 home:Int
 base:Bool
def Sl.pv(x:Sl):PV:=.agg [.bool x.bd,vI x.ty.kind,.str x.ty.name,vI x.ty.id,vI x.ty.home,.aq (x.ty.args.map Ty.pv),vI x.home,.bool x.base]
@[simp] theorem Sl.kO(x:Sl):x.pv=.agg [.bool x.bd,.int .i64 x.ty.kind,.str x.ty.name,.int .i64 x.ty.id,.int .i64 x.ty.home,.aq (x.ty.args.map Ty.pv),.int .i64 x.home,.bool x.base]:=rfl
structure Ch where
 id:Int
 aL:Sl
 nw:Bool
def Ch.pv(x:Ch):PV:=.agg [vI x.id,.bool x.aL.bd,vI x.aL.ty.kind,.str x.aL.ty.name,vI x.aL.ty.id,vI x.aL.ty.home,.aq (x.aL.ty.args.map Ty.pv),vI x.aL.home,.bool x.aL.base,.bool x.nw]
@[simp] theorem Ch.kO(x:Ch):x.pv=.agg [.int .i64 x.id,.bool x.aL.bd,.int .i64 x.aL.ty.kind,.str x.aL.ty.name,.int .i64 x.aL.ty.id,.int .i64 x.aL.ty.home,.aq (x.aL.ty.args.map Ty.pv),.int .i64 x.aL.home,.bool x.aL.base,.bool x.nw]:=rfl
structure c_ where
 sl:List Sl
 tr:List Ch
def c_.pv(s:c_):PV:=.agg [.aq (s.sl.map Sl.pv),.aq (s.tr.map Ch.pv)]
@[simp] theorem c_.kO(s:c_):s.pv=.agg [.aq (s.sl.map Sl.pv),.aq (s.tr.map Ch.pv)]:=rfl
structure c_.Ok(s:c_)(n m:Nat):Prop where
 sl:s.sl.length<=n
 tr:s.tr.length<=m
 ty:∀x∈s.sl,x.ty.Ok
theorem RM:El Sl.pv 8 true:=⟨fun _=>rfl,fun _=>rfl⟩
theorem NF:El Ch.pv 10 true:=⟨fun _=>rfl,fun _=>rfl⟩
def d7(s:List Sl)(t:Ty):Option Sl:=if t.kind=1∧0<=t.id then(match s[t.id.toNat]? with|some x=>if x.bd then some x else none|none=>none)else none
theorem dL{s:List Sl}{t:Ty}{x:Sl}(h:d7 s t=some x):t.kind=1∧∃i:Nat,t.id=i∧s[i]?=some x∧x.bd=true:=by
 unfold d7 at h;split at h
 ·rename_i q;refine⟨q.1,t.id.toNat,by omega,?_⟩;split at h
  ·rename_i y hy;split at h
   ·rename_i a;cases h;exact⟨hy,a⟩
   ·cases h
  ·cases h
 ·cases h
theorem c392{s:c_}{t:Ty}:(aC AP).p 392 [s.pv,t.pv]=some [.bool (d7 s.sl t).isSome]:=by
 rw[az g392];unfold d7;by_cases k:t.kind=1
 ·by_cases h0:0<=t.id
  ·obtain⟨i,hi⟩:∃i:Nat,t.id=i:=⟨t.id.toNat,by omega⟩;by_cases hl:i<s.sl.length
   ·obtain⟨x,hx⟩:=aP hl;simp(disch:=omega)[-getElem?_pos,g392,k,hi,hl,hx];cases x.bd<;>rfl
   ·have hx:s.sl[i]?=none:=(by simp;omega);simp(disch:=omega)[-getElem?_pos,g392,k,hi,hl,hx]
  ·simp(disch:=omega)[g392,k,h0]
 ·simp(disch:=omega)[g392,k]
def wk(s:List Sl):Nat->Ty->Ty
 |0,t=>t
 |n+1,t=>match d7 s t with|some x=>wk s n x.ty|none=>t
theorem m_{s:List Sl}(hs:∀x∈s,x.ty.Ok):∀{n:Nat}{t:Ty},t.Ok->(wk s n t).Ok
 |0,t,h=>h
 |n+1,t,h=>by
  unfold wk;split
  ·rename_i x hx;obtain⟨_,i,_,hi,_⟩:=dL hx;exact m_ hs (hs x (aN hi))
  ·exact h
def tC(t:Ty):List AV:=[.pv (vI t.kind),.pv (.str t.name),.pv (vI t.id),.pv (vI t.home),.pv (.aq (t.args.map Ty.pv))]
def sC(s:c_):List AV:=[.pv (.aq (s.sl.map Sl.pv)),.pv (.aq (s.tr.map Ch.pv))]
def zC(k:Nat):List AV:=[.pv (vI 0),.pv (.str []),.pv (vI 0),.pv (vI 0),.own [] k]
theorem WL{s:c_}(hs:Sm s.sl):∀(n i:Nat),s.sl.length+1-i=n->i<=s.sl.length+1->∀t:Ty,∃(b:Nat),
   cl AP g386L0 ⟨[(2,.au 2 0),(3,.au 3 0),(4,.au 4 0),(5,.pv (vI i))],[(2,sC s),(3,tC t),(4,zC 0)],[],[0]⟩=
     some (.exit 0,⟨[(2,.au 2 0),(3,.au 3 0),(4,.au 4 0),(5,.pv (vI b)),(15,.pv (.bool false))],[(2,sC s),(3,tC (wk s.sl n t)),(4,zC 0)],[],[0]⟩)
 |0,i,hn,hi,t=>by
  refine⟨i,?_⟩;have h1:¬(i:Int)<=s.sl.length:=by omega
  rw[g386L0e];simp[g386B0,sC,tC,zC,wk,h1]
 |n+1,i,hn,hi,t=>by
  have h1:(i:Int)<=s.sl.length:=(by omega);have k:=c392 (s:=s) (t:=t);unfold Sm at hs;rw[g386L0e];cases a:d7 s.sl t with
  |none=>
   refine⟨i,?_⟩;rw[a]at k;simp at k;simp[g386B0,sC,tC,zC,wk,h1,a,k]
  |some x=>
   obtain⟨_,j,hj,hx,_⟩:=dL a;obtain⟨b,e⟩:=WL hs n (i+1) (by omega) (by omega) x.ty;refine⟨b,?_⟩;rw[a]at k;have hl:j<s.sl.length:=by obtain⟨h,_⟩:=zaa.1 hx;exact h
   rw[g386L0e]at e;simp[hj]at k;simp[sC,tC,zC]at e;simp(disch:=omega)[-getElem?_pos,g386B0,sC,tC,zC,wk,h1,a,k,hj,hx,hl,ah];rw[g386L0e];simp[e]
theorem c386{s:c_}(hs:Sm s.sl){t:Ty}:(aC AP).p 386 [s.pv,t.pv]=some [(wk s.sl (s.sl.length+1) t).pv]:=by
 obtain⟨a,h⟩:=WL hs _ 0 rfl (by omega) t;rw[az g386];rw[g386L0e]at h;simp[sC,tC,zC]at h;simp[g386,g386L0e,h]
def eK(s:List Sl)(t:Ty):Ty:=wk s (s.length+1) t
inductive Tr (s:List Sl):Ty->Nat->Prop
 |mk {t:Ty} (ns:List Nat):ns.length=(eK s t).args.length->(∀(i:Nat) a n,(eK s t).args[i]?=some a->ns[i]?=some n->Tr s a n)->Tr s t (ns.sum+1)
def KI(s:List Sl)(l:List Ty)(ns:List Nat):Prop:=ns.length=l.length∧∀(i:Nat) a n,l[i]?=some a->ns[i]?=some n->Tr s a n
theorem KI.nil{s:List Sl}:KI s [] []:=⟨rfl,by intro i a n h;simp at h⟩
theorem KI.snoc{s:List Sl}{l:List Ty}{ns:List Nat}(h:KI s l ns){a:Ty}{n:Nat}(d:Tr s a n):KI s (l++[a]) (ns++[n]):=by
 refine⟨by simp[h.1],?_⟩;intro i b m c hm;have hl:=h.1;by_cases hi:i<l.length
 ·rw[zal hi]at c;rw[zal (by omega)]at hm;exact h.2 i b m c hm
 ·rw[zaL (by omega)]at c;rw[zaL (by omega),hl]at hm;by_cases e:i-l.length=0
  ·rw[e]at c hm;simp at c hm;rw[<-c,<-hm];exact d
  ·have h1:1<=i-l.length:=(by omega);have:([a]:List Ty)[i-l.length]?=none:=(by simp;omega);rw[this]at c;cases c
theorem Tr.inv{s:List Sl}{t:Ty}{r:Nat}(h:Tr s t r):∃ns,KI s (eK s t).args ns∧r=ns.sum+1:=by
 cases h with
 |mk ns h1 h2=>exact⟨ns,⟨h1,h2⟩,rfl⟩
theorem vi:∀{ns:List Nat}{i n:Nat},ns[i]?=some n->n<=ns.sum
 |a::r,0,n,h=>by simp at h;subst h;simp
 |a::r,i+1,n,h=>by simp at h;have:=vi h;simp;omega
theorem WM{s:c_}(hs:Sm s.sl)(B:∀x∈s.sl,x.ty.Ok){m:Nat}(hm:m<1000000)(z:∀m':Nat,m'<m->∀t,t.Ok->∃r:Nat,(aC AP).p 371 [s.pv,t.pv,vI m']=some [vI r]∧1<=r∧r<=m'+1∧(r<=m'->Tr s.sl t r)∧∀r0,Tr s.sl t r0->r0<=m'->r=r0)
   {x:Ty} (hx:x.Ok):∀(k i n:Nat),x.args.length-i=k->i<=x.args.length->1<=n->n<=m+1->(n<=m->∃ns,KI s.sl (x.args.take i) ns∧n=ns.sum+1)->(∀ns,KI s.sl x.args ns->ns.sum+1<=m->n=(ns.take i).sum+1)->∃o n':Nat,
   cl AP g371L0 ⟨[(2,.pv (vI m)),(3,.au 3 0),(4,.au 4 0),(7,.pv (vI n)),(8,.pv (vI i))],[(3,sC s),(4,tC x)],[],[]⟩=
     some (.exit 0,⟨[(2,.pv (vI m)),(3,.au 3 0),(4,.au 4 0),(7,.pv (vI n')),(8,.pv (vI o)),(21,.pv (.bool false))],[(3,sC s),(4,tC x)],[],[]⟩)∧1<=n'∧n'<=m+1∧(n'<=m->∃ns,KI s.sl x.args ns∧n'=ns.sum+1)∧∀ns,KI s.sl x.args ns->ns.sum+1<=m->n'=ns.sum+1
 |0,i,n,A,hi,h1,h2,h3,h4=>by
  have:i=x.args.length:=by omega
  subst this;refine⟨x.args.length,n,?_,h1,h2,by simpa using h3,fun ns q h=>by have:=h4 ns q h;rwa [<-q.1,zbe]at this⟩;rw[g371L0e];simp[g371B0,sC,tC]
 |k+1,i,n,A,hi,h1,h2,h3,h4=>by
  have hi:i<x.args.length:=(by omega);obtain⟨a,g⟩:=aP hi;have u:=hx.sm;unfold Sm at u;by_cases hn:n<=m
  ·have D:m-n<m:=by clear h3;omega
   obtain⟨r,e,r1,r2,r3,j⟩:=z (m-n) D a (hx.cY a (aN g))
   have g6:∀ns,KI s.sl x.args ns->ns.sum+1<=m->n+r=(ns.take (i+1)).sum+1:=by
    intro ns q h;have f:=h4 ns q h;have v:i<ns.length:=by rw[q.1];exact hi
    obtain⟨w,hw⟩:=aP v;have l:(ns.take (i+1)).sum=(ns.take i).sum+w:=by rw[zaI,hw,zcb];simp
    have d:(ns.take (i+1)).sum<=ns.sum:=by
     have:=zb4 (i+1) ns;rw[<-this,zcb,this];omega
    have:=j w (q.2 i a w g hw) (by clear h3 r3 h4 j;omega);rw[l,f,this];omega
   have c:((m:Int)-n)=((m-n:Nat):Int):=by clear h3 r3;omega
   have g5:n+r<=m->∃ns,KI s.sl (x.args.take (i+1)) ns∧n+r=ns.sum+1:=by
    intro h;obtain⟨ns,q,e2⟩:=h3 hn;refine⟨ns++[r],?_,by rw[zcb,e2];simp;omega⟩;rw[zaI,g];have hr:r<=m-n:=by clear h3;omega
    exact q.snoc (r3 hr)
   clear h3 h4 j;have g1:x.args.length-(i+1)=k:=by clear g5 g6 r3;omega
   have g2:1<=n+r:=by clear g5 g6 r3;omega
   have C:n+r<=m+1:=by clear g5 g6 r3;omega
   obtain⟨o,n',y,f,l,d⟩:=WM hs B hm z hx k (i+1) (n+r) g1 hi g2 C g5 g6;refine⟨o,n',?_,f,l,d⟩;have b:(n:Int)<=m:=by clear g5 g6 d r3;omega
   rw[g371L0e]at y ⊢;simp at e;simp[sC,tC]at y;simp(disch:=omega)[-getElem?_pos,g371B0,sC,tC,hi,g,b,ah,c,e];rw[g371L0e];simp[y]
  ·refine⟨i,n,?_,h1,h2,fun h=>absurd h hn,fun ns q h=>absurd (by
    have f:=h4 ns q h
    have d:(ns.take i).sum<=ns.sum:=by
     have:=zb4 i ns;rw[<-this,zcb,this];omega
    clear h3;omega) hn⟩
   clear h3 h4;have b:¬(n:Int)<=m:=by omega
   rw[g371L0e];simp(disch:=omega)[-getElem?_pos,g371B0,sC,tC,hi,b]
theorem c371{s:c_}(hs:Sm s.sl)(i:∀x∈s.sl,x.ty.Ok)(m:Nat)(hm:m<1000000):∀t:Ty,t.Ok->∃r:Nat,(aC AP).p 371 [s.pv,t.pv,vI m]=some [vI r]∧1<=r∧r<=m+1∧(r<=m->Tr s.sl t r)∧∀r0,Tr s.sl t r0->r0<=m->r=r0:=by
 induction m using Nat.strongRecOn with
 |ind m j=>
  intro t g;have k:=c386 hs (t:=t);have hw:(wk s.sl (s.sl.length+1) t).Ok:=m_ i g;obtain⟨q,n',e,o,n,d,c⟩:=WM hs i hm (fun m' h t g=>j m' h (by omega) t g) hw _ 0 1 rfl (by omega) (by omega) (by omega) (fun _=>⟨[],by simpa using KI.nil,rfl⟩) (fun _ _ _=>by simp);refine⟨min n' (m+1),?_,by clear d c;omega,by clear d c;omega,?_,fun r0 h0 hr=>?_⟩
  rotate_left
  rotate_left
  ·obtain⟨ns,hT,e0⟩:=h0.inv;have:=c ns hT (by rw[<-e0];exact hr);clear d c;omega
  ·rw[az g371];rw[g371L0e]at e;have f:min (n':Int) ((m:Int)+1)=((min n' (m+1):Nat):Int):=by clear d c;omega
   generalize wk s.sl (s.sl.length+1) t=x at*;simp at k;simp[sC,tC]at e;simp(disch:=omega)[g371,k,g371L0e,e,ah,f];omega
  ·intro h;have l:n'<=m:=by clear d c;omega
   obtain⟨ns,a,b⟩:=d l;have:min n' (m+1)=ns.sum+1:=by omega
   rw[this];exact .mk ns a.1 a.2
def uC(x:Ty)(acc:List Ty)(k:Nat):List AV:=[.pv (vI x.kind),.pv (.str x.name),.pv (vI x.id),.pv (vI x.home),.own (acc.map Ty.pv) k]
theorem WN{s:c_}{P:Ty->Ty->Prop}{x:Ty}(hx:x.Ok){ns:List Nat}(g:ns.length=x.args.length)(z:∀(i:Nat) a n,x.args[i]?=some a->ns[i]?=some n->∃u:Ty,(aC AP).p 373 [s.pv,a.pv]=some [u.pv]∧u.Ok∧u.nodes.length=n∧P a u):∀(k i:Nat),x.args.length-i=k->i<=x.args.length->∀acc:List Ty,acc.length=i->(∀u∈acc,u.Ok)->(acc.flatMap Ty.nodes).length=(ns.take i).sum->(∀(j:Nat) a b,x.args[j]?=some a->acc[j]?=some b->P a b)->∃us:List Ty,
   cl AP g373L0 ⟨[(2,.au 2 0),(3,.au 3 0),(4,.au 4 0),(5,.au 5 0),(6,.pv (vI i))],[(2,sC s),(3,tC x),(4,zC 0),(5,uC x acc 1)],[],[0,acc.length]⟩=
     some (.exit 0,⟨[(2,.au 2 0),(3,.au 3 0),(4,.au 4 0),(5,.au 5 0),(6,.pv (vI x.args.length)),(16,.pv (.bool false))],[(2,sC s),(3,tC x),(4,zC 0),(5,uC x us 1)],[],[0,us.length]⟩)∧us.length=x.args.length∧(∀u∈us,u.Ok)∧(us.flatMap Ty.nodes).length=ns.sum∧∀(j:Nat) a b,x.args[j]?=some a->us[j]?=some b->P a b
 |0,i,A,hi,acc,w,hu,t,hp=>by
  have:i=x.args.length:=by omega
  subst this;refine⟨acc,?_,w,hu,by rw[t,<-g,zbe],hp⟩;rw[g373L0e];simp[g373B0,sC,tC,zC,uC]
 |k+1,i,A,hi,acc,w,hu,t,hp=>by
  have hi:i<x.args.length:=(by omega);obtain⟨a,f⟩:=aP hi;obtain⟨n,hn⟩:=aP (l:=ns) (i:=i) (by omega);have m:=hx.sm;unfold Sm at m;obtain⟨u,e,B,r,o⟩:=z i a n f hn
  obtain⟨us,v,h1,h2,h3,h4⟩:=WN hx g z k (i+1) (by omega) (by omega) (acc++[u]) (by simp;omega) (by
   intro y hy;simp at hy;rcases hy with hy|rfl
   ·exact hu y hy
   ·exact B) (by rw[zaI,hn,zbU,zan,t];simp[r]) (by
   intro j b c h d;by_cases q:j<acc.length
   ·rw[zal q]at d;exact hp j b c h d
   ·rw[zaL (by omega)]at d
    have hj:j-acc.length=0:=by
     have:=(zaa.1 d).1;simp at this;omega
    rw[hj]at d;simp at d;have:j=i:=by omega
    subst this;rw[f]at h;cases h;subst d;exact o)
  clear hp;refine⟨us,?_,h1,h2,h3,h4⟩;have h:(acc.length+1)*64<=140737488355328:=by omega
  rw[g373L0e]at v ⊢;simp at e;simp[sC,tC,zC,uC]at v;simp(disch:=omega)[-getElem?_pos,g373B0,sC,tC,zC,uC,hi,f,ah,e,h];rw[g373L0e];simp[v]
inductive K9 (s:List Sl):Ty->Ty->Prop
 |mk {t u:Ty}:u.kind=(eK s t).kind->u.name=(eK s t).name->u.id=(eK s t).id->u.home=(eK s t).home->u.args.length=(eK s t).args.length->(∀(i:Nat) a b,(eK s t).args[i]?=some a->u.args[i]?=some b->K9 s a b)->K9 s t u
theorem c373{s:c_}(hs:Sm s.sl)(g:∀x∈s.sl,x.ty.Ok)(r:Nat):∀t:Ty,Tr s.sl t r->t.Ok->∃u:Ty,(aC AP).p 373 [s.pv,t.pv]=some [u.pv]∧u.Ok∧u.nodes.length=r∧K9 s.sl t u:=by
 induction r using Nat.strongRecOn with
 |ind r d=>
  intro t f c;have k:=c386 hs (t:=t);have hw:(wk s.sl (s.sl.length+1) t).Ok:=m_ g c;obtain⟨ns,hn,hr⟩:=f.inv;unfold eK at hn
  obtain⟨us,e,h1,h2,h3,h4⟩:=WN (s:=s) (P:=K9 s.sl) hw hn.1 (fun i a n hi b=>by
   have:=vi b;exact d n (by omega) a (hn.2 i a n hi b) (hw.cY a (aN hi))) _ 0 rfl (by omega) [] rfl (by simp) rfl (by simp)
  refine⟨⟨(wk s.sl (s.sl.length+1) t).kind,(wk s.sl (s.sl.length+1) t).name,(wk s.sl (s.sl.length+1) t).id,(wk s.sl (s.sl.length+1) t).home,us⟩,?_,⟨by have:=hw.sm;unfold Sm at*;simp only;omega,h2⟩,by rw[Ty.aM];simp only[zax];omega,.mk rfl rfl rfl rfl h1 h4⟩;rw[az g373];rw[g373L0e]at e;generalize wk s.sl (s.sl.length+1) t=x at*;simp at k;simp[sC,tC,zC,uC]at e;simp[g373,k,g373L0e,e]
theorem c355{s:c_}(hs:Sm s.sl)(c:∀x∈s.sl,x.ty.Ok){m:Nat}(hm:m<1000000){t:Ty}(b:t.Ok):∃r:Nat,(aC AP).p 355 [s.pv,t.pv,vI m]=some [vI r]∧1<=r∧r<=m+1∧(r<=m->Tr s.sl t r):=by
 obtain⟨r,e,h,h2,h3,_⟩:=c371 hs c m hm t b;refine⟨r,?_,h,h2,h3⟩;rw[az g355];simp at e;have a:max (m:Int) 0=m:=by omega
 simp[g355,a,e]
theorem c355y{s:c_}(hs:Sm s.sl)(c:∀x∈s.sl,x.ty.Ok){m:Nat}(hm:m<1000000){t:Ty}(b:t.Ok){r:Nat}(hT:Tr s.sl t r)(hr:r<=m):(aC AP).p 355 [s.pv,t.pv,vI m]=some [vI r]:=by
 obtain⟨d,e,_,_,_,h⟩:=c371 hs c m hm t b;rw[h r hT hr]at e;rw[az g355];simp at e;have a:max (m:Int) 0=m:=by omega
 simp[g355,a,e]
theorem c358y{s:c_}(hs:Sm s.sl)(c:∀x∈s.sl,x.ty.Ok){t:Ty}(b:t.Ok){r:Nat}(hT:Tr s.sl t r)(hr:r<=4000):∃u:Ty,(aC AP).p 358 [s.pv,t.pv]=some [u.pv,.bool true]∧u.Ok∧u.nodes.length=r∧K9 s.sl t u:=by
 have e:=c355y hs c (m:=4000) (by omega) b hT hr;obtain⟨u,e2,h⟩:=c373 hs c r t hT b;refine⟨u,?_,h⟩;simp at e e2;have a:¬(4000:Int)<r:=by omega
 rw[az g358];simp[g358,e,a,e2]
theorem c358{s:c_}(hs:Sm s.sl)(d:∀x∈s.sl,x.ty.Ok){t:Ty}(c:t.Ok):∃(u:Ty)(b:Bool),(aC AP).p 358 [s.pv,t.pv]=some [u.pv,.bool b]∧u.Ok∧u.nodes.length<=4000:=by
 obtain⟨r,e,h1,h2,h3⟩:=c355 hs d (m:=4000) (by omega) c;simp at e;by_cases hr:r<=4000
 ·obtain⟨u,e2,hu,f,_⟩:=c373 hs d r t (h3 hr) c;refine⟨u,true,?_,hu,by omega⟩;simp at e2;have a:¬(4000:Int)<r:=by omega
  rw[az g358];simp[g358,e,a,e2]
 ·refine⟨ca,false,?_,bQ rfl,by rw[Ty.aM];simp[ca]⟩;have a:(4000:Int)<r:=by omega
  rw[az g358];simp[g358,e,a,ca]
theorem c388:(aC AP).p 388 []=some [(c_.mk [] []).pv]:=by
 rw[az g388];simp[g388]
def bC(s:c_)(home:Int)(b:Bool):c_:=⟨s.sl++[⟨false,ca,home,b⟩],s.tr++[⟨s.sl.length,⟨false,ca,0,false⟩,true⟩]⟩
theorem c381{s:c_}{n m:Nat}(hs:s.Ok n m)(hn:n<=1000000)(hm:m<=1300000000000)(home:Int)(b:Bool):(aC AP).p 381 [s.pv,vI home,.bool b]=some [(bC s home b).pv,(aQ s.sl.length).pv]:=by
 have k:=c63 (n:=s.sl.length);have h1:=hs.sl;have h2:=hs.tr;have b1:s.sl.length*88<=140737488355328:=by omega
 have d:(s.sl.length+1)*88<=140737488355328:=by omega
 have c:s.tr.length*104<=140737488355328:=by omega
 have a:(s.tr.length+1)*104<=140737488355328:=by omega
 have e1:=RM.head s.sl;have e2:=NF.head s.tr;simp at k e1 e2;rw[az g381];simp(disch:=omega)[g381,bC,ca,aQ,k,b1,d,c,a,e1,e2]
 (repeat' split)<;>simp_all
def tx(l:List (List UInt8)):List AV:=l.map fun s=>AV.pv (.str s)
def SA(X:Sh)(l:List (List UInt8))(t:List UInt8):Sh:=X++[some (tx l),some [.pv (.str t)]]
theorem na{l:List (List UInt8)}:∀v∈tx l,∃p,v=AV.pv p:=by
 intro v a;simp only[tx,zat]at a;obtain⟨s,_,rfl⟩:=a;exact⟨_,rfl⟩
theorem gh{X:Sh}(c:aT X){l:List (List UInt8)}{t:List UInt8}:aT (SA X l t):=by
 refine c.app fun cs b=>?_;simp at b;rcases b with rfl|rfl
 ·exact na
 ·intro v a;simp at a;exact⟨_,a⟩
theorem FZ{X:Sh}{l:List (List UInt8)}{t:List UInt8}:(SA X l t)[X.length]?=some (some (tx l)):=by simp[SA]
theorem NG{X:Sh}{l:List (List UInt8)}{t:List UInt8}:(SA X l t)[X.length+1]?=some (some [.pv (.str t)]):=by simp[SA]
theorem NH{X:Sh}{l l':List (List UInt8)}{t:List UInt8}:(SA X l t).set X.length (some (tx l'))=SA X l' t:=by simp[SA]
theorem y5{X:Sh}{l:List (List UInt8)}{t:List UInt8}:(SA X l t).length=X.length+2:=by simp[SA]
theorem NI{l:List (List UInt8)}{i:Nat}{s:List UInt8}(h:l[i]?=some s):(tx l)[i]?=some (.pv (.str s)):=by simp[tx,h]
theorem pa{l:List (List UInt8)}:(tx l).length=l.length:=by simp[tx]
theorem Uj{l:List (List UInt8)}{i:Nat}(h:i<l.length){s:List UInt8}:a0 (tx l) i [.pv (.str s)]=tx (l.set i s):=by
 rw[za2,zak h];simp[aS,tx,za9,zcH]
theorem c413{SH:Sh}(hn:∀aL ts,bl aL ts SH=(SH,aL,ts)){c:Nat}{t x:List UInt8}(a:SH[c]?=some (some [.pv (.str t)]))(b:c<SH.length):
   (aC AP).i 413 [.pv (.str x),.aI c 0] SH []=some ([.pv (.bool (decide (x=t)))],SH,[]):=by
 rw[aA g413];simp[-getElem?_pos,g413,a,hn];by_cases e:x=t<;>simp[e]
theorem NJ{SH:Sh}(hn:∀aL ts,bl aL ts SH=(SH,aL,ts))(hs:∀n,eP n SH=SH){c:Nat}{t x:List UInt8}(b:SH[c]?=some (some [.pv (.str t)]))(a:c<SH.length):
   exec (aC AP) .gD [.fn 413 [.aI c 0],.pv (.str x)] none SH []=some ⟨.pv (.bool (decide (x=t))),none,SH,[]⟩:=by
 have k:=c413 hn b a (x:=x);simp[hn,k,hs]
theorem WO{SH:Sh}(hn:∀aL ts,bl aL ts SH=(SH,aL,ts))(hs:∀n,eP n SH=SH){b c:Nat}{t:List UInt8}{l:List (List UInt8)}(hS:Sm l)(d:SH[b]?=some (some (tx l)))(j:SH[c]?=some (some [.pv (.str t)]))(h:c<SH.length):
   ∀(n i:Nat),l.length-i=n->i<=l.length->
   cl AP (Nl 1 false) ⟨[(0,.bh b 1 l.length false),(1,.fn 413 [.aI c 0]),(7,.pv (vI l.length)),(8,.pv (vI i))],[],SH,[]⟩=
     match bA (fun x=>decide (x=t)) (l.drop i)with
     |some k=>some (.ret,⟨[(4,.pv (vI (i+k:Nat)))],[],SH,[]⟩)
     |none=>some (.exit 0,⟨[(0,.bh b 1 l.length false),(1,.fn 413 [.aI c 0]),(7,.pv (vI l.length)),(8,.pv (vI l.length)),(9,.pv (.bool false))],[],SH,[]⟩)
 |0,i,o,hi=>by
  have:i=l.length:=by omega
  subst this;rw[pS];simp[yY,bA,hn]
 |n+1,i,o,hi=>by
  have hi:i<l.length:=(by omega);obtain⟨x,hx⟩:=aP hi;unfold Sm at hS;have f:=WO hn hs hS d j h n (i+1) (by omega) (by omega);have g:=NI hx;have m:dE (tx l)=false:=d5 na;have a:i+1<=(tx l).length:=(by rw[pa];omega);have q:=NJ hn hs j h (x:=x);simp at f;rw[pS,aV hx];by_cases e:x=t
  ·rw[zaG e]at q;subst e;simp(disch:=omega)[-getElem?_pos,-eT,yY,hx,hi,d,g,m,a,bA,hn,q]
  ·rw[zaC e]at q;simp(disch:=omega)[-getElem?_pos,-eT,yY,hx,hi,d,g,m,a,e,bA,ah,hn,q,f];cases bA (fun x=>decide (x=t)) (l.drop (i+1))with
   |none=>rfl
   |some k=>simp;omega
structure Row{α:Type}(f:α->List PV)(sz:Nat):Prop where
 pos:0<sz
 len:∀x,(f x).length=sz
section
variable {α:Type} {f:α->List PV} {sz:Nat}
def bR(f:α->List PV)(l:List α):List AV:=l.flatMap fun x=>(f x).map .pv
theorem GY:bR f []=[]:=rfl
theorem lB{x:α}{l:List α}:bR f (x::l)=(f x).map .pv++bR f l:=rfl
theorem y6{l m:List α}:bR f (l++m)=bR f l++bR f m:=by simp[bR]
theorem gV(h:Row f sz):∀{l:List α},(bR f l).length=l.length*sz
 |[]=>by simp[bR]
 |x::r=>by rw[lB,zan,zaT,h.len,gV h,zax,zaD];omega
theorem fD{l:List α}:∀v∈bR f l,∃p,v=AV.pv p:=by
 intro v a;simp only[bR,zam,zat]at a;obtain⟨x,_,p,_,rfl⟩:=a;exact⟨p,rfl⟩
theorem vj(h:Row f sz):∀{l:List α}{i:Nat}{x:α},l[i]?=some x->(bR f l).drop (i*sz)=(f x).map .pv++bR f (l.drop (i+1))
 |x::r,0,y,e=>by simp at e;subst e;simp[bR]
 |x::r,i+1,y,e=>by
  have a:=vj h (l:=r) (i:=i) (x:=y) (by simpa using e);rw[lB,zcs,zaX (by rw[zaT,h.len,zaD];omega),zaT,h.len,show(i+1)*sz-sz=i*sz from by rw[zaD];omega,a];simp
 |[],_,_,e=>by simp at e
theorem B4(h:Row f sz):∀{l:List α}{i:Nat},i<=l.length->(bR f l).take (i*sz)=bR f (l.take i)
 |l,0,_=>by simp[bR]
 |x::r,i+1,e=>by
  have a:=B4 h (l:=r) (i:=i) (by simpa using e);rw[lB,zbO,zaw (by rw[zaT,h.len,zaD];omega),zaT,h.len,show(i+1)*sz-sz=i*sz from by rw[zaD];omega,a];simp[lB]
 |[],i+1,e=>by simp at e
theorem y7(h:Row f sz){l:List α}{i:Nat}{x:α}(e:l[i]?=some x){o k:Nat}(a:o+k<=sz):((bR f l).drop (i*sz+o)).take k=(((f x).drop o).take k).map .pv:=by
 rw[<-zcY,vj h e,zcs,zbO,zcr,zaT,h.len];have e1:k-(sz-o)=0:=by omega
 rw[e1,zcX,zaM,<-zcH,<-za9]
theorem Uk(h:Row f sz){l:List α}{i:Nat}(hi:i<l.length){o k:Nat}(a:o+k<=sz):i*sz+o+k<=(bR f l).length:=by
 rw[gV h];have:(i+1)*sz<=l.length*sz:=zaH _ hi;rw[zaD]at this;omega
theorem GZ(h:Row f sz){l:List α}{i:Nat}{x y:α}(e:l[i]?=some x){o:Nat}{vs:List PV}(a:o+vs.length<=sz)(hy:f y=(f x).take o++vs++(f x).drop (o+vs.length)):a0 (bR f l) (i*sz+o) (vs.map .pv)=bR f (l.set i y):=by
 have hi:=(zaa.1 e).1;have e3:l.set i y=l.take i++y::l.drop (i+1):=by rw[za2,zak hi]
 have e1:=vj h e;have e2:=B4 h (l:=l) (i:=i) (by omega);rw[e3,aS,y6,lB,<-e2,hy]
 have e4:(bR f l).drop (i*sz+o+(vs.map AV.pv).length)=((f x).drop (o+vs.length)).map .pv++bR f (l.drop (i+1)):=by
  rw[zaT,zbp,<-zcY,e1,zcs,zaT,h.len,show o+vs.length-sz=0 from by omega];simp
 have e5:(bR f l).take (i*sz+o)=(bR f l).take (i*sz)++((f x).take o).map .pv:=by
  rw[List.take_add,e1,zbO,zaT,h.len,show o-sz=0 from by omega];simp
 rw[e4,e5];simp
theorem G6(h:Row f sz):∀{l:List α},∃ps,eY (bR f l)=some ps∧(chunk sz l.length ps).map PV.agg=l.map fun x=>.agg (f x)
 |[]=>⟨[],rfl,rfl⟩
 |x::r=>by
  obtain⟨ps,h1,h2⟩:=G6 h (l:=r)
  have key:∀(a:List PV)(b:List AV),eY b=some ps->eY (a.map AV.pv++b)=some (a++ps):=by
   intro a b e;induction a with
   |nil=>simpa using e
   |cons c a d=>simp only[zao,za5,eY,i5,d]
  refine⟨f x++ps,key _ _ h1,?_⟩;simp only[zax,chunk,zao];rw[List.take_left' (h.len x),List.drop_left' (h.len x),h2]
theorem y8(h:Row f sz){l:List α}:((eY (bR f l)).bind (gG sz true l.length)).map PV.aq=some (.aq (l.map fun x=>.agg (f x))):=by
 obtain⟨ps,h1,h2⟩:=G6 h (l:=l);rw[h1];simp only[za3,gG,za0,zaY,h2]
theorem y9(h:Row f sz){l:List α}:((l.map fun x=>PV.agg (f x)).flatMap a9).map AV.pv=bR f l:=by
 induction l with
 |nil=>rfl
 |cons x r a=>simp only[zao,zas,zbF,a,lB,a9]
end
abbrev nn(k:Nat):Sh:=List.replicate k none
theorem pW(k:Nat):aT (nn k):=by
 intro cs a;simp[nn,zbD]at a
end Go.Ab.Lw
namespace Go.Ab.Lw
open Ev
theorem YS{sz:Nat}{l:List PV}{k:IntKind}{h:Int}(h0:0<=h)(h1:h<=l.length):cX false sz false true false [.pv (.aq l),.pv (.int k h)]=some (.pv (.aq (l.take h.toNat))):=by
 simp[cX,db,dY,h0,h1]
theorem WQ{sz τ:Nat}{l:List PV}{k:IntKind}{h:Int}(h0:0<=h)(h1:h<=l.length):cX false sz false true false [.own l τ,.pv (.int k h)]=some (.pv (.aq (l.take h.toNat))):=by
 simp[cX,db,dY,h0,h1]
def Sl.cells(x:Sl):List PV:=[.bool x.bd,vI x.ty.kind,.str x.ty.name,vI x.ty.id,vI x.ty.home,.aq (x.ty.args.map Ty.pv),vI x.home,.bool x.base]
theorem pb:Row Sl.cells 8:=⟨by omega,fun _=>rfl⟩
theorem Ul{l:List Sl}:((eY (bR Sl.cells l)).bind (gG 8 true l.length)).map PV.aq=some (.aq (l.map Sl.pv)):=y8 pb
theorem Um{l:List Sl}:((l.map Sl.pv).flatMap a9).map AV.pv=bR Sl.cells l:=y9 pb
def gi(s:c_)(i:Nat)(o x:Sl):c_:=⟨s.sl.set i x,s.tr++[⟨i,o,false⟩]⟩
theorem c393{s:c_}{n m:Nat}(hs:s.Ok n m)(hn:n<=1000000)(hm:m<=1300000000000){i:Nat}{o:Sl}(hi:s.sl[i]?=some o)(x:Sl):(aC AP).p 393 [s.pv,vI i,x.pv]=some [(gi s i o x).pv,.bool true]:=by
 have h1:=hs.sl;have h2:=hs.tr;have hl:i<s.sl.length:=by obtain⟨h,_⟩:=zaa.1 hi;exact h
 have b1:s.sl.length*88<=140737488355328:=by omega
 have z:s.tr.length*104<=140737488355328:=by omega
 have w:(s.tr.length+1)*104<=140737488355328:=by omega
 have r:¬s.sl.length<=i:=by omega
 have f:i*8+8<=s.sl.length*8:=by omega
 have hf:∀S:Sh,ej S (.au 8 0)=none:=fun _=>rfl;have e1:=RM.head s.sl
 have e2:=NF.head s.tr;have j:¬s.sl=[]:=by intro h;rw[h]at hl;simp at hl
 have d:=Um (l:=s.sl);have v:dE (bR Sl.cells s.sl)=false:=d5 fD;have t:dE (bR Sl.cells (s.sl.set i x))=false:=d5 fD;have e:(bR Sl.cells s.sl).length=s.sl.length*8:=gV pb;have c:(bR Sl.cells (s.sl.set i x)).length=s.sl.length*8:=by rw[gV pb];simp
 have q:=Uk pb hl (o:=0) (k:=8) (by omega)
 have a:=GZ pb hi (y:=x) (o:=0) (vs:=x.cells) (by rw[pb.len];omega) (by
  simp[Sl.cells])
 have u:∀aL ts,bl aL ts [some (bR Sl.cells s.sl)]=([some (bR Sl.cells s.sl)],aL,ts):=(aT.one fD).norm;have g:∀aL ts,bl aL ts [some (bR Sl.cells (s.sl.set i x))]=([some (bR Sl.cells (s.sl.set i x))],aL,ts):=(aT.one fD).norm;have b:=Ul (l:=s.sl.set i x);rw[zbG]at b;simp only[zbN]at a q;generalize bR Sl.cells (s.sl.set i x)=A at*;generalize bR Sl.cells s.sl=T at*;simp[Sl.cells]at a;simp at b d e1 e2;rw[az g393];simp(disch:=omega)[-getElem?_pos,g393,hi,hl,b1,z,w,e1,e2,j,d,v,t,e,c,a,u,g,b,gi,r,f,hf]
theorem c194g{t:Ty}(d:t.Ok):∃(a b:Ty)(c:Bool),(aC AP).p 194 [t.pv]=some [a.pv,b.pv,.bool c]∧a.Ok∧b.Ok∧(c=true->t=⟨4,[45,62],t.id,t.home,[a,b]⟩):=by
 by_cases h:t.kind=4∧t.name=[45,62]∧t.args.length=2
 ·obtain⟨h1,h2,h3⟩:=h
  match e:t.args,h3 with
  |[a,b],_=>
   refine⟨a,b,true,?_,d.cY a (by simp[e]),d.cY b (by simp[e]),?_⟩
   ·rw[az g194];simp[g194,h1,h2,e]
   ·intro _;cases t;simp at h1 h2 e⊢;simp[h1,h2,e]
 ·refine⟨ca,ca,false,?_,bQ rfl,bQ rfl,by simp⟩;rw[az g194];by_cases h1:t.kind=4
  ·by_cases h2:t.name=[45,62]
   ·have h3:¬(t.args.length:Int)=2:=by
     intro q;exact h ⟨h1,h2,by omega⟩
    simp[g194,h1,h2,h3,ca]
   ·simp[g194,h1,h2,ca]
  ·simp[g194,h1,ca]
theorem YT{S:List Ty}{l:List Ty}(hS:Sm l)(e:∀t∈l,t.Ok)(d:∀x∈l.flatMap (Ty.fw 3),x∈S):∀(n i:Nat),l.length-i=n->i<=l.length->∀out,gR S out->
   cl AP g59L0 ⟨[(0,.pv (.aq (l.map Ty.pv))),(3,.own (out.map Ty.pv) 0),(4,.pv (vI i))],[],[],[out.length]⟩=
     some (.exit 0,⟨[(0,.pv (.aq (l.map Ty.pv))),(3,.own ((((l.drop i).flatMap (Ty.fw 3)).foldl iE out).map Ty.pv) 0),(4,.pv (vI l.length)),(8,.pv (.bool false))],[],[],[(((l.drop i).flatMap (Ty.fw 3)).foldl iE out).length]⟩)
 |0,i,hn,hi,out,c=>by
  have:i=l.length:=by omega
  subst this;rw[g59L0e];simp[g59B0]
 |n+1,i,hn,hi,out,c=>by
  have hi:i<l.length:=(by omega);obtain⟨x,hx⟩:=aP hi;unfold Sm at hS;have a:∀y∈x.fw 3,y∈S:=fun y hy=>d y (by simp only[zam];exact⟨x,aN hx,hy⟩)
  have k:=c99 (kd:=3) (e x (aN hx)) a out c;have b:=YT hS e d n (i+1) (by omega) (by omega) _ (c.fold a);rw[g59L0e]at b⊢;rw[aV hx];simp at k b;simp(disch:=omega)[-getElem?_pos,g59B0,hx,hi,k,ah];rw[g59L0e];simp[b]
theorem c59{S:List Ty}(hf:S.length<1099511627776)(a:∀x∈S,x.Ok){l:List Ty}(hS:Sm l)(d:∀t∈l,t.Ok)(b:∀x∈l.flatMap (Ty.fw 3),x∈S):∃r:List Ty,(aC AP).p 59 [.aq (l.map Ty.pv)]=some [.aq (r.map Ty.pv)]∧Sm r∧∀x∈r,x∈S:=by
 have c0:gR S []:=⟨by simp,by simp,hf,a⟩;have h:=YT hS d b _ 0 rfl (by omega) [] c0;have c:=c0.fold b;refine⟨_,?_,c.len,c.sub⟩;rw[az g59];rw[g59L0e]at h;simp at h;simp[g59,g59L0e,h]
def oz(s:List Sl)(t:Ty):Bool:=decide (t.kind=1∧0<=t.id∧t.id<s.length)
theorem c396{s:c_}{t:Ty}:(aC AP).p 396 [s.pv,t.pv]=some [.bool (oz s.sl t)]:=by
 rw[az g396];by_cases h1:t.kind=1
 ·by_cases h2:0<=t.id
  ·by_cases h3:t.id<s.sl.length
   ·simp[g396,oz,h1,h2,h3]
   ·simp[g396,oz,h1,h2,h3]
  ·simp[g396,oz,h1,h2]
 ·simp[g396,oz,h1]
inductive fE:Ty->Int->Prop
 |var {t:Ty}:t.kind=1->fE t t.id
 |arg {t a:Ty} {v:Int}:t.kind≠1->a∈t.args->fE a v->fE t v
def Edge(s:List Sl)(i v:Int):Prop:=∃(k:Nat)(x:Sl),i=k∧s[k]?=some x∧x.bd=true∧fE x.ty v
inductive F3 (s:List Sl):Int->Int->Prop
 |refl (i:Int):F3 s i i
 |step {i j k:Int}:Edge s i j->F3 s j k->F3 s i k
def CO(s:List Sl):Prop:=∃a:Int->Nat,∀i v,Edge s i v->a v<a i
theorem CO.of{s s':List Sl}(h:CO s)(b:∀i v,Edge s' i v->Edge s i v):CO s':=by
 obtain⟨a,hr⟩:=h;exact⟨a,fun i v e=>hr i v (b i v e)⟩
theorem fE.bound(d:Int->Nat)(t:Ty):∃M,∀v,fE t v->d v<M:=by
 refine Ty.cB (p:=fun t=>∃M,∀v,fE t v->d v<M) ?_ t;intro t i;by_cases k:t.kind=1
 ·refine⟨d t.id+1,?_⟩;intro v h;cases h with
  |var _=>omega
  |arg q _ _=>exact absurd k q
 ·have key:∀l:List Ty,(∀a∈l,∃M,∀v,fE a v->d v<M)->∃M,∀a∈l,∀v,fE a v->d v<M:=by
   intro l;induction l with
   |nil=>intro _;exact⟨0,by simp⟩
   |cons a r e=>
    intro h;obtain⟨M,f⟩:=h a (by simp);obtain⟨N,hN⟩:=e fun b c=>h b (by simp[c]);refine⟨M+N,?_⟩;intro b c v g;simp at c;rcases c with rfl|c
    ·have:=f v g;omega
    ·have:=hN b c v g;omega
  obtain⟨M,f⟩:=key t.args i;refine⟨M,?_⟩;intro v h;cases h with
  |var q=>exact absurd q k
  |arg _ j h=>exact f _ j v h
theorem B5{s:List Sl}{k:Nat}{x:Sl}{i v:Int}(h:Edge (s.set k x) i v):(i=k∧x.bd=true∧fE x.ty v)∨(i≠k∧Edge s i v):=by
 obtain⟨j,y,rfl,hy,b,a⟩:=h;rw[zaA]at hy;by_cases e:k=j
 ·subst e;by_cases hl:k<s.length
  ·simp[hl]at hy;subst hy;exact .inl ⟨rfl,b,a⟩
  ·simp[hl]at hy
 ·simp[e]at hy;exact .inr ⟨by omega,j,y,rfl,hy,b,a⟩
theorem B6{s:List Sl}{k:Nat}{o x:Sl}(h:CO s)(d:s[k]?=some o)(f:x.bd=o.bd)(c:x.ty=o.ty):CO (s.set k x):=by
 refine h.of ?_;intro i v e;rcases B5 e with⟨rfl,b,a⟩|⟨_,e⟩
 ·exact⟨k,o,rfl,d,by rw[<-f];exact b,by rw[<-c];exact a⟩
 ·exact e
theorem B7{s:List Sl}{k:Nat}{x:Sl}(h:CO s)(hn:∀v,fE x.ty v->¬F3 s v k):CO (s.set k x):=by
 classical
 obtain⟨a,hr⟩:=h;obtain⟨M,d⟩:=fE.bound a x.ty;refine⟨fun j=>if F3 s j k then a j+M else a j,?_⟩;intro i v e;show(if F3 s v k then a v+M else a v)<(if F3 s i k then a i+M else a i);rcases B5 e with⟨rfl,b,c⟩|⟨_,e⟩
 ·have h1:=d v c;rw[zad (hn v c),zak (.refl _)];omega
 ·have h1:=hr i v e;by_cases q:F3 s v k
  ·rw[zak q,zak (.step e q)];omega
  ·rw[zad q];split<;>omega
theorem NK{s:List Sl}{x:Sl}(h:CO s)(a:x.bd=false):CO (s++[x]):=by
 refine h.of ?_
 rintro i v ⟨k,y,rfl,hy,b,o⟩
 by_cases hl:k<s.length
 ·rw[zal hl]at hy;exact⟨k,y,rfl,hy,b,o⟩
 ·rw[zaL (by omega)]at hy;by_cases e:k-s.length=0
  ·rw[e]at hy;simp at hy;subst hy;rw[a]at b;cases b
  ·have:([x]:List Sl)[k-s.length]?=none:=by simp;omega
   rw[this]at hy;cases hy
def ub(s:List Sl):Nat:=s.countP fun x=>!x.bd
theorem th:∀{s:List Sl}{k:Nat}{o x:Sl},s[k]?=some o->x.bd=o.bd->ub (s.set k x)=ub s
 |[],k,o,x,h,_=>by simp at h
 |a::r,0,o,x,h,b=>by simp at h;subst h;simp[ub,zct,b]
 |a::r,k+1,o,x,h,b=>by
  simp at h;have:=th h b;simp only[ub]at this;simp[ub,zct,this]
theorem y_:∀{s:List Sl}{k:Nat}{o x:Sl},s[k]?=some o->o.bd=false->x.bd=true->ub (s.set k x)+1=ub s
 |[],k,o,x,h,_,_=>by simp at h
 |a::r,0,o,x,h,b,hx=>by simp at h;subst h;simp[ub,zct,b,hx]
 |a::r,k+1,o,x,h,b,hx=>by
  simp at h;have:=y_ h b hx;simp only[ub]at this;simp[ub,zct];omega
def bT(dn:List Bool):List AV:=dn.map fun b=>.pv (.bool b)
def fX(s:c_)(T:List AV)(n:Nat)(out:List Int):Sh:=[some T,some [.pv (.aq (s.sl.map Sl.pv)),.pv (.aq (s.tr.map Ch.pv)),.own (out.map vI) 0,.bh 0 1 n false]]
structure RN(T:List AV):Prop where
 norm:∀aL ts,bf aL ts T=(T,aL,ts)
 mp:dE T=false
 sh:∀k,T.map (cP k)=T
theorem WR{s:c_}{S out:List Int}{t:Ty}(c:t.kind=1)(g:d7 s.sl t=none)(f:gQ S out){T:List AV}(hT:RN T){n:Nat}:
   (aC AP).i 387 [.aI 1 0,.pv t.pv] (fX s T n out) [out.length]=some ([],fX s T n (if t.id∈out then out else out++[t.id]),[(if t.id∈out then out else out++[t.id]).length]):=by
 have b:=c392 (s:=s) (t:=t);have hl:=f.len;have a:=c95 hl (y:=t.id);unfold Sm at hl;have d:(out.length+1)*8<=140737488355328:=by omega
 have e:a7 1 (out.map vI)=true:=eV.head out;have hn:=hT.norm;rw[g]at b;simp[c]at b;rw[aA g387];by_cases e2:t.id∈out
 ·rw[zaG e2]at a;simp[g387,fX,c,b,a,e2,hn]
 ·rw[zaC e2]at a;simp[g387,fX,c,b,a,e2,hn,d,e]
theorem WS{s:c_}{out:List Int}{t:Ty}{x:Sl}{i:Nat}(hi:t.id=i)(f:t.kind=1)(hx:s.sl[i]?=some x)(h:d7 s.sl t=some x){T:List AV}(hT:RN T){n:Nat}(hn:T.length=n)(e:i<n)(hd:T[i]?=some (.pv (.bool true))):
   (aC AP).i 387 [.aI 1 0,.pv t.pv] (fX s T n out) [out.length]=some ([],fX s T n out,[out.length]):=by
 have a:=c392 (s:=s) (t:=t);have b:=hT.norm;have c:=hT.mp;have g:=hT.sh;have d:i+1<=T.length:=by omega
 rw[h]at a;simp[f,hi]at a;rw[aA g387];simp(disch:=omega)[-getElem?_pos,g387,fX,f,hi,a,b,e,hd,c,d,bY]
theorem WT{s:c_}{out out':List Int}{t:Ty}{x:Sl}{i:Nat}(hi:t.id=i)(q:t.kind=1)(hx:s.sl[i]?=some x)(r:d7 s.sl t=some x){T T1 T2:List AV}(hT:RN T)(g:RN T1)(f:RN T2){n:Nat}(hn:T.length=n)(p:i<n)(hd:T[i]?=some (.pv (.bool false)))
   (hs:a0 T i [.pv (.bool true)]=T1) (e:(aC AP).i 387 [.aI 1 0,.pv x.ty.pv] (fX s T1 n out) [out.length]=some ([],fX s T2 n out',[out'.length])):
   (aC AP).i 387 [.aI 1 0,.pv t.pv] (fX s T n out) [out.length]=some ([],fX s T2 n out',[out'.length]):=by
 have j:=c392 (s:=s) (t:=t);have l:=hT.norm;have d:=g.norm;have c:=f.norm;have b:=g.sh;have a:=f.sh;have m:=hT.mp;have k:=hT.sh;have hl:i<s.sl.length:=by obtain⟨h,_⟩:=zaa.1 hx;exact h
 have o:i+1<=T.length:=by omega
 rw[r]at j;simp[q,hi]at j;simp[fX]at e;simp at hs;rw[aA g387];simp(disch:=omega)[-getElem?_pos,g387,fX,q,hi,j,l,d,c,p,hd,hx,hl,m,hs,o,e,bY,k,b,a]
def Un(s:c_)(n:Nat)(t:Ty)(T:List AV)(out:List Int)(a:List AV)(out':List Int):Prop:=(aC AP).i 387 [.aI 1 0,.pv t.pv] (fX s T n out) [out.length]=some ([],fX s a n out',[out'.length])
theorem WU{s:c_}{n:Nat}{t:Ty}(m:t.Ok)(J:Nat->List AV->List Int->Prop)(d:∀i T out,J i T out->RN T)
   (p:∀i a,t.args[i]?=some a->∀T out,J i T out->∃c out',Un s n a T out c out'∧J (i+1) c out'):∀(k i:Nat),t.args.length-i=k->i<=t.args.length->∀T out,J i T out->∃c out',
   cl AP g387L0 ⟨[(0,.aI 1 0),(3,.au 3 0),(4,.pv (vI i))],[(3,tC t)],fX s T n out,[out.length]⟩=
     some (.exit 1,⟨[(0,.aI 1 0),(3,.au 3 0),(4,.pv (vI t.args.length)),(68,.pv (.bool false))],[(3,tC t)],fX s c n out',[out'.length]⟩)∧J t.args.length c out'
 |0,i,q,hi,T,out,h=>by
  have:i=t.args.length:=by omega
  subst this;refine⟨T,out,?_,h⟩;have hn:=(d _ _ _ h).norm;rw[g387L0e];simp[g387B0,tC,fX,hn]
 |k+1,i,q,hi,T,out,h=>by
  have hi:i<t.args.length:=(by omega);obtain⟨a,o⟩:=aP hi;have g:=m.sm;unfold Sm at g;obtain⟨r,f,e,h1⟩:=p i a o T out h;obtain⟨c,out',l,h2⟩:=WU m J d p k (i+1) (by omega) (by omega) r f h1;refine⟨c,out',?_,h2⟩;have hn:=(d _ _ _ h).norm;have b:=(d _ _ _ h1).norm;have hs:=(d _ _ _ h).sh;have j:=(d _ _ _ h1).sh;unfold Un at e;rw[g387L0e]at l ⊢;simp[fX]at e;simp[tC,fX,b]at l;simp(disch:=omega)[-getElem?_pos,g387B0,tC,fX,hi,o,hn,b,hs,j,ah,e];rw[g387L0e];simp[l,b]
theorem WV{s:c_}{n:Nat}{t:Ty}(g:t.Ok)(j:t.kind≠1)(J:Nat->List AV->List Int->Prop)(c:∀i T out,J i T out->RN T)
   (k:∀i a,t.args[i]?=some a->∀T out,J i T out->∃b out',Un s n a T out b out'∧J (i+1) b out') {T:List AV} {out:List Int} (h:J 0 T out):∃b out',Un s n t T out b out'∧J t.args.length b out':=by
 obtain⟨b,out',e,h1⟩:=WU (s:=s) (n:=n) g J c k _ 0 rfl (by omega) T out h;refine⟨b,out',?_,h1⟩;have hn:=(c _ _ _ h).norm;have f:=(c _ _ _ h1).norm;have d:=(c _ _ _ h1).sh;unfold Un;rw[aA g387];rw[g387L0e]at e;simp[tC,fX,hn]at e;simp[g387,fX,j,hn,f,d,g387L0e,e]
def nc(s:List Sl)(v:Int):Prop:=∃(k:Nat)(x:Sl),v=k∧s[k]?=some x∧x.bd=true
theorem gY{s:List Sl}{t:Ty}(a:t.kind=1)(h:d7 s t=none):¬nc s t.id:=by
 rintro⟨k,x,e,hx,b⟩
 unfold d7 at h;have:0<=t.id:=by omega
 rw[zak ⟨a,this⟩]at h;have hn:t.id.toNat=k:=by omega
 rw[hn,hx]at h;simp[b]at h
theorem NL{s:List Sl}{i v:Int}(h:Edge s i v):nc s i:=by
 obtain⟨k,x,e,hx,a,_⟩:=h;exact⟨k,x,e,hx,a⟩
theorem pX{s:List Sl}{i v:Int}(h:F3 s i v)(a:¬nc s i):v=i:=by
 cases h with
 |refl=>rfl
 |step e _=>exact absurd (NL e) a
theorem iZ{t:Ty}{w:Int}(a:t.kind=1)(h:fE t w):w=t.id:=by
 cases h with
 |var _=>rfl
 |arg q _ _=>exact absurd a q
theorem Uo{s:List Sl}{a:Int->Nat}(hr:∀i v,Edge s i v->a v<a i){i v:Int}(h:F3 s i v):a v<=a i:=by
 induction h with
 |refl=>omega
 |step e _ b=>have:=hr _ _ e;omega
def QA(s:List Sl)(j:Int)(out:List Int):Prop:=∀v,F3 s j v->¬nc s v->v∈out
def RT(s:List Sl)(t:Ty)(v:Int):Prop:=∃w,fE t w∧F3 s w v
theorem QA.mono{s:List Sl}{j:Int}{out out':List Int}(h:QA s j out)(b:∀v∈out,v∈out'):QA s j out':=fun v a c=>b v (h v a c)
theorem NM{dn:List Bool}:∀v∈bT dn,∃p,v=AV.pv p:=by
 intro v a;simp only[bT,zat]at a;obtain⟨b,_,rfl⟩:=a;exact⟨_,rfl⟩
theorem kh{dn:List Bool}:RN (bT dn):=⟨fun _ _=>iy NM,d5 NM,fun _=>qL NM⟩
theorem Up{dn:List Bool}{i:Nat}(hi:i<dn.length)(b:Bool):a0 (bT dn) i [.pv (.bool b)]=bT (dn.set i b):=by
 have:(bT dn).length=dn.length:=by simp[bT]
 simp only[a0,bT,zax,List.length_nil,zbB];rw[<-za9,<-zcH,za2,zak hi];simp
theorem NN{dn:List Bool}{i j:Nat}(h:dn[j]?=some true):(dn.set i true)[j]?=some true:=by
 rw[zaA];have hj:j<dn.length:=by obtain⟨h,_⟩:=zaa.1 h;exact h
 by_cases e:i=j
 ·subst e;simp[hj]
 ·simp[e,h]
theorem B8{dn:List Bool}{i j:Nat}(h:(dn.set i true)[j]?=some true):i=j∨dn[j]?=some true:=by
 rw[zaA]at h;by_cases e:i=j
 ·exact .inl e
 ·simp[e]at h;exact .inr h
structure WW(s:c_)(S:List Int)(t:Ty)(dn:List Bool)(out:List Int)(dn':List Bool)(out':List Int):Prop where
 B9:Un s s.sl.length t (bT dn) out (bT dn') out'
 len:dn'.length=s.sl.length
 KJ:gQ S out'
 sub:∀v∈out,v∈out'
 mono:∀j:Nat,dn[j]?=some true->dn'[j]?=some true
 all:∀v,RT s.sl t v->¬nc s.sl v->v∈out'
 new:∀j:Nat,dn'[j]?=some true->dn[j]?=some true∨QA s.sl j out'
 own:∀v∈out',v∈out∨(RT s.sl t v∧¬nc s.sl v)
structure ZY(s:c_)(S:List Int)(t:Ty)(dn:List Bool)(out:List Int)(i:Nat)(dn':List Bool)(out':List Int):Prop where
 len:dn'.length=s.sl.length
 KJ:gQ S out'
 sub:∀v∈out,v∈out'
 mono:∀j:Nat,dn[j]?=some true->dn'[j]?=some true
 all:∀a∈t.args.take i,∀v,RT s.sl a v->¬nc s.sl v->v∈out'
 new:∀j:Nat,dn'[j]?=some true->dn[j]?=some true∨QA s.sl j out'
 own:∀v∈out',v∈out∨((∃a∈t.args.take i,RT s.sl a v)∧¬nc s.sl v)
theorem Nb{s:c_}{S:List Int}{z:Int->Nat}(hr:∀i v,Edge s.sl i v->z v<z i)(M:∀x∈s.sl,x.ty.Ok)(hS:∀x∈s.sl,∀w,fE x.ty w->w∈S)(N:Nat):
   ∀t:Ty,t.Ok->(∀w,fE t w->z w<N)->(∀w,fE t w->w∈S)->∀(dn:List Bool)(out:List Int),dn.length=s.sl.length->gQ S out->(∀j:Nat,dn[j]?=some true->RT s.sl t j->QA s.sl j out)->
     ∃dn' out',WW s S t dn out dn' out':=by
 induction N using Nat.strongRecOn with
 |ind N Q=>
  intro t
  refine Ty.cB (p:=fun t=>t.Ok->(∀w,fE t w->z w<N)->(∀w,fE t w->w∈S)->∀(dn:List Bool)(out:List Int),dn.length=s.sl.length->gQ S out->(∀j:Nat,dn[j]?=some true->RT s.sl t j->QA s.sl j out)->
    ∃dn' out',WW s S t dn out dn' out') ?_ t
  intro t L J hN hw dn out hd E u;by_cases r:t.kind=1
  ·have B:fE t t.id:=.var r;cases m:d7 s.sl t with
   |none=>
    have hf:=gY r m;have e:=WR (n:=s.sl.length) r m E (kh (dn:=dn))
    have O:(if t.id∈out then out else out++[t.id])=bW out t:=by
     unfold bW;by_cases q:t.id∈out<;>simp[q,r]
    rw[O]at e
    have hs:∀v∈out,v∈bW out t:=by
     intro v c;unfold bW;split
     ·simp[c]
     ·exact c
    refine⟨dn,bW out t,e,hd,E.add (fun _=>hw _ B),hs,fun _ h=>h,?_,fun _ h=>.inl h,fun v c=>?_⟩
    rotate_left
    ·unfold bW at c;split at c
     ·simp only[zai,zaJ]at c;rcases c with c|rfl
      ·exact .inl c
      ·exact .inr ⟨⟨t.id,B,.refl _⟩,hf⟩
     ·exact .inl c
    rintro v ⟨w,f,c⟩ _
    have h1:=iZ r f;subst h1;rw[pX c hf];unfold bW;by_cases q:t.id∈out<;>simp[q,r]
   |some x=>
    obtain⟨_,i,hi,hx,F⟩:=dL m;have hl:i<s.sl.length:=by obtain⟨h,_⟩:=zaa.1 hx;exact h
    have G:(bT dn).length=s.sl.length:=(by simp[bT,hd]);obtain⟨b,D⟩:=aP (l:=dn) (i:=i) (by omega);have H:(bT dn)[i]?=some (.pv (.bool b)):=(by simp[bT,D]);have F4:∀w,fE x.ty w->Edge s.sl t.id w:=fun w f=>⟨i,x,hi,hx,F,f⟩
    cases b with
    |true=>
     have e:=WS (out:=out) hi r hx m (kh (dn:=dn)) G hl H;refine⟨dn,out,e,hd,E,fun _ h=>h,fun _ h=>h,?_,fun _ h=>.inl h,fun _ h=>.inl h⟩
     rintro v ⟨w,f,c⟩ g
     have h1:=iZ r f;subst h1;have:=u i D ⟨t.id,B,by rw[hi];exact .refl _⟩;rw[hi]at c;exact this v c g
    |false=>
     have I:z t.id<N:=hN _ B
     obtain⟨dn',out',P⟩:=Q (z t.id) I x.ty (M x (aN hx)) (fun w f=>hr _ _ (F4 w f)) (hS x (aN hx)) (dn.set i true) out (by simp[hd]) E (by
      intro j hj ⟨w,f,c⟩;have C:z j<z t.id:=by have:=Uo hr c;have:=hr _ _ (F4 w f);omega
      rcases B8 hj with rfl|hj
      ·rw[hi]at C;omega
      ·exact u j hj ⟨t.id,B,.step (F4 w f) c⟩)
     have e:=WT hi r hx m (kh (dn:=dn)) (kh (dn:=dn.set i true)) (kh (dn:=dn')) G hl H (Up (by omega) true) P.B9
     have fin:QA s.sl t.id out':=by
      intro v c g;cases c with
      |refl=>exact absurd ⟨i,x,hi,hx,F⟩ g
      |step e2 c=>
       obtain⟨k,y,e3,hy,_,f⟩:=e2;have:k=i:=by omega
       subst this;rw[hx]at hy;cases hy;exact P.all v ⟨_,f,c⟩ g
     refine⟨dn',out',e,P.len,P.KJ,P.sub,fun j h=>P.mono j (NN h),?_,?_,fun v c=>(P.own v c).imp_right fun⟨⟨w,f,c⟩,m⟩=>⟨⟨t.id,B,.step (F4 w f) c⟩,m⟩⟩
     ·rintro v ⟨w,f,c⟩ g
      have h1:=iZ r f;subst h1;exact fin v c g
     ·intro j hj;rcases P.new j hj with h|h
      ·rcases B8 h with rfl|h
       ·exact .inr (by rw[<-hi];exact fin)
       ·exact .inl h
      ·exact .inr h
  ·obtain⟨R,out',e,dn',rfl,h⟩:=WV (s:=s) (n:=s.sl.length) J r (fun i T o=>∃d,T=bT d∧ZY s S t dn out i d o) (by rintro i T o ⟨d,rfl,_⟩;exact kh) (by
    rintro i a A T o ⟨d,rfl,h⟩
    have hm:=aN A
    obtain⟨K,o',P⟩:=L a hm (J.cY a hm) (fun w f=>hN w (.arg r hm f)) (fun w f=>hw w (.arg r hm f)) d o h.len h.KJ (by
     intro j hj ⟨w,f,c⟩;rcases h.new j hj with hj|hj
     ·exact(u j hj ⟨w,.arg r hm f,c⟩).mono h.sub
     ·exact hj)
    refine⟨bT K,o',P.B9,K,rfl,P.len,P.KJ,fun v c=>P.sub v (h.sub v c),fun j hj=>P.mono j (h.mono j hj),?_,?_,fun v c=>?_⟩
    rotate_left
    rotate_left
    ·rw[zaI,A];rcases P.own v c with c|⟨c,m⟩
     ·exact(h.own v c).imp_right fun⟨⟨b,m,hr⟩,h2⟩=>⟨⟨b,by simp[m],hr⟩,h2⟩
     ·exact .inr ⟨⟨a,by simp,c⟩,m⟩
    ·intro b m v c g;rw[zaI,A]at m;simp at m;rcases m with m|rfl
     ·exact P.sub v (h.all b m v c g)
     ·exact P.all v c g
    ·intro j hj;rcases P.new j hj with hj|hj
     ·rcases h.new j hj with hj|hj
      ·exact .inl hj
      ·exact .inr (hj.mono P.sub)
     ·exact .inr hj) ⟨dn,rfl,hd,E,fun _ h=>h,fun _ h=>h,by simp,fun _ h=>.inl h,fun _ h=>.inl h⟩
   refine⟨dn',out',e,h.len,h.KJ,h.sub,h.mono,?_,h.new,fun v c=>(h.own v c).imp_right fun⟨⟨a,A,w,f,hr⟩,m⟩=>⟨⟨w,.arg r (za7 A) f,hr⟩,m⟩⟩
   rintro v ⟨w,f,c⟩ g
   cases f with
   |var q=>exact absurd q r
   |arg _ A f=>exact h.all _ (by simpa using A) v ⟨w,f,c⟩ g
inductive Ex.Ok:Ex->Prop
 |mk {e:Ex}:e.kids.length<=1000->e.aF.length<=1000->(∀a∈e.aF,a.vars.length<=1000)->e.ty.Ok->(∀x∈e.ch,x.Ok)->e.Ok
theorem Ex.Ok.k{e:Ex}(h:e.Ok):e.kids.length<=1000:=by cases h;assumption
theorem Ex.Ok.a{e:Ex}(h:e.Ok):e.aF.length<=1000:=by cases h;assumption
theorem Ex.Ok.v{e:Ex}(h:e.Ok):∀a∈e.aF,a.vars.length<=1000:=by cases h;assumption
theorem Ex.Ok.t{e:Ex}(h:e.Ok):e.ty.Ok:=by cases h;assumption
theorem Ex.Ok.c{e:Ex}(h:e.Ok):∀x∈e.ch,x.Ok:=by cases h;assumption
theorem Ex.gZ{e:Ex}:e.ch.length=e.kids.length+e.aF.length:=by simp[Ex.ch]
@[simp] def Ex.cl(e:Ex):List AV:=[.pv (vI e.kind),.pv (vI e.pos),.pv (.str e.name),.pv (vI e.num),.pv (.aq (e.kids.map Ex.pv)),.pv (.aq (e.aF.map Ar.pv)),.pv (vI e.ty.kind),.pv (.str e.ty.name),.pv (vI e.ty.id),.pv (vI e.ty.home),.pv (.aq (e.ty.args.map Ty.pv))]
theorem qP:Row Ex.cells 11:=⟨by omega,fun x=>by rw[Ex.aE];rfl⟩
def Ar.cells(a:Ar):List PV:=.int .i64 a.pos::.str a.dK::.aq (a.vars.map .str)::a.body.cells
theorem vk:Row Ar.cells 14:=⟨by omega,fun x=>by simp[Ar.cells,Ex.aE]⟩
theorem Ex.iI(e:Ex):e.cells.map AV.pv=e.cl:=by rw[Ex.aE];rfl
@[simp] def Ex.WX(e:Ex)(A:AV):List AV:=[.pv (vI e.kind),.pv (vI e.pos),.pv (.str e.name),.pv (vI e.num),.pv (.aq (e.kids.map Ex.pv)),A,.pv (vI e.ty.kind),.pv (.str e.ty.name),.pv (vI e.ty.id),.pv (vI e.ty.home),.pv (.aq (e.ty.args.map Ty.pv))]
def Ys(A:AV)(as:List Ar)(X:Sh):Prop:=A=.pv (.aq (as.map Ar.pv))∨∃b,b<X.length∧A=.bh b 14 as.length true∧X[b]?=some (some (bR Ar.cells as))
theorem Ys.app{A:AV}{as:List Ar}{X Y:Sh}(h:Ys A as X):Ys A as (X++Y):=by
 rcases h with h|⟨b,h1,h2,h3⟩
 ·exact .inl h
 ·exact .inr ⟨b,by rw[zan];omega,h2,by rw[zal h1];exact h3⟩
def hV(X:Sh)(l:List Ex):AV:=if l=[]then .own [] 0 else .bh X.length 11 l.length true
def hS(X:Sh)(l:List Ex):Sh:=if l=[]then X else X++[some (bR Ex.cells l)]
def hT(l:List Ex):aG:=if l=[]then[0]else[]
theorem B_{X:Sh}(h:aT X)(l:List Ex):aT (hS X l):=by
 unfold hS;by_cases h0:l=[]
 ·rw[zak h0];exact h
 ·rw[zad h0];exact h.app (aT.one fD)
theorem Uq{e:Ex}{A:AV}(J:e.aF.length<=1000):∀(n i:Nat),e.aF.length-i=n->i<=e.aF.length->∀(X:Sh)(acc:List Ex),aT X->Ys A e.aF X->acc.length+n<=1000000->∃k,
   cl AP g145L0 ⟨[(1,.au 1 0),(3,hV X acc),(4,.pv (vI i))],[(1,e.WX A)],hS X acc,hT acc⟩=
     some (.exit 0,⟨[(1,.au 1 0),(3,hV (X++nn k) (acc++(e.aF.drop i).map da.body)),(4,.pv (vI e.aF.length)),(12,.pv (.bool false))],[(1,e.WX A)],hS (X++nn k) (acc++(e.aF.drop i).map da.body),hT (acc++(e.aF.drop i).map da.body)⟩)
 |0,i,hn,hi,X,acc,d,p,hl=>by
  have:i=e.aF.length:=by omega
  subst this;refine⟨0,?_⟩;rw[za1,zbk,zaM,show nn 0=[] from rfl,zaM];have hn:=(B_ d acc).norm
  have L:(hV X acc=.own [] 0∧hT acc=[0])∨(∃b z k g,hV X acc=.bh b z k g∧hT acc=[]):=by
   unfold hV hT;by_cases h0:acc=[]
   ·left;simp[h0]
   ·right;exact⟨X.length,11,acc.length,true,by simp[h0],by simp[h0]⟩
  rw[g145L0e]
  rcases L with⟨G,t1⟩|⟨b1,z1,O,f1,G,t1⟩<;>rw[G,t1]<;>generalize hS X acc=R at hn⊢ <;>
    rcases p with rfl|⟨b,E,rfl,hx⟩<;>simp[g145B0,hn]
 |n+1,i,hn,hi,X,acc,d,p,hl=>by
  have hi:i<e.aF.length:=(by omega);obtain⟨x,hx⟩:=aP hi;have q:=d.norm;have K:∀m:Nat,m<=1000000->m*152<=140737488355328:=(by omega);have t:=Ex.aE x.body;rw[aV hx,zao]
  have step:∃k,cl AP g145L0 ⟨[(1,.au 1 0),(3,hV (if acc=[]then X else X++[none]) (acc++[x.body])),(4,.pv (vI (i+1:Nat)))],[(1,e.WX A)],hS (if acc=[]then X else X++[none]) (acc++[x.body]),hT (acc++[x.body])⟩=
    some (.exit 0,⟨[(1,.au 1 0),(3,hV (X++nn k) (acc++(x.body::(e.aF.drop (i+1)).map da.body))),(4,.pv (vI e.aF.length)),(12,.pv (.bool false))],[(1,e.WX A)],hS (X++nn k) (acc++(x.body::(e.aF.drop (i+1)).map da.body)),hT (acc++(x.body::(e.aF.drop (i+1)).map da.body))⟩):=by
    by_cases h0:acc=[]
    ·rw[zak h0];obtain⟨k,c⟩:=Uq J n (i+1) (by omega) (by omega) X (acc++[x.body]) d p (by simp;omega);refine⟨k,?_⟩;rw[c];simp only[zaQ,zb5]
    ·rw[zad h0];obtain⟨k,c⟩:=Uq J n (i+1) (by omega) (by omega) (X++[none]) (acc++[x.body]) (d.app (pW 1)) p.app (by simp;omega);refine⟨k+1,?_⟩;have e1:X++[none]++nn k=X++nn (k+1):=by simp[nn,zbn]
     rw[c,e1];simp only[zaQ,zb5]
  obtain⟨k,c⟩:=step;refine⟨k,?_⟩;generalize hV (X++nn k) (acc++(x.body::(e.aF.drop (i+1)).map da.body))=V2 at c⊢;generalize hS (X++nn k) (acc++(x.body::(e.aF.drop (i+1)).map da.body))=Q at c⊢;generalize hT (acc++(x.body::(e.aF.drop (i+1)).map da.body))=P at c⊢;have j:acc++[x.body]≠[]:=by simp
  have s:∀Y,aT Y->∀aL ts,bl aL ts (Y++[some (bR Ex.cells (acc++[x.body]))])=(Y++[some (bR Ex.cells (acc++[x.body]))],aL,ts):=fun Y N=>(N.app (aT.one fD)).norm;have l:bR Ex.cells (acc++[x.body])=bR Ex.cells acc++x.body.cl:=by rw[y6,<-Ex.iI];simp[bR]
  by_cases h0:acc=[]
  ·subst h0;rw[zak rfl]at c;have a:=s X d;simp only[za8]at j a l c;simp only[hV,hS,hT,zad j,za0]at c⊢;rw[l]at a c;simp only[GY,za8]at a c;simp only[Ex.cl]at a;rw[g145L0e]at c⊢;rcases p with rfl|⟨b,E,rfl,h⟩
   ·simp[a]at c;simp(disch:=omega)[-getElem?_pos,g145B0,hx,hi,ah,q];rw[g145L0e];simp[a,c]
   ·have f:=y7 vk hx (o:=3) (k:=11) (by omega);have D:i*14+3+11<=e.aF.length*14:=(by omega);have C:(bR Ar.cells e.aF).length=e.aF.length*14:=gV vk;have B:dE (bR Ar.cells e.aF)=false:=d5 fD;have y:(((Ar.cells x).drop 3).take 11).map AV.pv=x.body.cl:=(by simp[Ar.cells,t]);rw[y]at f;generalize bR Ar.cells e.aF=T at*;simp[a]at c f;simp(disch:=omega)[-getElem?_pos,g145B0,hx,hi,ah,q,h,f,D,C,B];rw[g145L0e];simp[a,c]
  ·rw[zad h0]at c;have a:=s (X++[none]) (d.app (pW 1));have r:∀aL ts,bl aL ts (X++[some (bR Ex.cells acc)])=(X++[some (bR Ex.cells acc)],aL,ts):=(d.app (aT.one fD)).norm;simp only[hV,hS,hT,zad j,zad h0]at c⊢;have r1:(bR Ex.cells acc).length=acc.length*11:=gV qP;have r2:dE (bR Ex.cells acc)=false:=d5 fD;have r3:(bR Ex.cells acc).take (acc.length*11)=bR Ex.cells acc:=zaw (by omega);have v:(acc.length+1)*152<=140737488355328:=by omega
   rw[l]at a c;rw[zan,zbt,zan,zbt]at c;have I:∀u w:Option (List AV),(X++[u]).set X.length w=X++[w]:=fun u w=>by simp
   have H:∀u:Option (List AV),(X++[u])[X.length]?=some u:=fun u=>by simp
   simp only[Ex.cl]at a;rw[g145L0e]at c⊢;rcases p with rfl|⟨b,E,rfl,h⟩
   ·generalize bR Ex.cells acc=F at*;simp[a]at c;simp(disch:=omega)[-getElem?_pos,g145B0,hx,hi,ah,r,r1,r2,r3,I,H,v];rw[g145L0e];simp[a,c]
   ·have f:=y7 vk hx (o:=3) (k:=11) (by omega);have D:i*14+3+11<=e.aF.length*14:=(by omega);have C:(bR Ar.cells e.aF).length=e.aF.length*14:=gV vk;have B:dE (bR Ar.cells e.aF)=false:=d5 fD;have y:(((Ar.cells x).drop 3).take 11).map AV.pv=x.body.cl:=(by simp[Ar.cells,t]);have M:∀u:Option (List AV),(X++[u])[b]?=X[b]?:=fun u=>zal E
    rw[y]at f;generalize bR Ar.cells e.aF=T at*;generalize bR Ex.cells acc=F at*;simp[a]at c f;simp(disch:=omega)[-getElem?_pos,g145B0,hx,hi,ah,r,r1,r2,r3,I,H,v,h,f,D,C,B,M];rw[g145L0e];simp[a,c]
theorem NO{l:List Ex}:((eY (bR Ex.cells l)).bind (gG 11 true l.length)).map PV.aq=some (.aq (l.map Ex.pv)):=y8 qP
theorem NP{l:List Ex}:((l.map Ex.pv).flatMap a9).map AV.pv=bR Ex.cells l:=y9 qP
theorem c145{e:Ex}(h:e.Ok):(aC AP).p 145 [e.pv]=some [.aq (e.ch.map Ex.pv)]:=by
 have n:=h.k;have j:=h.a;obtain⟨k,h2⟩:=Uq (A:=.pv (.aq (e.aF.map Ar.pv))) j _ 0 rfl (by omega) [] e.kids (by intro cs h;simp at h) (.inl rfl) (by omega);rw[zar]at h2
 change cl AP g145L0 _=some (.exit 0,⟨[(1,.au 1 0),(3,hV ([]++nn k) e.ch),(4,.pv (vI e.aF.length)),(12,.pv (.bool false))],[(1,e.WX (.pv (.aq (e.aF.map Ar.pv))))],hS ([]++nn k) e.ch,hT e.ch⟩)at h2
 have g:e.kids.length*152<=140737488355328:=by omega
 have hm:=NP (l:=e.kids);have hl:=NO (l:=e.ch);have b:(bR Ex.cells e.ch).length=e.ch.length*11:=gV qP;have d:∀aL ts,bl aL ts ([some (bR Ex.cells e.kids)])=([some (bR Ex.cells e.kids)],aL,ts):=(aT.one fD).norm;rw[az g145];by_cases f:e.ch=[]
 ·have h0:e.kids=[]∧e.aF=[]:=by have:=f;simpa[Ex.ch]using this
  simp only[f,hV,hS,hT,za0,h0.1]at h2⊢;rw[g145L0e]at h2;simp[h0.1,h0.2]at h2;simp[g145,h0.1,h0.2,g145L0e,h2]
 ·have i:∀Z:Option (List AV),([]++nn k++[Z])[k]?=some Z:=fun Z=>by simp
  by_cases h0:e.kids=[]
  ·simp only[hV,hS,hT,zad f,h0,za0]at h2⊢;have c:=i (some (bR Ex.cells e.ch));generalize []++nn k++[some (bR Ex.cells e.ch)]=m at*;generalize bR Ex.cells e.ch=F at*;rw[g145L0e]at h2;simp[h0]at h2;simp at hl;simp[-getElem?_pos,g145,h0,g145L0e,h2,c,b,hl]
  ·simp only[hV,hS,hT,zad f,zad h0]at h2⊢;have c:=i (some (bR Ex.cells e.ch));generalize []++nn k++[some (bR Ex.cells e.ch)]=m at*;generalize bR Ex.cells e.ch=F at*;generalize bR Ex.cells e.kids=o at*;rw[g145L0e]at h2;simp[d]at h2 hl;simp[-getElem?_pos,g145,h0,g,hm,d,g145L0e,h2,c,b,hl]
theorem Ur{e:Ex}(q:e.aF.length<=1000):∀(n i:Nat),e.aF.length-i=n->i<=e.aF.length->∀(X:Sh)(acc:List Ex),aT X->acc.length+n<=1000000->∃k,
   cl AP g414L0 ⟨[(3,hV X acc),(10,.pv (.aq (e.aF.map Ar.pv))),(11,.pv (vI e.aF.length)),(12,.pv (vI i))],[],hS X acc,hT acc⟩=
     some (.exit 0,⟨[(3,hV (X++nn k) (acc++(e.aF.drop i).map da.body)),(10,.pv (.aq (e.aF.map Ar.pv))),(11,.pv (vI e.aF.length)),(12,.pv (vI e.aF.length)),(13,.pv (.bool false))],[],hS (X++nn k) (acc++(e.aF.drop i).map da.body),hT (acc++(e.aF.drop i).map da.body)⟩)
 |0,i,hn,hi,X,acc,d,hl=>by
  have:i=e.aF.length:=by omega
  subst this;refine⟨0,?_⟩;rw[za1,zbk,zaM,show nn 0=[] from rfl,zaM];have hn:=(B_ d acc).norm
  have r:(hV X acc=.own [] 0∧hT acc=[0])∨(∃b z k g,hV X acc=.bh b z k g∧hT acc=[]):=by
   unfold hV hT;by_cases h0:acc=[]
   ·left;simp[h0]
   ·right;exact⟨X.length,11,acc.length,true,by simp[h0],by simp[h0]⟩
  rw[g414L0e];rcases r with⟨p,t1⟩|⟨b1,z1,A,f1,p,t1⟩<;>rw[p,t1]<;>generalize hS X acc=D at hn⊢<;>simp[g414B0,hn]
 |n+1,i,hn,hi,X,acc,d,hl=>by
  have hi:i<e.aF.length:=(by omega);obtain⟨x,hx⟩:=aP hi;have l:=d.norm;have v:=Ex.aE x.body;rw[aV hx,zao]
  have step:∃k,cl AP g414L0 ⟨[(3,hV (if acc=[]then X else X++[none]) (acc++[x.body])),(10,.pv (.aq (e.aF.map Ar.pv))),(11,.pv (vI e.aF.length)),(12,.pv (vI (i+1:Nat)))],[],hS (if acc=[]then X else X++[none]) (acc++[x.body]),hT (acc++[x.body])⟩=
    some (.exit 0,⟨[(3,hV (X++nn k) (acc++(x.body::(e.aF.drop (i+1)).map da.body))),(10,.pv (.aq (e.aF.map Ar.pv))),(11,.pv (vI e.aF.length)),(12,.pv (vI e.aF.length)),(13,.pv (.bool false))],[],hS (X++nn k) (acc++(x.body::(e.aF.drop (i+1)).map da.body)),hT (acc++(x.body::(e.aF.drop (i+1)).map da.body))⟩):=by
    by_cases h0:acc=[]
    ·rw[zak h0];obtain⟨k,c⟩:=Ur q n (i+1) (by omega) (by omega) X (acc++[x.body]) d (by simp;omega);refine⟨k,?_⟩;rw[c];simp only[zaQ,zb5]
    ·rw[zad h0];obtain⟨k,c⟩:=Ur q n (i+1) (by omega) (by omega) (X++[none]) (acc++[x.body]) (d.app (pW 1)) (by simp;omega);refine⟨k+1,?_⟩;have e1:X++[none]++nn k=X++nn (k+1):=by simp[nn,zbn]
     rw[c,e1];simp only[zaQ,zb5]
  obtain⟨k,c⟩:=step;refine⟨k,?_⟩;generalize hV (X++nn k) (acc++(x.body::(e.aF.drop (i+1)).map da.body))=V2 at c⊢;generalize hS (X++nn k) (acc++(x.body::(e.aF.drop (i+1)).map da.body))=C at c⊢;generalize hT (acc++(x.body::(e.aF.drop (i+1)).map da.body))=B at c⊢;have f:acc++[x.body]≠[]:=by simp
  have j:∀Y,aT Y->∀aL ts,bl aL ts (Y++[some (bR Ex.cells (acc++[x.body]))])=(Y++[some (bR Ex.cells (acc++[x.body]))],aL,ts):=fun Y y=>(y.app (aT.one fD)).norm;have h:bR Ex.cells (acc++[x.body])=bR Ex.cells acc++x.body.cl:=by rw[y6,<-Ex.iI];simp[bR]
  by_cases h0:acc=[]
  ·subst h0;rw[zak rfl]at c;have a:=j X d;simp only[za8]at f a h c;simp only[hV,hS,hT,zad f,za0]at c⊢;rw[h]at a c;simp only[GY,za8]at a c;simp only[Ex.cl]at a;rw[g414L0e]at c⊢;simp[a]at c;simp(disch:=omega)[-getElem?_pos,g414B0,hx,hi,ah,l];rw[g414L0e];simp[a,c]
  ·rw[zad h0]at c;have a:=j (X++[none]) (d.app (pW 1));have m:∀aL ts,bl aL ts (X++[some (bR Ex.cells acc)])=(X++[some (bR Ex.cells acc)],aL,ts):=(d.app (aT.one fD)).norm;simp only[hV,hS,hT,zad f,zad h0]at c⊢;have r1:(bR Ex.cells acc).length=acc.length*11:=gV qP;have r2:dE (bR Ex.cells acc)=false:=d5 fD;have r3:(bR Ex.cells acc).take (acc.length*11)=bR Ex.cells acc:=zaw (by omega);have o:(acc.length+1)*152<=140737488355328:=by omega
   rw[h]at a c;rw[zan,zbt,zan,zbt]at c;have t:∀u w:Option (List AV),(X++[u]).set X.length w=X++[w]:=fun u w=>by simp
   have s:∀u:Option (List AV),(X++[u])[X.length]?=some u:=fun u=>by simp
   simp only[Ex.cl]at a;rw[g414L0e]at c⊢;generalize bR Ex.cells acc=F at*;simp[a]at c;simp(disch:=omega)[-getElem?_pos,g414B0,hx,hi,ah,m,r1,r2,r3,t,s,o];rw[g414L0e];simp[a,c]
theorem c414{e:Ex}(h:e.Ok):(aC AP).p 414 [e.pv]=some [.aq (e.ch.map Ex.pv)]:=by
 have n:=h.k;have j:=h.a;obtain⟨k,h2⟩:=Ur j _ 0 rfl (by omega) [] e.kids (by intro cs h;simp at h) (by omega);rw[zar]at h2
 change cl AP g414L0 _=some (.exit 0,⟨[(3,hV ([]++nn k) e.ch),(10,.pv (.aq (e.aF.map Ar.pv))),(11,.pv (vI e.aF.length)),(12,.pv (vI e.aF.length)),(13,.pv (.bool false))],[],hS ([]++nn k) e.ch,hT e.ch⟩)at h2
 have g:e.kids.length*152<=140737488355328:=by omega
 have hm:=NP (l:=e.kids);have hl:=NO (l:=e.ch);have b:(bR Ex.cells e.ch).length=e.ch.length*11:=gV qP;have d:∀aL ts,bl aL ts ([some (bR Ex.cells e.kids)])=([some (bR Ex.cells e.kids)],aL,ts):=(aT.one fD).norm;rw[az g414];by_cases f:e.ch=[]
 ·have h0:e.kids=[]∧e.aF=[]:=by have:=f;simpa[Ex.ch]using this
  simp only[f,hV,hS,hT,za0,h0.1]at h2⊢;rw[g414L0e]at h2;simp[h0.1,h0.2]at h2;simp[g414,h0.1,h0.2,g414L0e,h2]
 ·have i:∀Z:Option (List AV),([]++nn k++[Z])[k]?=some Z:=fun Z=>by simp
  by_cases h0:e.kids=[]
  ·simp only[hV,hS,hT,zad f,h0,za0]at h2⊢;have c:=i (some (bR Ex.cells e.ch));generalize []++nn k++[some (bR Ex.cells e.ch)]=m at*;generalize bR Ex.cells e.ch=F at*;rw[g414L0e]at h2;simp[h0]at h2;simp at hl;simp[-getElem?_pos,g414,h0,g414L0e,h2,c,b,hl]
  ·simp only[hV,hS,hT,zad f,zad h0]at h2⊢;have c:=i (some (bR Ex.cells e.ch));generalize []++nn k++[some (bR Ex.cells e.ch)]=m at*;generalize bR Ex.cells e.ch=F at*;generalize bR Ex.cells e.kids=o at*;rw[g414L0e]at h2;simp[d]at h2 hl;simp[-getElem?_pos,g414,h0,g,hm,d,g414L0e,h2,c,b,hl]
def Yt:Ex:=⟨0,0,[],0,[],[],ca⟩
def Ex.at:Ex->List Int->Option Ex
 |e,[]=>some e
 |e,i::r=>if 0<=i∧i<e.ch.length then match e.ch[i.toNat]? with|some x=>x.at r|none=>none else none
def zO:List AV:=[.pv (vI 0),.pv (vI 0),.pv (.str []),.pv (vI 0),.own [] 0,.own [] 1,.pv (vI 0),.pv (.str []),.pv (vI 0),.pv (vI 0),.own [] 2]
def zK:List AV:=[.pv (vI 0),.pv (vI 0),.pv (.str []),.pv (vI 0),.cQ [],.cQ [],.pv (vI 0),.pv (.str []),.pv (vI 0),.pv (vI 0),.cQ []]
def atR:Option Ex->List PV
 |some x=>[x.pv,.bool true]
 |none=>[Yt.pv,.bool false]
def KK(p:List Int):Option Ex->Option (aR×St)
 |some x=>some (.exit 0,⟨[(2,.au 2 0),(4,.au 4 0),(9,.pv (.aq (p.map vI))),(10,.pv (vI p.length)),(11,.pv (vI p.length)),(12,.pv (.bool false))],[(2,x.cl),(4,zO)],[],[0,0,0]⟩)
 |none=>some (.ret,⟨[(4,.au 4 0),(5,.pv (.bool false))],[(4,zK)],[],[0,0,0]⟩)
theorem WY{p:List Int}(hp:Sm p):∀(n i:Nat),p.length-i=n->i<=p.length->∀e:Ex,e.Ok->
   cl AP g410L0 ⟨[(2,.au 2 0),(4,.au 4 0),(9,.pv (.aq (p.map vI))),(10,.pv (vI p.length)),(11,.pv (vI i))],[(2,e.cl),(4,zO)],[],[0,0,0]⟩=KK p (e.at (p.drop i))
 |0,i,hn,hi,e,f=>by
  have:i=p.length:=by omega
  subst this;rw[g410L0e];simp[g410B0,Ex.at,KK,zO]
 |n+1,i,hn,hi,e,f=>by
  have hi:i<p.length:=(by omega);obtain⟨k,b⟩:=aP hi;unfold Sm at hp;have c:=c414 f;simp at c;rw[aV b,g410L0e];simp only[Ex.at];by_cases h1:0<=k∧k<e.ch.length
  ·rw[zak h1];obtain⟨m,rfl,hm⟩:=uT h1.1 h1.2;obtain⟨x,hx⟩:=aP hm;have g:=WY hp n (i+1) (by omega) (by omega) x (f.c x (aN hx));have d:¬e.ch.length<=m:=by omega
   simp[hx,zO]at g⊢;generalize e.ch=C at*;simp(disch:=omega)[-getElem?_pos,g410B0,b,hi,ah,c,hx,hm,d,g]
  ·rw[zad h1];by_cases h2:0<=k
   ·have h3:¬k<e.ch.length:=fun h=>h1 ⟨h2,h⟩;have a:¬k<0:=by omega
    have h4:(e.ch.length:Int)<=k:=(by omega);generalize e.ch=C at*;simp(disch:=omega)[-getElem?_pos,g410B0,b,hi,ah,c,KK,zO,zK,h3,a,h4]
   ·have a:k<0:=(by omega);generalize e.ch=C at*;simp(disch:=omega)[-getElem?_pos,g410B0,b,hi,ah,c,KK,zO,zK,a]
theorem c410{e:Ex}(h:e.Ok){p:List Int}(hp:Sm p):(aC AP).p 410 [e.pv,.aq (p.map vI)]=some (atR (e.at p)):=by
 have h2:=WY hp _ 0 rfl (by omega) e h;simp at h2;rw[az g410];rw[g410L0e]at h2;cases hx:e.at p with
 |none=>rw[hx]at h2;simp[KK,zO,zK]at h2;simp[g410,g410L0e,h2,atR,Yt,ca]
 |some x=>rw[hx]at h2;simp[KK,zO,zK]at h2;simp[g410,g410L0e,h2,atR,Yt,ca]
def cd(e:Ex)(i:Nat):List (List UInt8):=
 if e.kind=4∨e.kind=7∨(e.kind=6∧i=1)then[e.name]
 else if e.kind=8∧0<i then match e.aF[i-1]? with|some a=>a.vars|none=>[]
 else []
theorem c380{e:Ex}{i:Nat}(hi:i<e.ch.length)(h8:e.kind=8->e.kids.length=1)(g:e.Ok):(aC AP).p 380 [e.pv,vI i]=some [.aq ((cd e i).map .str)]:=by
 have j:=g.a;rw[Ex.gZ]at hi;rw[az g380];unfold cd;by_cases h1:e.kind=4
 ·simp[g380,h1]
 ·by_cases h2:e.kind=7
  ·simp[g380,h1,h2]
  ·by_cases h3:e.kind=6
   ·by_cases h4:i=1
    ·simp[g380,h1,h2,h3,h4]
    ·have f:¬(i:Int)=1:=(by omega);simp[g380,h1,h2,h3,h4,f]
   ·by_cases h5:e.kind=8
    ·by_cases h6:0<i
     ·have d:(0:Int)<i:=(by omega);have h:=h8 h5;obtain⟨a,hx⟩:=aP (l:=e.aF) (i:=i-1) (by omega);obtain⟨m,rfl⟩:∃m:Nat,i=m+1:=⟨i-1,by omega⟩;have hm:((m+1:Nat):Int)-1=m:=(by omega);have b:((m:Int)+1)-1=m:=(by omega);simp at hx hi;have c:m<e.aF.length:=(by omega);simp(disch:=omega)[-getElem?_pos,g380,h1,h2,h3,h5,h6,d,ah,hm,b,hx,c]
     ·have:i=0:=by omega
      subst this;simp[g380,h1,h2,h3,h5]
    ·simp[g380,h1,h2,h3,h5]
theorem c411{e:Ex}{i:Nat}(hi:i<e.ch.length)(h8:e.kind=8->e.kids.length=1)(j:e.Ok):(aC AP).p 411 [e.pv,vI i]=some [.aq ((cd e i).map .str)]:=by
 have k:=j.a;rw[Ex.gZ]at hi;rw[az g411];unfold cd;by_cases h1:e.kind=4
 ·simp[g411,h1]
 ·by_cases h2:e.kind=7
  ·simp[g411,h1,h2]
  ·by_cases h3:e.kind=6
   ·by_cases h4:i=1
    ·simp[g411,h1,h2,h3,h4]
    ·have g:¬(i:Int)=1:=(by omega);simp[g411,h1,h2,h3,h4,g]
   ·by_cases h5:e.kind=8
    ·have h:=h8 h5;by_cases h6:0<i
     ·have f:(1:Int)<=i:=(by omega);obtain⟨a,hx⟩:=aP (l:=e.aF) (i:=i-1) (by omega);obtain⟨m,rfl⟩:∃m:Nat,i=m+1:=⟨i-1,by omega⟩;have hm:((m+1:Nat):Int)-1=m:=(by omega);have c:((m:Int)+1)-1=m:=(by omega);simp at hx hi;have d:m<e.aF.length:=(by omega);have b:(1:Int)<=(m:Int)+1:=(by omega);simp(disch:=omega)[-getElem?_pos,g411,h1,h2,h3,h5,h,h6,f,b,ah,hm,c,hx,d]
     ·have:i=0:=by omega
      subst this;simp[g411,h1,h2,h3,h5,h]
    ·simp[g411,h1,h2,h3,h5]
theorem wq{α:Type}{l:List α}{i:Nat}{x:α}(h:i<l.length):(l.set i x).take (i+1)=l.take i++[x]:=by
 rw[za2,zak h,zbO,zaw (by simp;omega)];have:i+1-(l.take i).length=1:=by simp;omega
 rw[this];rfl
theorem B'{α:Type}{l:List α}{i j:Nat}{x:α}(h:i<j):(l.set i x).drop j=l.drop j:=by
 rw[List.drop_set_of_lt h]
theorem Us{X:Sh}(k:aT X){t:List UInt8}{N:Nat}(hN:N<1099511627776):∀(n j:Nat),N-j=n->j<=N->∀(a:List (List UInt8))(i:Nat),a.length=N->i<j->∃(d:List (List UInt8))(f:Nat),
   cl AP g412L0 ⟨[(0,.bh X.length 1 N false),(1,.fn 413 [.aI (X.length+1) 0]),(5,.pv (vI i)),(6,.pv (vI j))],[],SA X a t,[]⟩=
     some (.exit 0,⟨[(0,.bh X.length 1 N false),(1,.fn 413 [.aI (X.length+1) 0]),(5,.pv (vI f)),(6,.pv (vI N)),(19,.pv (.bool false))],[],SA X d t,[]⟩)∧
     d.length=N∧f<=N∧d.take f=a.take i++(a.drop j).filter (fun x=>!decide (x=t))
 |0,j,z,hj,a,i,p,hi=>by
  have:j=N:=by omega
  subst this;have hn:=(gh k (l:=a) (t:=t)).norm;refine⟨a,i,?_,p,by omega,by rw[List.drop_of_length_le (by omega)];simp⟩;generalize SA X a t=y at hn⊢;rw[g412L0e];simp[g412B0,hn]
 |n+1,j,z,hj,a,i,p,hi=>by
  have hj:j<N:=(by omega);obtain⟨x,hx⟩:=aP (l:=a) (i:=j) (by omega);have hn:=(gh k (l:=a) (t:=t)).norm;have hs:=(gh k (l:=a) (t:=t)).shift;have v:=NI hx;have w:dE (tx a)=false:=d5 na;have o:j+1<=(tx a).length:=(by rw[pa];omega);have m:i+1<=(tx a).length:=(by rw[pa];omega);have r:=FZ (X:=X) (l:=a) (t:=t);have q:=NJ hn hs NG (by rw[y5];omega) (x:=x) (t:=t) (c:=X.length+1);by_cases e:x=t
  ·obtain⟨d,f,e1,e2,e3,e4⟩:=Us k (t:=t) hN n (j+1) (by omega) (by omega) a i p (by omega);refine⟨d,f,?_,e2,e3,by rw[e4,aV hx];simp[e]⟩;rw[zaG e]at q;generalize SA X d t=A at e1⊢;generalize SA X a t=y at hn hs r q e1⊢;rw[g412L0e]at e1⊢;simp[hn]at e1;simp(disch:=omega)[-getElem?_pos,-eT,g412B0,hj,hn,r,v,w,o,q,ah];rw[g412L0e];simp[hn,e1]
  ·obtain⟨d,f,e1,e2,e3,e4⟩:=Us k (t:=t) hN n (j+1) (by omega) (by omega) (a.set i x) (i+1) (by simpa using p) (by omega);refine⟨d,f,?_,e2,e3,by rw[e4,aV hx,wq (by omega),B' (by omega)];simp[e]⟩;rw[zaC e]at q;have u:i<N:=by omega
   have g:=Uj (l:=a) (i:=i) (by omega) (s:=x);have b:=NH (X:=X) (l:=a) (l':=a.set i x) (t:=t);have h:=(gh k (l:=a.set i x) (t:=t)).norm;generalize SA X d t=A at e1⊢;generalize SA X (a.set i x) t=C at b h e1;generalize SA X a t=y at hn hs r q b⊢;generalize tx (a.set i x)=B at g b;rw[g412L0e]at e1⊢;simp[h]at e1 g;simp(disch:=omega)[-getElem?_pos,-eT,g412B0,hj,hn,r,v,w,o,m,u,q,ah,g,b];rw[g412L0e];simp[h,e1]
theorem c421{SH:Sh}(hn:∀aL ts,bl aL ts SH=(SH,aL,ts))(hs:∀n,eP n SH=SH){b c:Nat}{t:List UInt8}{l:List (List UInt8)}(hS:Sm l)(e:SH[b]?=some (some (tx l)))(d:SH[c]?=some (some [.pv (.str t)]))(a:c<SH.length):
   (aC AP).i 421 [.bh b 1 l.length false,.fn 413 [.aI c 0]] SH []=some ([.pv (vI (lA (bA (fun x=>decide (x=t)) l)))],SH,[]):=by
 have h:=WO hn hs hS e d a _ 0 rfl (by omega);simp at h;rw[eU (af:=sP 1 false) rfl (by simp[sP])];cases hi:bA (fun x=>decide (x=t)) l with
 |none=>rw[hi]at h;simp at h;simp[sP,h,hn,lA]
 |some k=>rw[hi]at h;simp at h;simp[sP,h,hn,lA]
theorem G7{α:Type}{p:α->Bool}:∀{l:List α},bA p l=none->l.filter (fun x=>!p x)=l
 |[],_=>rfl
 |x::r,h=>by
  simp only[bA]at h;split at h
  ·simp at h
  ·rename_i e;cases h':bA p r with
   |none=>simp[e,G7 h']
   |some k=>rw[h']at h;simp at h
theorem G8{α:Type}{p:α->Bool}:∀{l:List α}{k:Nat},bA p l=some k->k<l.length∧l.filter (fun x=>!p x)=l.take k++(l.drop (k+1)).filter (fun x=>!p x)
 |[],_,h=>by simp[bA]at h
 |x::r,k,h=>by
  simp only[bA]at h;split at h
  ·rename_i e;simp at h;subst h;simp[e]
  ·rename_i e;cases h':bA p r with
   |none=>rw[h']at h;simp at h
   |some k'=>
    rw[h']at h;simp at h;subst h;obtain⟨h1,h2⟩:=G8 h';exact⟨by simpa using h1,by simp[e,h2]⟩
theorem NQ{a:List (List UInt8)}{i N:Nat}(hN:a.length=N)(h:i<=N):a0 (tx a) i ((List.replicate (N-i) [AV.pv (.str [])]).flatten)=tx (a.take i++List.replicate (N-i) []):=by
 have e:∀k,(List.replicate k [AV.pv (.str [])]).flatten=List.replicate k (AV.pv (.str [])):=by
  intro k;induction k with
  |zero=>rfl
  |succ k b=>simp only[zbn,zcN,b];rfl
 rw[e,aS,zaX (by rw[pa];simp;omega)];simp[tx,za9]
theorem c412{X:Sh}(q:aT X){t:List UInt8}{l:List (List UInt8)}(hS:Sm l):∃a:List (List UInt8),a.length=l.length∧a.take (l.filter fun x=>!decide (x=t)).length=l.filter (fun x=>!decide (x=t))∧
   (aC AP).i 412 [.bh X.length 1 l.length false,.fn 413 [.aI (X.length+1) 0]] (SA X l t) []=some ([.bh X.length 1 (l.filter fun x=>!decide (x=t)).length false],SA X a t,[]):=by
 have y:=hS;unfold Sm at y;have hn:=(gh q (l:=l) (t:=t)).norm;have hs:=(gh q (l:=l) (t:=t)).shift;have k:=c421 hn hs (b:=X.length) (c:=X.length+1) hS FZ NG (by rw[y5];omega);have d:=y5 (X:=X) (l:=l) (t:=t);cases hi:bA (fun x=>decide (x=t)) l with
 |none=>
  rw[hi]at k;have hf:=G7 hi;refine⟨l,rfl,by rw[hf];simp,?_⟩;rw[hf,aA g412];generalize SA X l t=SH at hn hs k d⊢;simp[lA]at k;have r:SH.take SH.length=SH:=zbe;simp[-getElem?_pos,g412,hn,hs,k,lA,d];rw[<-d,r];simp[hn]
 |some i0=>
  rw[hi]at k;obtain⟨h0,hf⟩:=G8 hi;obtain⟨g,e,e1,e2,e3,e4⟩:=Us q (t:=t) (N:=l.length) (by omega) _ (i0+1) rfl (by omega) l i0 rfl (by omega);rw[<-hf]at e4;have p:(l.filter fun x=>!decide (x=t)).length=e:=by rw[<-e4];simp;omega
  refine⟨g.take e++List.replicate (l.length-e) [],by simp;omega,?_,?_⟩
  ·rw[p,<-e4,zbA (by simp;omega),List.take_take];simp
  ·rw[p,aA g412];have v:=(gh q (l:=g) (t:=t)).norm;have j:=(gh q (l:=g.take e++List.replicate (l.length-e) []) (t:=t)).norm;have B:dE (tx g)=false:=d5 na;have z:=FZ (X:=X) (l:=g) (t:=t);have n:(tx g).length=l.length:=by rw[pa,e2]
   have h:=NQ e2 e3;have f:=NH (X:=X) (l:=g) (l':=g.take e++List.replicate (l.length-e) []) (t:=t);have m:=y5 (X:=X) (l:=g.take e++List.replicate (l.length-e) []) (t:=t);generalize SA X (g.take e++List.replicate (l.length-e) []) t=S2 at j f m⊢;generalize SA X g t=D at v z f e1;generalize SA X l t=SH at hn hs k d e1⊢;generalize tx (g.take e++List.replicate (l.length-e) [])=C at h f;have r:S2.take S2.length=S2:=zbe;rw[g412L0e]at e1;simp[hn]at e1;have o:¬((i0:Int)=-1):=(by omega);have w:e+(l.length-e)<=l.length:=(by omega);rcases Nat.eq_zero_or_pos e with A|A
   ·subst A;simp at h;simp(disch:=omega)[-getElem?_pos,g412,hn,hs,k,lA,o,ah,g412L0e,e1,lj,dY,z,B,n,h,f,d];rw[<-m,r];simp[j]
   ·have u:¬((e:Int)=0):=(by omega);have s:¬e=0:=(by omega);simp[e3]at h;simp(disch:=omega)[-getElem?_pos,g412,hn,hs,k,lA,o,ah,g412L0e,e1,lj,dY,u,s,e3,z,B,n,w,h,f,d];rw[<-m,r];simp[j]
def nM(l:List (List UInt8))(t:List UInt8):List (List UInt8):=(l.filter fun x=>!decide (x=t))++[t]
theorem c412e{SH:Sh}(hn:∀aL ts,bl aL ts SH=(SH,aL,ts))(hs:∀n,eP n SH=SH){c:Nat}:
   (aC AP).i 412 [.own [] 0,.fn 413 [.aI c 0]] SH [0]=some ([.own [] 0],SH,[0]):=by
 have k:(aC AP).i 421 [.pv (.aq []),.fn 413 [.aI c 0]] SH []=some ([.pv (vI (-1))],SH,[]):=by
  rw[eU (af:=sP 1 false) rfl (by simp[sP])];simp[sP,hn,pS,yY]
 rw[aA g412];have a:SH.take SH.length=SH:=zbe;simp[-getElem?_pos,g412,hn,hs,k,a]
def CP(X:Sh)(l:List (List UInt8)):AV:=if l=[]then .own [] 0 else .bh X.length 1 l.length false
def zN(X:Sh)(l:List (List UInt8)):Sh:=if l=[]then X else X++[some (tx l)]
def CQ(l:List (List UInt8)):aG:=if l=[]then[0]else[]
theorem NR{e:List AV}(E:∀v∈e,∃p,v=AV.pv p){i9 i22:Int}{p20:PV}{n21:Int}{V:List (List UInt8)}(hV:V.length<1000000):∀(n j:Nat),V.length-j=n->j<=V.length->∀(X:Sh)(l:List (List UInt8)),aT X->l.length+n<1000000000->∃X',aT X' ∧
   cl AP g404L1 ⟨[(2,.au 2 0),(7,CP X l),(9,.pv (vI i9)),(20,.pv p20),(21,.pv (vI n21)),(22,.pv (vI i22)),(28,.pv (.aq (V.map .str))),(29,.pv (vI V.length)),(30,.pv (vI j))],[(2,e)],zN X l,CQ l⟩=
     some (.exit 2,⟨[(2,.au 2 0),(7,CP X' ((V.drop j).foldl nM l)),(9,.pv (vI i9)),(20,.pv p20),(21,.pv (vI n21)),(22,.pv (vI i22)),(28,.pv (.aq (V.map .str))),(29,.pv (vI V.length)),(30,.pv (vI V.length)),(31,.pv (.bool false))],[(2,e)],zN X' ((V.drop j).foldl nM l),CQ ((V.drop j).foldl nM l)⟩)
 |0,j,Q,hj,X,l,i,hl=>by
  have:j=V.length:=by omega
  subst this;refine⟨X,i,?_⟩;rw[za1];simp only[List.foldl_nil];have hn:=i.norm;have b:∀aL ts,bf aL ts e=(e,aL,ts):=fun aL ts=>iy E
  by_cases h0:l=[]
  ·rw[g404L1e];simp[g404B1,CP,zN,CQ,h0,hn,b]
  ·have d:∀aL ts,bl aL ts (X++[some (tx l)])=(X++[some (tx l)],aL,ts):=(i.app (aT.one na)).norm;rw[g404L1e];simp only[CP,zN,CQ,zad h0];generalize X++[some (tx l)]=S1 at d;simp[g404B1,d,b]
 |n+1,j,Q,hj,X,l,i,hl=>by
  have hj:j<V.length:=(by omega);obtain⟨t,G⟩:=aP hj;have b:∀aL ts,bf aL ts e=(e,aL,ts):=fun aL ts=>iy E
  have hn:=i.norm;have hs:=i.shift;have q:(l.filter fun x=>!decide (x=t)).length<=l.length:=zcA _ _;have P:(nM l t).length<=l.length+1:=(by simp[nM,q]);rw[aV G,zaU];by_cases h0:l=[]
  ·subst h0;have h:aT (X++[some [.pv (.str t)]]):=i.app (aT.one (by intro v o;simp at o;exact⟨_,o⟩));have k:=c412e h.norm h.shift (c:=X.length);obtain⟨X',z,f⟩:=NR E (i9:=i9) (i22:=i22) (p20:=p20) (n21:=n21) hV n (j+1) (by omega) (by omega) (X++[some [.pv (.str t)]]) [t] h (by simp at hl⊢;omega);refine⟨X',z,?_⟩;have S:nM [] t=[t]:=by simp[nM]
   rw[S]
   have g:∀aL ts,bl aL ts (X++[some [.pv (.str t)],some [.pv (.str t)]])=(X++[some [.pv (.str t)],some [.pv (.str t)]],aL,ts):=by
    have:=(h.app (aT.one (cs:=[AV.pv (.str t)]) (by intro v o;simp at o;exact⟨_,o⟩))).norm;simpa using this
   have d:=h.norm;have H:=h.shift;generalize (V.drop (j+1)).foldl nM [t]=r at f⊢;rw[g404L1e]at f⊢;simp[CP,zN,CQ,b,tx,g]at f⊢;simp(disch:=omega)[-getElem?_pos,g404B1,G,hj,hn,d,H,b,k,ah];rw[g404L1e];simp[b,g,f]
  ·obtain⟨a,U,T,k⟩:=c412 i (t:=t) (l:=l) (by unfold Sm;omega);have D:aT (X++[none,some [.pv (.str t)]]):=i.app (by intro cs L v o;simp at L;subst L;simp at o;exact⟨_,o⟩);obtain⟨X',z,f⟩:=NR E (i9:=i9) (i22:=i22) (p20:=p20) (n21:=n21) hV n (j+1) (by omega) (by omega) (X++[none,some [.pv (.str t)]]) (nM l t) D (by omega);refine⟨X',z,?_⟩;have F:nM l t≠[]:=by simp[nM]
   have C:∀aL ts,bl aL ts (X++[some (tx l)])=(X++[some (tx l)],aL,ts):=(i.app (aT.one na)).norm;have d:=(gh i (l:=l) (t:=t)).norm;have g:=(gh i (l:=a) (t:=t)).norm;have s:=(gh i (l:=a) (t:=t)).shift
   have y:∀aL ts,bl aL ts (X++[none,some [.pv (.str t)],some (tx (nM l t))])=(X++[none,some [.pv (.str t)],some (tx (nM l t))],aL,ts):=by
    have:=(D.app (aT.one (cs:=tx (nM l t)) na)).norm;simpa using this
   have M:dE (tx a)=false:=d5 na;have B:(tx a).length=l.length:=(by rw[pa,U]);have A:(nM l t).length=(l.filter fun x=>!decide (x=t)).length+1:=by simp[nM]
   have m:tx (nM l t)=(tx a).take (l.filter fun x=>!decide (x=t)).length++[.pv (.str t)]:=by
    have:(tx a).take (l.filter fun x=>!decide (x=t)).length=tx (l.filter fun x=>!decide (x=t)):=by
     conv=>rhs;rw[<-T]
     simp[tx,za9]
    rw[this];simp[tx,nM]
   have R:∀u v:Option (List AV),(X++[u,v])[X.length]?=some u:=fun u v=>by simp
   have g1:∀u v:Option (List AV),(X++[u,v])[X.length+1]?=some v:=fun u v=>by simp
   have O:∀u v w:Option (List AV),(X++[u,v]).set X.length w=X++[w,v]:=fun u v w=>by simp
   have N:∀u v w:Option (List AV),(X++[u,v]).set (X.length+1) w=X++[u,w]:=fun u v w=>by simp
   unfold SA at k d g s;simp only[CP,zN,CQ,zad h0,zad F]at f⊢;generalize (V.drop (j+1)).foldl nM (nM l t)=r at f⊢;rw[A]at f;generalize (l.filter fun x=>!decide (x=t)).length=K at k m f q;have J:(K+1)*16<=140737488355328:=by omega
   have I:K<=l.length:=q;generalize tx (nM l t)=Y at m y f;generalize tx a=TA at k g s M B m;generalize tx l=TL at k C d⊢;generalize (if r=[]then AV.own [] 0 else AV.bh X'.length 1 r.length false)=W at f⊢;generalize (if r=[]then X' else X'++[some (tx r)])=SR at f⊢;generalize (if r=[]then([0]:aG)else[])=Z at f⊢;rw[g404L1e]at f⊢;simp[b,y]at f;simp(disch:=omega)[-getElem?_pos,g404B1,G,hj,C,d,g,s,b,k,ah,M,B,J,I,R,g1,O,N,<-m];rw[g404L1e];simp[b,y,f]
theorem WZ{s:List bD}(hS:Sm s){y:bD}:∀(n i:Nat),s.length-i=n->i<=s.length->
   cl AP g364L0 ⟨[(0,.pv (.aq (s.map .str))),(1,.pv (.str y)),(5,.pv (vI i))],[],[],[]⟩=
     if y∈s.drop i then some (.ret,⟨[(4,.pv (.bool true))],[],[],[]⟩)
     else some (.exit 0,⟨[(0,.pv (.aq (s.map .str))),(1,.pv (.str y)),(5,.pv (vI s.length)),(9,.pv (.bool false))],[],[],[]⟩)
 |0,i,hn,hi=>by
  have:i=s.length:=by omega
  subst this;rw[g364L0e];simp[g364B0]
 |n+1,i,hn,hi=>by
  have hi:i<s.length:=(by omega);obtain⟨x,hx⟩:=aP hi;unfold Sm at hS;have a:=WZ hS (y:=y) n (i+1) (by omega) (by omega);simp at a;rw[g364L0e,aV hx];by_cases e:x=y
  ·subst e;simp(disch:=omega)[-getElem?_pos,g364B0,hx,hi]
  ·have b:¬y=x:=fun h=>e h.symm;simp(disch:=omega)[-getElem?_pos,g364B0,hx,hi,e,b,ah,a]
theorem c364{s:List bD}(hS:Sm s){y:bD}:(aC AP).p 364 [.aq (s.map .str),.str y]=some [.bool (decide (y∈s))]:=by
 have h:=WZ hS (y:=y) _ 0 rfl (by omega);simp at h;rw[az g364];by_cases e:y∈s<;>simp[e]at h<;>simp[g364,h,e]
noncomputable def gj:List bD->List bD
 |[]=>[]
 |x::r=>if x∈r then gj r else x::gj r
inductive Ex.One:Ex->Prop
 |mk {e:Ex}:(e.kind=8->e.kids.length=1)->(∀x∈e.ch,x.One)->e.One
theorem Ex.One.h{e:Ex}(h:e.One):e.kind=8->e.kids.length=1:=by cases h;assumption
theorem Ex.One.c{e:Ex}(h:e.One):∀x∈e.ch,x.One:=by cases h;assumption
def Ex.B9:Ex->List Int->List bD
 |_,[]=>[]
 |e,i::r=>cd e i.toNat++match e.ch[i.toNat]? with|some x=>x.B9 r|none=>[]
theorem ki{e:Ex}{i:Nat}(h:e.Ok):(cd e i).length<=1000:=by
 unfold cd;split
 ·simp
 ·split
  ·cases hx:e.aF[i-1]? with
   |none=>simp
   |some a=>exact h.v a (aN hx)
  ·simp
theorem QB{e:Ex}{k:Int}{r:List Int}{y:Ex}(h:e.at (k::r)=some y):∃(m:Nat)(x:Ex),k=m∧m<e.ch.length∧e.ch[m]?=some x∧x.at r=some y:=by
 simp only[Ex.at]at h;split at h
 ·rename_i h1;obtain⟨m,rfl,hm⟩:=uT h1.1 h1.2;obtain⟨x,hx⟩:=aP hm;simp[hx]at h;exact⟨m,x,rfl,hm,hx,h⟩
 ·cases h
noncomputable def QC(e:Ex)(p:List Int):List bD:=match e.at p with|some _=>gj (e.B9 p)|none=>[]
theorem RO{p:List Int}(hp:p.length<100000){y:Ex}:∀(n i:Nat),p.length-i=n->i<=p.length->∀(e:Ex)(X:Sh)(l:List bD),e.Ok->e.One->aT X->e.at (p.drop i)=some y->l.length<=i*1000->∃(s:Sh)(q:List AV),aT s ∧
   cl AP g404L0 ⟨[(2,.au 2 0),(7,CP X l),(20,.pv (.aq (p.map vI))),(21,.pv (vI p.length)),(22,.pv (vI i))],[(2,e.cl)],zN X l,CQ l⟩=
     some (.exit 0,⟨[(2,.au 2 0),(7,CP s ((e.B9 (p.drop i)).foldl nM l)),(20,.pv (.aq (p.map vI))),(21,.pv (vI p.length)),(22,.pv (vI p.length)),(23,.pv (.bool false))],[(2,q)],zN s ((e.B9 (p.drop i)).foldl nM l),CQ ((e.B9 (p.drop i)).foldl nM l)⟩)
 |0,i,hn,hi,e,X,l,w,h1,f,I,hl=>by
  have:i=p.length:=by omega
  subst this;refine⟨X,e.cl,f,?_⟩;have F:=f.norm;have d:∀aL ts,bl aL ts (X++[some (tx l)])=(X++[some (tx l)],aL,ts):=(f.app (aT.one na)).norm;rw[g404L0e];by_cases h0:l=[]
  ·subst h0;simp[g404B0,Ex.B9,CP,zN,CQ,F]
  ·simp only[za1,Ex.B9,List.foldl_nil,CP,zN,CQ,zad h0];generalize X++[some (tx l)]=R at*;simp[g404B0,d]
 |n+1,i,hn,hi,e,X,l,w,h1,f,I,hl=>by
  have hi:i<p.length:=(by omega);obtain⟨k,P⟩:=aP hi;rw[aV P]at I⊢;obtain⟨m,x,rfl,hm,hx,hy⟩:=QB I;have Q:=ki w (i:=m);have H:∀v∈e.cl,∃p,v=AV.pv p:=by intro v O;simp at O;rcases O with rfl|rfl|rfl|rfl|rfl|rfl|rfl|rfl|rfl|rfl|rfl<;>exact⟨_,rfl⟩
  obtain⟨K,A,e1⟩:=NR H (i9:=m) (i22:=i) (p20:=.aq (p.map vI)) (n21:=p.length) (V:=cd e m) (by omega) _ 0 rfl (by omega) X l f (by omega)
  have E:∀(V l:List bD),(V.foldl nM l).length<=l.length+V.length:=by
   intro V;induction V with
   |nil=>intro l;simp
   |cons t r j=>
    intro l;have:=j (nM l t);have hf:(l.filter fun x=>!decide (x=t)).length<=l.length:=zcA _ _;have:(nM l t).length<=l.length+1:=by simp[nM,hf]
    simp only[zaU,zax];omega
  have G:=E (cd e m) l;obtain⟨s,q,J,j⟩:=RO hp n (i+1) (by omega) (by omega) x K ((cd e m).foldl nM l) (w.c x (aN hx)) (h1.c x (aN hx)) A hy (by omega);refine⟨s,q,J,?_⟩;have c:=c414 w;have c2:=c411 hm h1.h w;simp only[Ex.B9,zck,hx,zcj];rw[zar]at e1;generalize U:(x.B9 (p.drop (i+1))).foldl nM ((cd e m).foldl nM l)=r at j⊢;generalize (cd e m).foldl nM l=D at e1 j G
  have u:∀{X:Sh}{l:List bD},aT X->∀aL ts,bl aL ts (zN X l)=(zN X l,aL,ts):=by
   intro X l f aL ts;unfold zN;by_cases h0:l=[]
   ·rw[zak h0];exact f.norm aL ts
   ·rw[zad h0];exact(f.app (aT.one na)).norm aL ts
  have d:=u f (l:=l);have o:=u A (l:=D)
  have a:∀(X:Sh)(l:List bD),(CP X l=.own [] 0∧CQ l=[0])∨(∃b z k g,CP X l=.bh b z k g∧CQ l=[]):=by
   intro X l;unfold CP CQ;by_cases h0:l=[]
   ·left;simp[h0]
   ·right;exact⟨X.length,1,l.length,false,by simp[h0],by simp[h0]⟩
  rw[g404L0e]at j⊢;rw[g404L1e]at e1;generalize e.ch=C at*;generalize cd e m=B at*;simp at c c2
  rcases a X l with⟨M,t1⟩|⟨b1,z1,T,f1,M,t1⟩<;>rcases a K D with⟨L,N⟩|⟨W,z2,S,f2,L,N⟩<;>simp only[M,t1,L,N]at e1 j⊢<;>generalize zN X l=S0 at*<;> generalize zN K D=R at*<;> generalize zN s r=Z at*<;> generalize CP s r=V2 at*<;> generalize CQ r=Y at*<;>
    simp[d,o]at e1 j⊢ <;>
    simp (disch:=omega) [-getElem?_pos,g404B0,P,hi,ah,c,c2,hx,hm,d,o,g404L1e,e1]<;>rw[g404L0e]<;>simp[o,j]
theorem mj(t:bD):∀l:List bD,gj (l++[t])=(gj l).filter (fun x=>!decide (x=t))++[t]
 |[]=>by simp[gj]
 |x::r=>by
  simp only[za5,gj,zai,zaJ];by_cases e:x∈r
  ·simp[e,mj t r]
  ·by_cases e2:x=t
   ·subst e2;simp[e,mj x r]
   ·simp[e,e2,mj t r]
theorem KL(l:List bD):l.foldl nM []=gj l:=by
 have:∀k,∀l:List bD,l.length=k->l.foldl nM []=gj l:=by
  intro k;induction k with
  |zero=>intro l h;have:=za6.1 h;subst this;simp[gj]
  |succ k b=>
   intro l h;have a:l≠[]:=by intro e;subst e;simp at h
   obtain⟨r,t,rfl⟩:∃r t,l=r++[t]:=⟨l.dropLast,l.getLast a,(List.dropLast_concat_getLast a).symm⟩;rw[zcj,b r (by simpa using h),mj];rfl
 exact this _ l rfl
theorem NT:∀r:List bD,eY (tx r)=some (r.map .str)
 |[]=>rfl
 |t::r=>by
  have a:=NT r;unfold tx at a⊢;simp only[zao,eY,i5,a]
theorem c404{e:Ex}(f:e.Ok)(h1:e.One){p:List Int}(hp:p.length<100000):(aC AP).p 404 [e.pv,.aq (p.map vI)]=some [.aq ((QC e p).map .str)]:=by
 have c:=c410 f (p:=p) (by unfold Sm;omega);rw[az g404];unfold QC;cases hx:e.at p with
 |none=>
  rw[hx]at c;simp[atR,Yt,ca]at c;simp[g404,c]
 |some y=>
  rw[hx]at c;simp[atR]at c;obtain⟨X',q,b,h⟩:=RO hp _ 0 rfl (by omega) e [] [] f h1 (by intro cs h;simp at h) hx (by simp);rw[zar,KL]at h;generalize gj (e.B9 p)=r at*;have hn:=b.norm;have g:∀aL ts,bl aL ts (X'++[some (tx r)])=(X'++[some (tx r)],aL,ts):=(b.app (aT.one na)).norm;have d:=NT r;have a:=pa (l:=r);rw[g404L0e]at h;by_cases h0:r=[]
  ·subst h0;simp[CP,zN,CQ]at h;simp[g404,c,g404L0e,h]
  ·simp[CP,zN,CQ,h0]at h;generalize tx r=T at*;simp[g404,c,g404L0e,h,d,a,gG]
def F5(cs:List jI)(s:bD):Option Nat:=bA (fun c=>decide (c.name=s)) cs
def gA:List Dt->bD->Nat->Option (Nat×Nat)
 |[],_,_=>none
 |d::r,s,i=>match F5 d.cons s with
  |some k=>some (i,k)
  |none=>gA r s (i+1)
def rF:Option (Nat×Nat)->List PV
 |some (i,k)=>[vI i,vI k,.bool true]
 |none=>[vI 0,vI 0,.bool false]
theorem RP{ds:List Dt}{s:bD}{i:Nat}{cs:List jI}(hS:Sm cs):∀(n k:Nat),cs.length-k=n->k<=cs.length->
   cl AP g190L1 ⟨[(1,.pv (.str s)),(7,.pv (vI i)),(11,.pv (.aq (ds.map Dt.pv))),(12,.pv (vI ds.length)),(13,.pv (vI i)),(19,.pv (.aq (cs.map jI.pv))),(20,.pv (vI cs.length)),(21,.pv (vI k))],[],[],[]⟩=
     match bA (fun c=>decide (c.name=s)) (cs.drop k)with
     |some j=>some (.ret,⟨[(4,.pv (vI i)),(5,.pv (vI (k+j:Nat))),(6,.pv (.bool true))],[],[],[]⟩)
     |none=>some (.exit 2,⟨[(1,.pv (.str s)),(7,.pv (vI i)),(11,.pv (.aq (ds.map Dt.pv))),(12,.pv (vI ds.length)),(13,.pv (vI i)),(19,.pv (.aq (cs.map jI.pv))),(20,.pv (vI cs.length)),(21,.pv (vI cs.length)),(22,.pv (.bool false))],[],[],[]⟩)
 |0,k,hn,a=>by
  have:k=cs.length:=by omega
  subst this;rw[g190L1e];simp[g190B1,bA]
 |n+1,k,hn,a=>by
  have a:k<cs.length:=(by omega);obtain⟨x,hx⟩:=aP a;unfold Sm at hS;have b:=RP (ds:=ds) (s:=s) (i:=i) hS n (k+1) (by omega) (by omega);rw[g190L1e]at b⊢;rw[aV hx];simp at b;by_cases e:x.name=s
  ·simp(disch:=omega)[-getElem?_pos,g190B1,hx,a,e,bA]
  ·simp(disch:=omega)[-getElem?_pos,g190B1,hx,a,e,bA,ah];rw[g190L1e];simp[b];cases bA (fun c=>decide (c.name=s)) (cs.drop (k+1))with
   |none=>rfl
   |some j=>simp;omega
theorem W0{ds:List Dt}(hS:Sm ds)(b:∀d∈ds,Sm d.cons)(s:bD):∀(n i:Nat),ds.length-i=n->i<=ds.length->
   cl AP g190L0 ⟨[(1,.pv (.str s)),(11,.pv (.aq (ds.map Dt.pv))),(12,.pv (vI ds.length)),(13,.pv (vI i))],[],[],[]⟩=
     match gA (ds.drop i) s i with
     |some q=>some (.ret,⟨[(4,.pv (vI q.1)),(5,.pv (vI q.2)),(6,.pv (.bool true))],[],[],[]⟩)
     |none=>some (.exit 0,⟨[(1,.pv (.str s)),(11,.pv (.aq (ds.map Dt.pv))),(12,.pv (vI ds.length)),(13,.pv (vI ds.length)),(14,.pv (.bool false))],[],[],[]⟩)
 |0,i,hn,hi=>by
  have:i=ds.length:=by omega
  subst this;rw[g190L0e];simp[g190B0,gA]
 |n+1,i,hn,hi=>by
  have hi:i<ds.length:=(by omega);obtain⟨d,hd⟩:=aP hi;unfold Sm at hS;have a:=W0 hS b s n (i+1) (by omega) (by omega);have h:=RP (ds:=ds) (s:=s) (i:=i) (b d (aN hd)) _ 0 rfl (by omega);rw[g190L1e]at h;rw[g190L0e]at a⊢;rw[aV hd];simp at a h;cases e:bA (fun c=>decide (c.name=s)) d.cons with
  |some k=>
   rw[e]at h;simp at h;simp(disch:=omega)[-getElem?_pos,g190B0,hd,hi,gA,F5,e,g190L1e,h]
  |none=>
   rw[e]at h;simp at h;simp(disch:=omega)[-getElem?_pos,g190B0,hd,hi,gA,F5,e,g190L1e,h,ah];rw[g190L0e];simp[a]
theorem c190{ds:List Dt}(hS:Sm ds)(a:∀d∈ds,Sm d.cons){s:bD}:(aC AP).p 190 [.aq (ds.map Dt.pv),.str s]=some (rF (gA ds s 0)):=by
 have h:=W0 hS a s _ 0 rfl (by omega);rw[az g190];rw[g190L0e]at h;simp at h;cases e:gA ds s 0 with
 |none=>rw[e]at h;simp at h;simp[g190,g190L0e,h,rF]
 |some q=>rw[e]at h;simp at h;simp[g190,g190L0e,h,rF]
theorem RQ{ds:List Dt}{s:bD}{i:Nat}{d:Dt}(hd:ds[i]?=some d)(hS:Sm d.cons):∀(n k:Nat),d.cons.length-k=n->k<=d.cons.length->
   cl AP g191L1 ⟨[(0,.pv (.aq (ds.map Dt.pv))),(1,.pv (.str s)),(7,.pv (vI i)),(8,.pv (vI k))],[],[],[]⟩=
     match bA (fun c=>decide (c.name=s)) (d.cons.drop k)with
     |some j=>some (.ret,⟨[(4,.pv (vI i)),(5,.pv (vI (k+j:Nat))),(6,.pv (.bool true))],[],[],[]⟩)
     |none=>some (.exit 2,⟨[(0,.pv (.aq (ds.map Dt.pv))),(1,.pv (.str s)),(7,.pv (vI i)),(8,.pv (vI d.cons.length)),(22,.pv (.bool false))],[],[],[]⟩)
 |0,k,hn,a=>by
  have:k=d.cons.length:=by omega
  subst this;rw[g191L1e];simp[-getElem?_pos,g191B1,bA,hd]
 |n+1,k,hn,a=>by
  have a:k<d.cons.length:=(by omega);obtain⟨x,hx⟩:=aP a;unfold Sm at hS;have b:=RQ (s:=s) hd hS n (k+1) (by omega) (by omega);rw[g191L1e]at b⊢;rw[aV hx];simp at b;by_cases e:x.name=s
  ·simp(disch:=omega)[-getElem?_pos,g191B1,hd,hx,a,e,bA]
  ·simp(disch:=omega)[-getElem?_pos,g191B1,hd,hx,a,e,bA,ah];rw[g191L1e];simp[b];cases bA (fun c=>decide (c.name=s)) (d.cons.drop (k+1))with
   |none=>rfl
   |some j=>simp;omega
theorem W6{ds:List Dt}(hS:Sm ds)(b:∀d∈ds,Sm d.cons)(s:bD):∀(n i:Nat),ds.length-i=n->i<=ds.length->
   cl AP g191L0 ⟨[(0,.pv (.aq (ds.map Dt.pv))),(1,.pv (.str s)),(7,.pv (vI i))],[],[],[]⟩=
     match gA (ds.drop i) s i with
     |some q=>some (.ret,⟨[(4,.pv (vI q.1)),(5,.pv (vI q.2)),(6,.pv (.bool true))],[],[],[]⟩)
     |none=>some (.exit 0,⟨[(0,.pv (.aq (ds.map Dt.pv))),(1,.pv (.str s)),(7,.pv (vI ds.length)),(12,.pv (.bool false))],[],[],[]⟩)
 |0,i,hn,hi=>by
  have:i=ds.length:=by omega
  subst this;rw[g191L0e];simp[g191B0,gA]
 |n+1,i,hn,hi=>by
  have hi:i<ds.length:=(by omega);obtain⟨d,hd⟩:=aP hi;unfold Sm at hS;have a:=W6 hS b s n (i+1) (by omega) (by omega);have h:=RQ (s:=s) hd (b d (aN hd)) _ 0 rfl (by omega);rw[g191L1e]at h;rw[g191L0e]at a⊢;rw[aV hd];simp at a h;cases e:bA (fun c=>decide (c.name=s)) d.cons with
  |some k=>
   rw[e]at h;simp at h;simp(disch:=omega)[-getElem?_pos,g191B0,hd,hi,gA,F5,e,g191L1e,h]
  |none=>
   rw[e]at h;simp at h;simp(disch:=omega)[-getElem?_pos,g191B0,hd,hi,gA,F5,e,g191L1e,h,ah];rw[g191L0e];simp[a]
theorem c191{ds:List Dt}(hS:Sm ds)(a:∀d∈ds,Sm d.cons){s:bD}:(aC AP).p 191 [.aq (ds.map Dt.pv),.str s]=some (rF (gA ds s 0)):=by
 have h:=W6 hS a s _ 0 rfl (by omega);rw[az g191];rw[g191L0e]at h;simp at h;cases e:gA ds s 0 with
 |none=>rw[e]at h;simp at h;simp[g191,g191L0e,h,rF]
 |some q=>rw[e]at h;simp at h;simp[g191,g191L0e,h,rF]
theorem QD{cs:List jI}{s:bD}{k:Nat}(h:F5 cs s=some k):∃c,cs[k]?=some c∧c.name=s:=by
 unfold F5 at h;induction cs generalizing k with
 |nil=>simp[bA]at h
 |cons a r b=>
  simp only[bA]at h;split at h
  ·rename_i e;cases h;exact⟨a,rfl,by simpa using e⟩
  ·simp only[zac]at h;obtain⟨j,hj,rfl⟩:=h;obtain⟨c,h1,h2⟩:=b hj;exact⟨c,by simpa using h1,h2⟩
theorem kQ{s:bD}:∀{ds:List Dt}{n:Nat}{q:Nat×Nat},gA ds s n=some q->n<=q.1∧∃d c,ds[q.1-n]?=some d∧d.cons[q.2]?=some c∧c.name=s
 |[],n,q,h=>by simp[gA]at h
 |d::r,n,q,h=>by
  simp only[gA]at h;split at h
  ·rename_i k e;cases h;obtain⟨c,h1,h2⟩:=QD e;exact⟨zaj _,d,c,by simp,h1,h2⟩
  ·obtain⟨h1,a,c,h2,h3,h4⟩:=kQ h;refine⟨by omega,a,c,?_,h3,h4⟩;rw[show q.1-n=(q.1-(n+1))+1 from by omega];simpa using h2
def ib(d:Dt)(as:List Ar):Bool:=decide (d.cons.map jI.name=as.map da.dK)
def eL(ds:List Dt)(as:List Ar):Option Nat:=bA (fun d=>ib d as) ds
def gS:Option Nat->List PV
 |some i=>[vI i,.bool true]
 |none=>[vI 0,.bool false]
theorem QE:Vj jI.pv (fun c:jI=>[vI c.pos,.str c.name,.aq (c.fields.map Ty.pv)]) 3:=⟨fun _=>rfl,fun _=>rfl,fun _=>by simp⟩
theorem Ut:Vj Ar.pv Ar.cells 14:=⟨fun _=>rfl,fun x=>vk.len x,fun x=>by simp[Ar.cells,Ex.aE]⟩
theorem vm:∀{cs:List jI}{as:List Ar},mH (fun(c:jI)(a:Ar)=>decide (c.name=a.dK)) cs as=decide (cs.map jI.name=as.map da.dK)
 |[],[]=>by simp[mH]
 |c::cs,a::as=>by simp only[mH,vm (cs:=cs) (as:=as),zao,zbm,Bool.decide_and]
 |[],_::_=>by simp[mH]
 |_::_,[]=>by simp[mH]
theorem Uu{sh:Sh}(b:aT sh){cs:List jI}:Nr (.fn 419 []) sh (fun c:jI=>[vI c.pos,.str c.name,.aq (c.fields.map Ty.pv)]) Ar.cells (fun(c:jI)(a:Ar)=>decide (c.name=a.dK)) cs:=by
 intro x _ y
 have c:(aC AP).i 419 [.pv x.pv,.pv (Ar.pv y)] sh []=some ([.pv (.bool (decide (x.name=y.dK)))],sh,[]):=by
  rw[aA g419];by_cases e:x.name=y.dK<;>simp[g419,b.norm,e]
 simp at c;simp[Ar.cells,Ex.aE,b.norm,b.shift,c]
theorem c418{sh:Sh}(a:aT sh){cs:List jI}(hS:Sm cs){as:List Ar}:(aC AP).i 418 [.pv (.aq (cs.map jI.pv)),.pv (.aq (as.map Ar.pv)),.fn 419 []] sh []=some ([.pv (.bool (decide (cs.map jI.name=as.map da.dK)))],sh,[]):=by
 rw[<-vm];exact ZX QE Ut (z1:=[vI 0,.str [],.aq []]) (z2:=[vI 0,.str [],.aq [],vI 0,vI 0,.str [],vI 0,.aq [],.aq [],vI 0,.str [],vI 0,vI 0,.aq []]) rfl rfl (m:=418) rfl hS a rfl (Uu a)
theorem Uv{sh:Sh}(a:aT sh){as:List Ar}{b:Nat}(f:sh[b]?=some (some [.pv (.aq (as.map Ar.pv))])){ds:List Dt}(e:∀d∈ds,Sm d.cons):FU (.fn 417 [.aI b 0]) sh Dt.pv (fun d=>ib d as) ds:=by
 intro d hd;have k:=c418 a (e d hd) (as:=as)
 have c:(aC AP).i 417 [.pv d.pv,.aI b 0] sh []=some ([.pv (.bool (ib d as))],sh,[]):=by
  rw[aA g417];simp[-getElem?_pos,g417,a.norm,a.shift,f,k,ib]
 simp at c;simp[a.norm,a.shift,c]
theorem c407{ds:List Dt}(hS:Sm ds)(f:∀d∈ds,Sm d.cons){as:List Ar}:(aC AP).p 407 [.aq (ds.map Dt.pv),.aq (as.map Ar.pv)]=some (gS (eL ds as)):=by
 have c:aT [some [AV.pv (.aq (as.map Ar.pv))]]:=aT.one (by intro v a;simp at a;exact⟨_,a⟩);have k:=Wp Wn (k:=416) rfl hS c (g:=417) (cap:=[.aI 0 0]) rfl (Uv c (b:=0) rfl f);rw[az g407];unfold eL;cases e:bA (fun d=>ib d as) ds with
 |none=>rw[e]at k;simp[lA]at k;simp[g407,k,gS]
 |some i=>rw[e]at k;simp[lA]at k;simp[g407,k,gS]
abbrev Ca:=Int×Int
def fP(f:Ca):PV:=.agg [vI f.1,vI f.2]
@[simp] theorem M0(f:Ca):fP f=.agg [vI f.1,vI f.2]:=rfl
theorem c365{a b:Int}:(aC AP).p 365 [vI a,vI b]=some [fP (a,b)]:=by
 rw[az g365];simp[g365]
def findF(ds:List Dt):List Ar->Option Ca
 |[]=>none
 |a::r=>match gA ds a.dK 0 with
  |none=>some (9,a.pos)
  |some _=>findF ds r
noncomputable def vp:List bD->List bD->Bool
 |_,[]=>false
 |p,x::r=>decide (x∈p)|| vp (p++[x]) r
noncomputable def K_:List jI->List Ar->Ca
 |c::cs,a::as=>if a.vars.length≠c.fields.length then(8,a.pos)else if vp [] a.vars=true then(6,a.pos)else K_ cs as
 |_,_=>(0,0)
noncomputable def sn(ds:List Dt)(e:Ex):Ca:=match findF ds e.aF with
 |some f=>f
 |none=>match eL ds e.aF with
  |none=>(10,e.pos)
  |some i=>match ds[i]? with
   |some d=>K_ d.cons e.aF
   |none=>(0,0)
theorem RS{ds:List Dt}{i:Nat}{d:Dt}(hd:ds[i]?=some d){as:List Ar}(hS:Sm as):∀(n k:Nat),as.length-k=n->k<=as.length->∀s:Bool,(s=true->as.length=d.cons.length)->∃j:Int,
   cl AP g390L1 ⟨[(0,.pv (.aq (ds.map Dt.pv))),(1,.pv (.aq (as.map Ar.pv))),(6,.pv (vI i)),(7,.pv (.bool s)),(8,.pv (vI k))],[],[],[]⟩=
     some (.exit 2,⟨[(0,.pv (.aq (ds.map Dt.pv))),(1,.pv (.aq (as.map Ar.pv))),(6,.pv (vI i)),(7,.pv (.bool (s && decide ((d.cons.drop k).map jI.name=(as.drop k).map da.dK)))),(8,.pv (vI j)),(30,.pv (.bool false))],[],[],[]⟩)
 |0,k,hn,f,s,hs=>by
  have:k=as.length:=by omega
  subst this;refine⟨as.length,?_⟩;rw[g390L1e];cases s with
  |false=>simp[g390B1]
  |true=>simp[g390B1,hs rfl]
 |n+1,k,hn,f,s,hs=>by
  have f:k<as.length:=(by omega);unfold Sm at hS;have h:=(zaa.1 hd).1;cases s with
  |false=>
   refine⟨k,?_⟩;rw[g390L1e];simp[g390B1]
  |true=>
   have hl:=hs rfl;obtain⟨a,m⟩:=aP f;obtain⟨c,l⟩:=aP (hl ▸ f);have g:k<d.cons.length:=(by omega);obtain⟨j,b⟩:=RS hd hS n (k+1) (by omega) (by omega) (decide (a.dK=c.name)) (fun _=>hl);refine⟨j,?_⟩;rw[aV m,aV l]
   have key:(true && decide ((c::d.cons.drop (k+1)).map jI.name=(a::as.drop (k+1)).map da.dK))=(decide (a.dK=c.name) && decide ((d.cons.drop (k+1)).map jI.name=(as.drop (k+1)).map da.dK)):=by
    rw[zaN];simp[eq_comm (a:=c.name)]
   rw[key];generalize (decide (a.dK=c.name) && decide ((d.cons.drop (k+1)).map jI.name=(as.drop (k+1)).map da.dK))=r at b⊢;rw[g390L1e]at b⊢;simp at b;by_cases e:a.dK=c.name
   ·simp[e]at b;simp(disch:=omega)[-getElem?_pos,g390B1,f,g,h,m,l,hd,ah,e];rw[g390L1e];simp[b]
   ·simp[e]at b;have o:(a.dK == c.name)=false:=by simpa using e
    simp (disch:=omega) [-getElem?_pos,g390B1,f,g,h,m,l,hd,ah,o];rw[g390L1e];simp[b]
theorem W7{ds:List Dt}(hS:Sm ds){as:List Ar}(c:Sm as):∀(n i:Nat),ds.length-i=n->i<=ds.length->
   cl AP g390L0 ⟨[(0,.pv (.aq (ds.map Dt.pv))),(1,.pv (.aq (as.map Ar.pv))),(6,.pv (vI i))],[],[],[]⟩=
     match bA (fun d=>ib d as) (ds.drop i)with
     |some k=>some (.ret,⟨[(4,.pv (vI (i+k:Nat))),(5,.pv (.bool true))],[],[],[]⟩)
     |none=>some (.exit 0,⟨[(0,.pv (.aq (ds.map Dt.pv))),(1,.pv (.aq (as.map Ar.pv))),(6,.pv (vI ds.length)),(12,.pv (.bool false))],[],[],[]⟩)
 |0,i,hn,hi=>by
  have:i=ds.length:=by omega
  subst this;rw[g390L0e];simp[g390B0,bA]
 |n+1,i,hn,hi=>by
  have hi:i<ds.length:=(by omega);obtain⟨d,hd⟩:=aP hi;have a:=W7 hS c n (i+1) (by omega) (by omega);obtain⟨j,h⟩:=RS hd c _ 0 rfl (by omega) (decide (as.length=d.cons.length)) (by simp);unfold Sm at hS
  have key:(decide (as.length=d.cons.length) && decide (d.cons.map jI.name=as.map da.dK))=ib d as:=by
   unfold ib;by_cases e:d.cons.map jI.name=as.map da.dK
   ·have:=zcn List.length e;simp at this;simp[e,this]
   ·simp[e]
  rw[zar,zar,key]at h;rw[g390L1e]at h;rw[g390L0e]at a⊢;rw[aV hd];simp only[bA];simp at a;by_cases e:ib d as=true
  ·rw[zak e];rw[e]at h;have hl:as.length=d.cons.length:=by simp[ib]at e;simpa using(zcn List.length e).symm
   simp[hl]at h;simp(disch:=omega)[-getElem?_pos,g390B0,hi,hd,hl,g390L1e,h]
  ·rw[zad e];have e:ib d as=false:=by simpa using e
   rw[e]at h;by_cases hl:as.length=d.cons.length
   ·simp[hl]at h;simp(disch:=omega)[-getElem?_pos,g390B0,hi,hd,hl,g390L1e,h,ah];rw[g390L0e];simp[a];cases bA (fun d=>ib d as) (ds.drop (i+1))with
    |none=>rfl
    |some k=>simp;omega
   ·have b:((as.length:Int)== (d.cons.length:Int))=false:=(by rw[beq_eq_false_iff_ne];omega);simp[hl]at h;simp(disch:=omega)[-getElem?_pos,g390B0,hi,hd,b,g390L1e,h,ah];rw[g390L0e];simp[a];cases bA (fun d=>ib d as) (ds.drop (i+1))with
    |none=>rfl
    |some k=>simp;omega
theorem c390{ds:List Dt}(hS:Sm ds){as:List Ar}(a:Sm as):(aC AP).p 390 [.aq (ds.map Dt.pv),.aq (as.map Ar.pv)]=some (gS (eL ds as)):=by
 have h:=W7 hS a _ 0 rfl (by omega);simp at h;rw[az g390];unfold eL;cases e:bA (fun d=>ib d as) ds with
 |none=>rw[e]at h;simp at h;simp[g390,h,gS]
 |some i=>rw[e]at h;simp at h;simp[g390,h,gS]
abbrev m2(f:Ca):List AV:=[.pv (vI f.1),.pv (vI f.2)]
theorem RU{ds:List Dt}(hS:Sm ds)(j:∀d∈ds,Sm d.cons){e:Ex}(l:e.aF.length<=1000):∀(n i:Nat),e.aF.length-i=n->i<=e.aF.length->
   cl AP g379L0 ⟨[(0,.pv (.aq (ds.map Dt.pv))),(3,.au 3 0),(4,.au 4 0),(5,.pv (vI i))],[(3,e.cl),(4,m2 (0,0))],[],[]⟩=
     match findF ds (e.aF.drop i)with
     |some f=>some (.ret,⟨[(4,.au 4 0)],[(4,m2 f)],[],[]⟩)
     |none=>some (.exit 0,⟨[(0,.pv (.aq (ds.map Dt.pv))),(3,.au 3 0),(4,.au 4 0),(5,.pv (vI e.aF.length)),(18,.pv (.bool false))],[(3,e.cl),(4,m2 (0,0))],[],[]⟩)
 |0,i,hn,hi=>by
  have:i=e.aF.length:=by omega
  subst this;rw[g379L0e];simp[g379B0,findF]
 |n+1,i,hn,hi=>by
  have hi:i<e.aF.length:=(by omega);obtain⟨a,g⟩:=aP hi;have c:=RU hS j l n (i+1) (by omega) (by omega);have k:=c191 hS j (s:=a.dK);have h:=c365 (a:=9) (b:=a.pos);simp at h;rw[g379L0e]at c⊢;rw[aV g];simp only[findF];simp at c;cases q:gA ds a.dK 0 with
  |none=>
   rw[q]at k;simp[rF]at k;simp(disch:=omega)[-getElem?_pos,g379B0,hi,g,k,h]
  |some r=>
   rw[q]at k;simp[rF]at k;simp(disch:=omega)[-getElem?_pos,g379B0,hi,g,k,ah];rw[g379L0e];simp[c]
theorem RV{ds:List Dt}{e:Ex}{i9 i:Nat}{a:Ar}(m:e.aF[i]?=some a)(t:a.vars.length<=1000):∀(n k:Nat),a.vars.length-k=n->k<=a.vars.length->
   cl AP g379L2 ⟨[(0,.pv (.aq (ds.map Dt.pv))),(3,.au 3 0),(4,.au 4 0),(9,.pv (vI i9)),(11,.pv (vI i)),(12,.pv (.aq (a.vars.map .str))),(13,.pv (vI k))],[(3,e.cl),(4,m2 (0,0))],[],[]⟩=
     if vp (a.vars.take k) (a.vars.drop k)=true then some (.ret,⟨[(4,.au 4 0)],[(4,m2 (6,a.pos))],[],[]⟩)
     else some (.exit 4,⟨[(0,.pv (.aq (ds.map Dt.pv))),(3,.au 3 0),(4,.au 4 0),(9,.pv (vI i9)),(11,.pv (vI i)),(12,.pv (.aq (a.vars.map .str))),(13,.pv (vI a.vars.length)),(90,.pv (.bool false))],[(3,e.cl),(4,m2 (0,0))],[],[]⟩)
 |0,k,hn,g=>by
  have:k=a.vars.length:=by omega
  subst this;rw[g379L2e];simp[g379B2,vp]
 |n+1,k,hn,g=>by
  have g:k<a.vars.length:=(by omega);have j:=(zaa.1 m).1;obtain⟨x,hx⟩:=aP g;have f:=RV (ds:=ds) (i9:=i9) m t n (k+1) (by omega) (by omega);have d:=c364 (s:=a.vars.take k) (by unfold Sm;simp;omega) (y:=x);have p:=c365 (a:=6) (b:=a.pos);have c:=YS (sz:=1) (l:=a.vars.map PV.str) (k:=.i64) (h:=k) (by omega) (by simp;omega);simp at p c;rw[za9]at d;rw[zaI,hx]at f;simp only[zce]at f;rw[g379L2e]at f⊢;rw[aV hx];simp at f;by_cases q:x∈a.vars.take k
  ·have o:vp (a.vars.take k) (x::a.vars.drop (k+1))=true:=(by simp[vp,q]);rw[o];rw[zaG q]at d;simp(disch:=omega)[-getElem?_pos,g379B2,g,j,m,hx,c,d,p]
  ·have o:vp (a.vars.take k) (x::a.vars.drop (k+1))=vp (a.vars.take k++[x]) (a.vars.drop (k+1)):=(by simp[vp,q]);rw[o];rw[zaC q]at d;simp(disch:=omega)[-getElem?_pos,g379B2,g,j,m,hx,c,d,ah];rw[g379L2e];simp[f]
   try (by_cases r:vp (a.vars.take k++[x]) (a.vars.drop (k+1))=true<;>simp[r])
theorem RW{ds:List Dt}{e:Ex}{i9:Nat}{d:Dt}(hd:ds[i9]?=some d)(t:e.aF.length<=1000)(r:∀a∈e.aF,a.vars.length<=1000)(hl:e.aF.length=d.cons.length):∀(n i:Nat),e.aF.length-i=n->i<=e.aF.length->
   cl AP g379L1 ⟨[(0,.pv (.aq (ds.map Dt.pv))),(3,.au 3 0),(4,.au 4 0),(9,.pv (vI i9)),(11,.pv (vI i))],[(3,e.cl),(4,m2 (0,0))],[],[]⟩=
     if (K_ (d.cons.drop i) (e.aF.drop i)).1≠0 then some (.ret,⟨[(4,.au 4 0)],[(4,m2 (K_ (d.cons.drop i) (e.aF.drop i)))],[],[]⟩)
     else some (.exit 2,⟨[(0,.pv (.aq (ds.map Dt.pv))),(3,.au 3 0),(4,.au 4 0),(9,.pv (vI i9)),(11,.pv (vI e.aF.length)),(58,.pv (.bool false))],[(3,e.cl),(4,m2 (0,0))],[],[]⟩)
 |0,i,hn,hi=>by
  have:i=e.aF.length:=by omega
  subst this;rw[g379L1e,BW (l:=d.cons) (by omega),BW (l:=e.aF) (by omega)];simp[g379B1,K_]
 |n+1,i,hn,hi=>by
  have hi:i<e.aF.length:=(by omega);have f:i<d.cons.length:=(by omega);have g:=(zaa.1 hd).1;obtain⟨a,j⟩:=aP hi;obtain⟨c,m⟩:=aP f;have o:=RW hd t r hl n (i+1) (by omega) (by omega);have h:=RV (ds:=ds) (i9:=i9) j (r a (aN j)) _ 0 rfl (by omega);have p:=c365 (a:=8) (b:=a.pos);simp at p;rw[zcX,zar]at h;rw[g379L2e]at h;rw[g379L1e]at o⊢;rw[aV j,aV m];simp only[K_];simp at o h;by_cases q:a.vars.length=c.fields.length
  ·by_cases k:vp [] a.vars=true
   ·simp[k,q]at h;simp(disch:=omega)[-getElem?_pos,g379B1,hi,f,g,j,m,hd,q,k,g379L2e,h]
   ·simp[k,q]at h;simp(disch:=omega)[-getElem?_pos,g379B1,hi,f,g,j,m,hd,q,k,g379L2e,h,ah];rw[g379L1e];simp[o]
  ·have s:¬(a.vars.length:Int)=c.fields.length:=(by omega);simp(disch:=omega)[-getElem?_pos,g379B1,hi,f,g,j,m,hd,q,s,p]
theorem Cb{ds:List Dt}{as:List Ar}{i:Nat}(h:eL ds as=some i):∃d,ds[i]?=some d∧as.length=d.cons.length:=by
 unfold eL at h
 have key:∀{l:List Dt}{k:Nat},bA (fun d=>ib d as) l=some k->∃d,l[k]?=some d∧ib d as=true:=by
  intro l;induction l with
  |nil=>intro k h;simp[bA]at h
  |cons x r a=>
   intro k h;simp only[bA]at h;split at h
   ·rename_i e;cases h;exact⟨x,rfl,e⟩
   ·cases h':bA (fun d=>ib d as) r with
    |none=>rw[h']at h;simp at h
    |some k'=>rw[h']at h;simp at h;subst h;simpa using a h'
 obtain⟨d,h1,h2⟩:=key h;refine⟨d,h1,?_⟩;unfold ib at h2;have:=zcn List.length (zch h2);simpa using this.symm
theorem vq:∀{cs:List jI}{as:List Ar},(K_ cs as).1=0->K_ cs as=(0,0)
 |[],_,_=>by simp[K_]
 |_::_,[],_=>by simp[K_]
 |c::cs,a::as,h=>by
  simp only[K_]at h⊢;split at h
  ·simp at h
  ·rename_i h1;rw[zad h1];split at h
   ·simp at h
   ·rename_i h2;rw[zad h2];exact vq h
theorem c379{ds:List Dt}(hS:Sm ds)(n:∀d∈ds,Sm d.cons){e:Ex}(l:e.Ok):(aC AP).p 379 [.aq (ds.map Dt.pv),e.pv]=some [fP (sn ds e)]:=by
 have m:=l.a;have h:=RU hS n m _ 0 rfl (by omega);rw[az g379];unfold sn;rw[zar]at h;cases q:findF ds e.aF with
 |some f=>
  rw[q]at h;simp at h;simp[g379,h]
 |none=>
  rw[q]at h;simp at h;have k:=c390 hS (as:=e.aF) (by unfold Sm;omega);cases c:eL ds e.aF with
  |none=>
   rw[c]at k;have j:=c365 (a:=10) (b:=e.pos);simp[gS]at k j;simp[g379,h,k,j]
  |some i=>
   rw[c]at k;simp[gS]at k;obtain⟨d,hd,hl⟩:=Cb c;have h2:=RW hd m l.v hl _ 0 rfl (by omega);rw[zar,zar]at h2;simp only[hd];by_cases g:(K_ d.cons e.aF).1=0
   ·have:=vq g;rw[this]at h2⊢;simp at h2;simp[g379,h,k,h2]
   ·simp[g]at h2;simp[g379,h,k,h2]
inductive Ex.RX (P:Ex->Prop):Ex->Prop
 |mk {e:Ex}:P e->(∀x∈e.ch,Ex.RX P x)->Ex.RX P e
theorem Ex.RX.h{P:Ex->Prop}{e:Ex}(h:e.RX P):P e:=by cases h;assumption
theorem Ex.RX.c{P:Ex->Prop}{e:Ex}(h:e.RX P):∀x∈e.ch,x.RX P:=by cases h;assumption
inductive Ex.KM:Nat->Ex->Prop
 |mk {n:Nat} {e:Ex}:(∀x∈e.ch,Ex.KM n x)->Ex.KM (n+1) e
theorem Ex.KM.c{n:Nat}{e:Ex}(h:Ex.KM (n+1) e):∀x∈e.ch,Ex.KM n x:=by cases h;assumption
noncomputable def gF(ds:List Dt)(a:List bD)(e:Ex):Ca:=
 if e.kind=1 then(if e.name∈a then(0,0)else(9,e.pos))
 else if e.kind=2 then(if(gA ds e.name 0).isSome then(0,0)else(9,e.pos))
 else if e.kind=8 then sn ds e
 else if e.kind=9 then(if e.ty.formed ds []=0 then(0,0)else(e.ty.formed ds [],e.pos))
 else (0,0)
def xg(f:Nat->Ex->Ca):Nat->List Ex->Ca
 |_,[]=>(0,0)
 |i,x::r=>if(f i x).1≠0 then f i x else xg f (i+1) r
theorem xh{f g:Nat->Ex->Ca}:∀{l:List Ex}{i:Nat},(∀i,∀x∈l,f i x=g i x)->xg f i l=xg g i l
 |[],_,_=>rfl
 |x::r,i,h=>by
  simp only[xg];rw[h i x (by simp),xh (l:=r) fun i y hy=>h i y (by simp[hy])]
theorem Ex.QF{e x:Ex}(h:x∈e.ch):SizeOf.sizeOf x<SizeOf.sizeOf e:=by
 rw[Ex.ch,zai,zat]at h;cases e;rcases h with h|⟨a,b,rfl⟩
 ·have:=_root_.List.sizeOf_lt_of_mem h;simp at*;omega
 ·have:=_root_.List.sizeOf_lt_of_mem b;have:=da.qO a;simp at*;omega
open Classical in
noncomputable def Ex.bR(ds:List Dt)(e:Ex)(a:List bD):Ca:=
 if (gF ds a e).1≠0 then gF ds a e
 else xg (fun i x=>if b:x∈e.ch then Ex.bR ds x (a++cd e i)else(0,0)) 0 e.ch
termination_by e
decreasing_by exact Ex.QF b
theorem Ex.F6(ds:List Dt)(e:Ex)(a:List bD):e.bR ds a=if(gF ds a e).1≠0 then gF ds a e else xg (fun i x=>x.bR ds (a++cd e i)) 0 e.ch:=by
 rw[Ex.bR];split
 ·rfl
 ·exact xh fun i x hx=>by rw[dif_pos hx]
theorem F7{ds:List Dt}{e:Ex}(h:(sn ds e).1=0):sn ds e=(0,0):=by
 unfold sn at h⊢
 have hf:∀{as:List Ar}{f:Ca},findF ds as=some f->f.1=9:=by
  intro as;induction as with
  |nil=>intro f h;simp[findF]at h
  |cons a r g=>
   intro f h;simp only[findF]at h;split at h
   ·cases h;rfl
   ·exact g h
 cases q:findF ds e.aF with
 |some f=>rw[q]at h;simp only at h;rw[hf q]at h;cases h
 |none=>
  rw[q]at h;simp only at h⊢;cases b:eL ds e.aF with
  |none=>rw[b]at h;simp at h
  |some i=>
   rw[b]at h;simp only at h⊢;cases c:ds[i]? with
   |none=>rfl
   |some d=>rw[c]at h;exact vq h
theorem F8{ds:List Dt}{a:List bD}{e:Ex}(h:(gF ds a e).1=0):gF ds a e=(0,0):=by
 unfold gF at h⊢;split
 ·rename_i h1;rw[zak h1]at h;split
  ·rfl
  ·rename_i h2;rw[zad h2]at h;cases h
 ·rename_i h1;rw[zad h1]at h;split
  ·rename_i h2;rw[zak h2]at h;split
   ·rfl
   ·rename_i h3;rw[zad h3]at h;cases h
  ·rename_i h2;rw[zad h2]at h;split
   ·rename_i h3;rw[zak h3]at h;exact F7 h
   ·rename_i h3;rw[zad h3]at h;split
    ·rename_i h4;rw[zak h4]at h;split
     ·rfl
     ·rename_i h5;rw[zad h5]at h;exact absurd h h5
    ·rfl
theorem NU{ds:List Dt}:∀{e:Ex}{a:List bD},(e.bR ds a).1=0->e.bR ds a=(0,0):=by
 intro e;refine Ex.recC (p:=fun e=>∀{a:List bD},(e.bR ds a).1=0->e.bR ds a=(0,0)) ?_ e;intro e c a h;rw[Ex.F6]at h⊢;split
 ·rename_i h1;rw[zak h1]at h;exact absurd h h1
 ·rename_i h1;rw[zad h1]at h
  have key:∀{l:List Ex}{i:Nat},(∀x∈l,x∈e.ch)->(xg (fun i x=>x.bR ds (a++cd e i)) i l).1=0->xg (fun i x=>x.bR ds (a++cd e i)) i l=(0,0):=by
   intro l;induction l with
   |nil=>intro i _ _;rfl
   |cons x r b=>
    intro i hl h;simp only[xg]at h⊢;split
    ·rename_i h1;rw[zak h1]at h;exact absurd h h1
    ·rename_i h1;rw[zad h1]at h;exact b (fun y hy=>hl y (by simp[hy])) h
  exact key (fun x hx=>hx) h
structure Uw(e:Ex):Prop where
 ok:e.Ok
 one:e.One
 cw:e.RX fun x=>x.ty.Cw
theorem Uw.c{e x:Ex}(h:Uw e)(hx:x∈e.ch):Uw x:=⟨h.ok.c x hx,h.one.c x hx,h.cw.c x hx⟩
def pY(b:Nat):List AV:=[.pv (vI 0),.pv (vI 0),.pv (.str []),.pv (vI 0),.own [] b,.own [] (b+1),.pv (vI 0),.pv (.str []),.pv (vI 0),.pv (vI 0),.own [] (b+2)]
theorem KN{sz n:Nat}{ag:Bool}:PM sz n ag none=none:=rfl
theorem QG{o:Option (List PV)}:pM none o=none:=rfl
theorem QH{p:PV}:pM (some p) none=none:=rfl
theorem W8{s:c_}{S:List Int}{c:Int->Nat}(hr:∀i v,Edge s.sl i v->c v<c i)(r:∀x∈s.sl,x.ty.Ok)(hS:∀x∈s.sl,∀w,fE x.ty w->w∈S){l:List Ty}(hl:Sm l)(q:∀t∈l,t.Ok)(hw:∀t∈l,∀w,fE t w->w∈S):
   ∀(n i:Nat),l.length-i=n->i<=l.length->∀(dn:List Bool)(out:List Int),dn.length=s.sl.length->gQ S out->(∀j:Nat,dn[j]?=some true->QA s.sl j out)->(∀v,v∈out<->∃t∈l.take i,RT s.sl t v∧¬nc s.sl v)->∃(dn':List Bool)(out':List Int),
   cl AP g372L0 ⟨[(1,.pv (.aq (l.map Ty.pv))),(5,.aI 1 0),(6,.pv (vI i))],[],fX s (bT dn) s.sl.length out,[out.length]⟩=
     some (.exit 0,⟨[(1,.pv (.aq (l.map Ty.pv))),(5,.aI 1 0),(6,.pv (vI l.length)),(17,.pv (.bool false))],[],fX s (bT dn') s.sl.length out',[out'.length]⟩)∧gQ S out'∧∀v,v∈out'<->∃t∈l,RT s.sl t v∧¬nc s.sl v
 |0,i,hn,hi,dn,out,hd,f,hp,b=>by
  have:i=l.length:=by omega
  subst this;refine⟨dn,out,?_,f,by simpa using b⟩;have z:=(kh (dn:=dn)).norm;rw[g372L0e];simp[g372B0,fX,z]
 |n+1,i,hn,hi,dn,out,hd,f,hp,b=>by
  have hi:i<l.length:=(by omega);obtain⟨a,g⟩:=aP hi;have hm:=aN g;unfold Sm at hl;obtain⟨N,hN⟩:=fE.bound c a;obtain⟨m,o1,P⟩:=Nb hr r hS N a (q a hm) hN (hw a hm) dn out hd f (fun j hj _=>hp j hj)
  obtain⟨dn',out',k,h1,h2⟩:=W8 hr r hS hl q hw n (i+1) (by omega) (by omega) m o1 P.len P.KJ (fun j hj=>by
   rcases P.new j hj with h|h
   ·exact(hp j h).mono P.sub
   ·exact h) (fun v=>by
   rw[zaI,g];constructor
   ·intro h;rcases P.own v h with h|h
    ·obtain⟨t,h1,h2⟩:=(b v).1 h;exact⟨t,by simp[h1],h2⟩
    ·exact⟨a,by simp,h⟩
   ·rintro⟨t,h1,h2⟩
    simp at h1;rcases h1 with h1|rfl
    ·exact P.sub v ((b v).2 ⟨t,h1,h2⟩)
    ·exact P.all v h2.1 h2.2)
  refine⟨dn',out',?_,h1,h2⟩;have e:=P.B9;have p:=kh (dn:=dn);have o:=kh (dn:=m);have n0:=p.norm;have d:=o.norm;have y:=p.sh;have u:=o.sh;unfold Un at e;generalize bT m=A at*;generalize bT dn=T at*;rw[g372L0e]at k ⊢;simp[fX]at e;simp[fX,d]at k;simp(disch:=omega)[-getElem?_pos,g372B0,fX,hi,g,n0,d,y,u,ah,e];rw[g372L0e];simp[k,d]
theorem c372{s:c_}{S:List Int}(hs:s.sl.length<=1000000)(o:CO s.sl)(r:∀x∈s.sl,x.ty.Ok)(hS:∀x∈s.sl,∀w,fE x.ty w->w∈S)(hf:S.length<1099511627776){l:List Ty}(hl:Sm l)(h:∀t∈l,t.Ok)(hw:∀t∈l,∀w,fE t w->w∈S):
   ∃out,(aC AP).p 372 [s.pv,.aq (l.map Ty.pv)]=some [.aq (out.map vI)]∧gQ S out∧∀v,v∈out<->∃t∈l,RT s.sl t v∧¬nc s.sl v:=by
 obtain⟨y,hr⟩:=o
 obtain⟨dn',out,e,k,g⟩:=W8 hr r hS hl h hw _ 0 rfl (by omega) (List.replicate s.sl.length false) [] (by simp) (m9 hf) (by
  intro j hj;exfalso;by_cases q:j<s.sl.length
  ·simp[List.getElem?_replicate,q]at hj
  ·simp[List.getElem?_replicate,q]at hj) (by simp)
 refine⟨out,?_,k,g⟩;have m:bT (List.replicate s.sl.length false)=List.replicate s.sl.length (.pv (.bool false)):=by simp[bT]
 have hp:=kh (dn:=List.replicate s.sl.length false);have a:=kh (dn:=dn');rw[m]at e hp;have b1:(s.sl.length:Int)<=9223372036854775807:=by omega
 have u:(s.sl.length:Int)<=140737488355328:=by omega
 have hn:=hp.norm;have b:=a.norm;have i:=hp.sh;have c:=a.sh;have hm:=hp.mp;generalize bT dn'=z at*
 have d:(List.replicate s.sl.length [AV.pv (.bool false)]).flatten=List.replicate s.sl.length (.pv (.bool false)):=by
  generalize s.sl.length=n;induction n with
  |zero=>rfl
  |succ n f=>rw[zbn,zcN,f,zbn];rfl
 generalize List.replicate s.sl.length (AV.pv (.bool false))=T at*;rw[g372L0e]at e;simp[fX,hn,b]at e;rw[az g372];simp(disch:=omega)[g372,b1,u,hn,b,i,c,hm,d,g372L0e,e,ah,KN,QG,QH,uu]
def CR(l:List Ty)(t:Ty):Option Ty:=if t.kind=2∧0<=t.id∧t.id<l.length then l[t.id.toNat]? else none
theorem kj{l:List Ty}{t u:Ty}(h:CR l t=some u):t.kind=2∧0<=t.id∧t.id<l.length∧l[t.id.toNat]?=some u:=by
 unfold CR at h;split at h
 ·rename_i c;exact⟨c.1,c.2.1,c.2.2,h⟩
 ·cases h
theorem vt{l:List Ty}{t:Ty}(h:CR l t=none):¬(t.kind=2∧0<=t.id∧t.id<l.length):=by
 intro c;unfold CR at h;rw[zak c]at h;rw[List.getElem?_eq_none_iff]at h;omega
mutual
def Ty.fQ(l:List Ty):Ty->Ty
 |⟨k,n,i,h,as⟩=>(CR l ⟨k,n,i,h,as⟩).getD ⟨k,n,i,h,Ty.NV l as⟩
def Ty.NV(l:List Ty):List Ty->List Ty
 |[]=>[]
 |a::r=>a.fQ l::Ty.NV l r
end
theorem Ty.Cc(l:List Ty):∀as:List Ty,Ty.NV l as=as.map (Ty.fQ l)
 |[]=>by simp[Ty.NV]
 |a::r=>by simp[Ty.NV,Ty.Cc l r]
theorem Ty.ko(l:List Ty)(t:Ty):t.fQ l=(CR l t).getD ⟨t.kind,t.name,t.id,t.home,t.args.map (Ty.fQ l)⟩:=by
 cases t;simp only[Ty.fQ,Ty.Cc]
theorem ZF{s:List Ty}{t:Ty}(hS:Sm t.args)(h:∀x∈t.args,(aC AP).p 48 [x.pv,.aq (s.map Ty.pv)]=some [(x.fQ s).pv]):∀(n i:Nat),t.args.length-i=n->i<=t.args.length->∀acc:List Ty,acc=(t.args.take i).map (Ty.fQ s)->
   cl AP g48L0 ⟨[(1,.pv (.aq (s.map Ty.pv))),(2,.au 2 0),(4,.au 4 0),(5,.au 5 0),(6,.pv (vI i))],
     [(2,[.pv (vI t.kind),.pv (.str t.name),.pv (vI t.id),.pv (vI t.home),.pv (.aq (t.args.map Ty.pv))]),(4,[.pv (vI 0),.pv (.str []),.pv (vI 0),.pv (vI 0),.own [] 0]),
       (5,[.pv (vI t.kind),.pv (.str t.name),.pv (vI t.id),.pv (vI t.home),.own (acc.map Ty.pv) 1])],[],[0,acc.length]⟩=
     some (.exit 0,⟨[(1,.pv (.aq (s.map Ty.pv))),(2,.au 2 0),(4,.au 4 0),(5,.au 5 0),(6,.pv (vI t.args.length)),(33,.pv (.bool false))],
     [(2,[.pv (vI t.kind),.pv (.str t.name),.pv (vI t.id),.pv (vI t.home),.pv (.aq (t.args.map Ty.pv))]),(4,[.pv (vI 0),.pv (.str []),.pv (vI 0),.pv (vI 0),.own [] 0]),
       (5,[.pv (vI t.kind),.pv (.str t.name),.pv (vI t.id),.pv (vI t.home),.own ((t.args.map (Ty.fQ s)).map Ty.pv) 1])],[],[0,t.args.length]⟩)
 |0,i,hn,hi,acc,a=>by
  have:i=t.args.length:=by omega
  subst this;subst a;rw[g48L0e];simp[g48B0]
 |n+1,i,hn,hi,acc,a=>by
  have hi:i<t.args.length:=(by omega);obtain⟨x,hx⟩:=aP hi;unfold Sm at hS;have d:(acc.length+1)*64<=140737488355328:=by subst a;simp;omega
  have c:=h x (aN hx);have b:=ZF hS h n (i+1) (by omega) (by omega) (acc++[x.fQ s]) (by rw[zaI,hx,a];simp);rw[g48L0e]at b⊢;simp at b c;simp(disch:=omega)[-getElem?_pos,g48B0,hx,hi,c,d,ah];rw[g48L0e];simp[b]
theorem c48{s:List Ty}(hs:Sm s){t:Ty}(e:t.Ok):(aC AP).p 48 [t.pv,.aq (s.map Ty.pv)]=some [(t.fQ s).pv]:=by
 revert e
 refine Ty.cB (p:=fun t=>t.Ok->(aC AP).p 48 [t.pv,.aq (s.map Ty.pv)]=some [(t.fQ s).pv]) ?_ t;intro t f e;rw[az g48];unfold Sm at hs;have h:=ZF (s:=s) e.sm (fun x hx=>f x hx (e.cY x hx)) _ 0 rfl (by omega) [] (by simp);rw[g48L0e]at h;simp at h;cases hp:CR s t with
 |some u=>
  obtain⟨a,b,c,d⟩:=kj hp;have b1:¬t.id<0:=by omega
  simp (disch:=omega) [-getElem?_pos,g48,a,b,b1,c,d,Ty.ko s t,hp]
 |none=>
  have q:=vt hp;by_cases a:t.kind=2
  ·by_cases b:0<=t.id
   ·have c:¬t.id<s.length:=fun c=>q ⟨a,b,c⟩;simp[a]at h;simp(disch:=omega)[-getElem?_pos,g48,a,b,c,g48L0e,h,Ty.ko s t,hp]
   ·simp[a]at h;simp(disch:=omega)[-getElem?_pos,g48,a,b,g48L0e,h,Ty.ko s t,hp]
  ·simp(disch:=omega)[-getElem?_pos,g48,a,g48L0e,h,Ty.ko s t,hp]
def kR(s:List Ty)(x:Ty):Ty:=(CR s x).getD x
inductive Ty.Wb:Ty->Prop
 |mk {t:Ty}:(t.kind=2->t.args=[])->(∀x∈t.args,Ty.Wb x)->Ty.Wb t
theorem Ty.Wb.var{t:Ty}(h:t.Wb):t.kind=2->t.args=[]:=by cases h;assumption
theorem Ty.Wb.cY{t:Ty}(h:t.Wb):∀x∈t.args,x.Wb:=by cases h;assumption
theorem QI{s:List Ty}{t:Ty}(h:t.Wb):t.se (kR s)=t.fQ s:=by
 revert h
 refine Ty.cB (p:=fun t=>t.Wb->t.se (kR s)=t.fQ s) ?_ t;intro t a h;by_cases hn:t.args=[]
 ·rw[Ty.yU hn,Ty.ko];unfold kR;cases t;simp at hn;simp[hn]
 ·have b:¬t.kind=2:=fun e=>hn (h.var e);have hp:CR s t=none:=by unfold CR;rw[zad];exact fun c=>b c.1
  rw[Ty.uU hn,Ty.ko,hp];simp only[zbj];congr 1;exact zcE fun x hx=>a x hx (h.cY x hx)
theorem c93{s:List Ty}(hs:Sm s):Nj 93 [.aI 0 0] [.pv (.aq (s.map Ty.pv))] (kR s):=by
 intro sh x e h0 hx;rw[aA g93];unfold Sm at hs;cases hp:CR s x with
 |some u=>
  obtain⟨a,b,c,d⟩:=kj hp;have b1:¬x.id<0:=by omega
  simp (disch:=omega) [-getElem?_pos,g93,a,b,b1,c,d,h0,e.norm,e.shift,kR,hp]
 |none=>
  have q:=vt hp;by_cases a:x.kind=2
  ·by_cases b:0<=x.id
   ·have c:¬x.id<s.length:=fun c=>q ⟨a,b,c⟩;simp(disch:=omega)[-getElem?_pos,g93,a,b,c,h0,e.norm,e.shift,kR,hp,hx]
   ·simp(disch:=omega)[-getElem?_pos,g93,a,b,h0,e.norm,e.shift,kR,hp,hx]
  ·simp(disch:=omega)[-getElem?_pos,g93,a,h0,e.norm,e.shift,kR,hp,hx]
theorem c47{s:List Ty}(hS:Sm s){t:Ty}(d:t.Ok)(c:t.Wb):(aC AP).p 47 [t.pv,.aq (s.map Ty.pv)]=some [(t.fQ s).pv]:=by
 have h:=c91 (c93 hS) rfl rfl rfl (fun _ _=>rfl) rfl d [some [.pv (.aq (s.map Ty.pv))]] (by intro cs b v a;simp at b;subst b;simp at a;exact⟨_,a⟩) rfl;rw[QI c]at h;simp at h;rw[az g47];simp[g47,h]
theorem nd{s:List Ty}(hs:∀a∈s,a.Ok){t:Ty}(h:t.Ok):(t.fQ s).Ok:=by
 revert h
 refine Ty.cB (p:=fun t=>t.Ok->(t.fQ s).Ok) ?_ t;intro t b h;rw[Ty.ko];cases hp:CR s t with
 |some u=>exact hs u (aN (kj hp).2.2.2)
 |none=>
  refine⟨?_,?_⟩
  ·have:=h.sm;unfold Sm at this⊢;simpa using this
  ·intro x hx;simp at hx;obtain⟨y,hy,rfl⟩:=hx;exact b y hy (h.cY y hy)
end Go.Ab.Lw
