import Derived.Test.YtkiihoaaloiffaaGreatDoorCodeA
import Derived.KernelRfl
/- What functions of the given program answer, told of their slim code on the abstract machine. -/
set_option linter.defProp false
set_option linter.unusedVariables false
set_option linter.unusedSimpArgs false
set_option linter.unnecessarySimpa false
set_option maxRecDepth 100000
set_option maxHeartbeats 8000000
namespace Go.Ab
def zaM:=@List.drop_eq_nil_of_le
def zaU:=@List.take_add_one
def zaC:=@List.mem_flatMap
def za2:=@decide_eq_true
def zbw:=@List.any_eq_false
def zbu:=@List.not_mem_nil
def zdf:=@Int.not_le
def zch:=@decide_eq_false_iff_not
def zcA:=@Option.toList_some
def zcY:=@List.nodup_append
def zck:=@List.foldl_append
def zbC:=@List.any_cons
def zcL:=@Nat.one_le_pow
def zcj:=@Nat.pow_succ
def zcW:=@of_decide_eq_true
def zaw:=@List.set_eq_take_append_cons_drop
def zbr:=@List.map_take
def zcu:=@List.map_drop
def zcs:=@List.drop_append
def zbG:=@List.map_append
def zcn:=@List.singleton_append
def zbq:=@List.length_singleton
def zaj:=@List.drop_zero
def zbh:=@List.map_attach_eq_pmap
def zbA:=@List.pmap_eq_map
def zbj:=@List.sum_cons
def za7:=@List.drop_set_of_lt
def zb6:=@List.mem_singleton
def zaR:=@List.length_eq_zero_iff
def zcr:=@Nat.max_eq_right
def zcx:=@Nat.max_eq_left
def zcg:=@List.length_flatMap
def zcZ:=@List.all_map
def zcf:=@List.mem_map_of_mem
end Go.Ab
namespace Go.Ab.Lw
structure Ty where
 kind:Int
 name:List UInt8
 id:Int
 home:Int
 args:List Ty
 deriving Inhabited
noncomputable instance:DecidableEq Ty:=fun _ _=>Classical.propDecidable _
mutual
def Ty.pv:Ty->PV
 |⟨k,n,i,h,as⟩=>.agg [.int .i64 k,.str n,.int .i64 i,.int .i64 h,.aq (Ty.dN as)]
def Ty.dN:List Ty->List PV
 |[]=>[]
 |a::r=>a.pv::Ty.dN r
end
def Ty.qD:∀l:List Ty,Ty.dN l=l.map Ty.pv
 |[]=>by simp[Ty.dN]
 |a::r=>by simp[Ty.dN,Ty.qD r]
@[simp] theorem Ty.kS(t:Ty):t.pv=.agg [.int .i64 t.kind,.str t.name,.int .i64 t.id,.int .i64 t.home,.aq (t.args.map Ty.pv)]:=by
 cases t;simp only[Ty.pv,Ty.qD]
def Ty.cD{p:Ty->Prop}(h:∀t:Ty,(∀x∈t.args,p x)->p t):∀t,p t
 |⟨k,n,i,hm,as⟩=>h _ (fun x a=>Ty.cD h x)
termination_by t=>SizeOf.sizeOf t
decreasing_by have:=_root_.List.sizeOf_lt_of_mem a;simp at*;omega
structure cd where
 pos:Int
 name:List UInt8
 fields:List Ty
 deriving Inhabited
structure Dt where
 pos:Int
 name:List UInt8
 params:List (List UInt8)
 cons:List cd
 deriving Inhabited
def cd.pv(c:cd):PV:=.agg [.int .i64 c.pos,.str c.name,.aq (c.fields.map Ty.pv)]
def Dt.pv(d:Dt):PV:=.agg [.int .i64 d.pos,.str d.name,.aq (d.params.map .str),.aq (d.cons.map cd.pv)]
@[simp] theorem cd.kS(c:cd):c.pv=.agg [.int .i64 c.pos,.str c.name,.aq (c.fields.map Ty.pv)]:=rfl
@[simp] theorem Dt.kS(d:Dt):d.pv=.agg [.int .i64 d.pos,.str d.name,.aq (d.params.map .str),.aq (d.cons.map cd.pv)]:=rfl
structure As where
 id:Int
 ty:Ty
 deriving Inhabited
def As.pv(a:As):PV:=.agg [.int .i64 a.id,.int .i64 a.ty.kind,.str a.ty.name,.int .i64 a.ty.id,.int .i64 a.ty.home,.aq (a.ty.args.map Ty.pv)]
@[simp] theorem As.kS(a:As):a.pv=.agg [.int .i64 a.id,.int .i64 a.ty.kind,.str a.ty.name,.int .i64 a.ty.id,.int .i64 a.ty.home,.aq (a.ty.args.map Ty.pv)]:=rfl
@[simp] theorem As.eta(t:As):As.mk t.id t.ty=t:=rfl
abbrev vI(n:Int):PV:=.int .i64 n
def tp(L:List Int)(i:Int):Sh:=[some [.pv (.aq (L.map vI)),.pv (vI i)]]
@[simp] theorem aa7(L:List Int)(i:Int):tp L i=[some [.pv (.aq (L.map vI)),.pv (vI i)]]:=rfl
def Sm{α:Type}(l:List α):Prop:=l.length<1099511627776
def nE{α:Type}(l:List α):Prop:=l.length<=9223372036854775807
@[simp] theorem aaK(n:Nat):((n:Int)<0)<->False:=by simp
@[simp] theorem aaC(n:Nat):((n:Int)+1<0)<->False:=by simp;omega
def aR{α:Type}{l:List α}{i:Nat}{x:α}(h:l[i]?=some x):l.drop i=x::l.drop (i+1):=by
 obtain⟨hi,rfl⟩:=zaa.1 h;exact zdg hi
def aQ{α:Type}{l:List α}{i:Nat}(h:i<l.length):∃x,l[i]?=some x:=⟨_,zbe h⟩
def aK{α:Type}{l:List α}{i:Nat}{x:α}(h:l[i]?=some x):x∈l:=zcN h
def jb{α:Type}{l:List α}{i:Nat}(h:l.length<=i):l.drop i=[]:=zaM h
open Ev
def c26{n m:Int}(h1:1<=m)(h2:m<4611686018427387904):∃r,(az AP).p 26 [vI n,vI m]=some [vI r]/\0<=r/\r<m:=by
 rw[aw g26];have b:=Int.tmod_lt_of_pos n (show 0<m by omega);have a:=Int.lt_tmod_of_pos n (show 0<m by omega);have e1:¬m<1:=by omega
 have e2:¬m=0:=by omega
 by_cases h:n.tmod m<0
 .refine⟨n.tmod m+m,?_,by omega,by omega⟩;simp(disch:=omega)[g26,e1,e2,h,ae]
 .refine⟨n.tmod m,?_,by omega,by omega⟩;simp[g26,e1,e2,h]
def c63{n:Int}:(az AP).p 63 [vI n]=some [(Ty.mk 1 [] n 0 []).pv]:=by
 rw[aw g63];simp[g63]
def c71{n m:Int}:(az AP).p 71 [vI n,vI m]=some [(Ty.mk 3 [] m n []).pv]:=by
 rw[aw g71];simp[g71]
def c72{n:Int}:(az AP).p 72 [vI n]=some [(Ty.mk 2 [] n 0 []).pv]:=by
 rw[aw g72];simp[g72]
def c62{s:List UInt8}{l:List Ty}(h:Sm l):(az AP).p 62 [.str s,.aq (l.map Ty.pv)]=some [(Ty.mk 4 s 0 0 l).pv]:=by
 unfold Sm at h;rw[aw g62];cases l with
 |nil=>simp[g62]
 |cons a r=>
  have:(r.length+1)*64<=140737488355328:=by simp at h;omega
  simp[g62,this]
def c34:(az AP).p 34 []=some [(Ty.mk 4 [73,110,116] 0 0 []).pv]:=by
 rw[aw g34];have h:=c62 (s:=[73,110,116]) (l:=[]) (by simp[Sm]);simp at h;simp[g34,h]
def c69{a b:Ty}:(az AP).p 69 [a.pv,b.pv]=some [(Ty.mk 4 [45,62] 0 0 [a,b]).pv]:=by
 rw[aw g69];have h:=c62 (s:=[45,62]) (l:=[a,b]) (by simp[Sm]);simp at h;simp[g69,h]
def c15{l:List Int}:(az AP).p 15 [.aq (l.map vI)]=some [.bool (decide (l.length<=60))]:=by
 rw[aw g15];simp[g15];omega
def bO(n:Int):Ty:=⟨1,[],n,0,[]⟩
def mA(h n:Int):Ty:=⟨3,[],n,h,[]⟩
def cL(n:Int):Ty:=⟨2,[],n,0,[]⟩
def bK:Ty:=⟨4,[73,110,116],0,0,[]⟩
def YJ:List UInt8:=[100,97,116,97,32,66,111,111,108,32,61,32,84,114,117,101,32,124,32,70,97,108,115,101,59,32,100,97,116,97,32,79,112,116,105,111,110,32,97,32,61,32,78,111,110,101,32,124,32,83,111,109,101,32,97,59,32,100,97,116,97,32,76,105,115,116,32,97,32,61,32,78,105,108,32,124,32,67,111,110,115,32,97,32,40,76,105,115,116,32,97,41,59,100,97,116,97,32,80,97,105,114,32,97,32,98,32,61,32,80,97,105,114,32,97,32,98,59,32,100,97,116,97,32,78,97,116,32,61,32,90,101,114,111,32,124,32,83,117,99,99,32,78,97,116,59,32,100,97,116,97,32,70,117,110,32,97,32,98,32,61,32,70,117,110,32,40,97,32,45,62,32,98,41,59,32,100,97,116,97,32,84,119,111,32,97,32,61,32,66,111,116,104,32,97,32,97,32,124,32,79,110,101,32,40,79,112,116,105,111,110,32,97,41,59]
def Ua:List PV:=[.aq [.agg [.int .i64 4,.str [100,97,116,97],.int .i64 0],.agg [.int .i64 2,.str [66,111,111,108],.int .i64 5],.agg [.int .i64 5,.str [61],.int .i64 10],.agg [.int .i64 2,.str [84,114,117,101],.int .i64 12],.agg [.int .i64 5,.str [124],.int .i64 17],.agg [.int .i64 2,.str [70,97,108,115,101],.int .i64 19],.agg [.int .i64 5,.str [59],.int .i64 24],.agg [.int .i64 4,.str [100,97,116,97],.int .i64 26],.agg [.int .i64 2,.str [79,112,116,105,111,110],.int .i64 31],.agg [.int .i64 1,.str [97],.int .i64 38],.agg [.int .i64 5,.str [61],.int .i64 40],.agg [.int .i64 2,.str [78,111,110,101],.int .i64 42],.agg [.int .i64 5,.str [124],.int .i64 47],.agg [.int .i64 2,.str [83,111,109,101],.int .i64 49],.agg [.int .i64 1,.str [97],.int .i64 54],.agg [.int .i64 5,.str [59],.int .i64 55],.agg [.int .i64 4,.str [100,97,116,97],.int .i64 57],.agg [.int .i64 2,.str [76,105,115,116],.int .i64 62],.agg [.int .i64 1,.str [97],.int .i64 67],.agg [.int .i64 5,.str [61],.int .i64 69],.agg [.int .i64 2,.str [78,105,108],.int .i64 71],.agg [.int .i64 5,.str [124],.int .i64 75],.agg [.int .i64 2,.str [67,111,110,115],.int .i64 77],.agg [.int .i64 1,.str [97],.int .i64 82],.agg [.int .i64 5,.str [40],.int .i64 84],.agg [.int .i64 2,.str [76,105,115,116],.int .i64 85],.agg [.int .i64 1,.str [97],.int .i64 90],.agg [.int .i64 5,.str [41],.int .i64 91],.agg [.int .i64 5,.str [59],.int .i64 92],.agg [.int .i64 4,.str [100,97,116,97],.int .i64 93],.agg [.int .i64 2,.str [80,97,105,114],.int .i64 98],.agg [.int .i64 1,.str [97],.int .i64 103],.agg [.int .i64 1,.str [98],.int .i64 105],.agg [.int .i64 5,.str [61],.int .i64 107],.agg [.int .i64 2,.str [80,97,105,114],.int .i64 109],.agg [.int .i64 1,.str [97],.int .i64 114],.agg [.int .i64 1,.str [98],.int .i64 116],.agg [.int .i64 5,.str [59],.int .i64 117],.agg [.int .i64 4,.str [100,97,116,97],.int .i64 119],.agg [.int .i64 2,.str [78,97,116],.int .i64 124],.agg [.int .i64 5,.str [61],.int .i64 128],.agg [.int .i64 2,.str [90,101,114,111],.int .i64 130],.agg [.int .i64 5,.str [124],.int .i64 135],.agg [.int .i64 2,.str [83,117,99,99],.int .i64 137],.agg [.int .i64 2,.str [78,97,116],.int .i64 142],.agg [.int .i64 5,.str [59],.int .i64 145],.agg [.int .i64 4,.str [100,97,116,97],.int .i64 147],.agg [.int .i64 2,.str [70,117,110],.int .i64 152],.agg [.int .i64 1,.str [97],.int .i64 156],.agg [.int .i64 1,.str [98],.int .i64 158],.agg [.int .i64 5,.str [61],.int .i64 160],.agg [.int .i64 2,.str [70,117,110],.int .i64 162],.agg [.int .i64 5,.str [40],.int .i64 166],.agg [.int .i64 1,.str [97],.int .i64 167],.agg [.int .i64 5,.str [45,62],.int .i64 169],.agg [.int .i64 1,.str [98],.int .i64 172],.agg [.int .i64 5,.str [41],.int .i64 173],.agg [.int .i64 5,.str [59],.int .i64 174],.agg [.int .i64 4,.str [100,97,116,97],.int .i64 176],.agg [.int .i64 2,.str [84,119,111],.int .i64 181],.agg [.int .i64 1,.str [97],.int .i64 185],.agg [.int .i64 5,.str [61],.int .i64 187],.agg [.int .i64 2,.str [66,111,116,104],.int .i64 189],.agg [.int .i64 1,.str [97],.int .i64 194],.agg [.int .i64 1,.str [97],.int .i64 196],.agg [.int .i64 5,.str [124],.int .i64 198],.agg [.int .i64 2,.str [79,110,101],.int .i64 200],.agg [.int .i64 5,.str [40],.int .i64 204],.agg [.int .i64 2,.str [79,112,116,105,111,110],.int .i64 205],.agg [.int .i64 1,.str [97],.int .i64 212],.agg [.int .i64 5,.str [41],.int .i64 213],.agg [.int .i64 5,.str [59],.int .i64 214]],.agg [.int .i64 0,.int .i64 0]]
def bf:List Dt:=[⟨0,[66,111,111,108],[],[⟨12,[84,114,117,101],[]⟩,⟨19,[70,97,108,115,101],[]⟩]⟩,
 ⟨26,[79,112,116,105,111,110],[[97]],[⟨42,[78,111,110,101],[]⟩,⟨49,[83,111,109,101],[⟨5,[97],0,0,[]⟩]⟩]⟩,
 ⟨57,[76,105,115,116],[[97]],[⟨71,[78,105,108],[]⟩,⟨77,[67,111,110,115],[⟨5,[97],0,0,[]⟩,⟨4,[76,105,115,116],0,0,[⟨5,[97],0,0,[]⟩]⟩]⟩]⟩,
 ⟨93,[80,97,105,114],[[97],[98]],[⟨109,[80,97,105,114],[⟨5,[97],0,0,[]⟩,⟨5,[98],0,0,[]⟩]⟩]⟩,
 ⟨119,[78,97,116],[],[⟨130,[90,101,114,111],[]⟩,⟨137,[83,117,99,99],[⟨4,[78,97,116],0,0,[]⟩]⟩]⟩,
 ⟨147,[70,117,110],[[97],[98]],[⟨162,[70,117,110],[⟨4,[45,62],0,0,[⟨5,[97],0,0,[]⟩,⟨5,[98],0,0,[]⟩]⟩]⟩]⟩,
 ⟨176,[84,119,111],[[97]],[⟨189,[66,111,116,104],[⟨5,[97],0,0,[]⟩,⟨5,[97],0,0,[]⟩]⟩,⟨200,[79,110,101],[⟨4,[79,112,116,105,111,110],0,0,[⟨5,[97],0,0,[]⟩]⟩]⟩]⟩]
def YK:(az AP).p 118 [.str YJ]=some Ua:=Fc.L6 (k:=400) (n:=20) (by kernel_rfl)
def ovD(g:Nat)(x:List PV):Option (List PV):=match g,x with
 |118,[.str s]=>if s=YJ then some Ua else none
 |_,_=>none
def We:∀g x r,ovD g x=some r->(az AP).p g x=some r:=by
 intro g x r h;unfold ovD at h;split at h
 .split at h
  .rename_i e;subst e;cases h;exact YK
  .cases h
 .cases h
def c79:(az AP).p 79 []=some [.aq (bf.map Dt.pv)]:=Fc.T8 (k:=400) (n:=40) We (by kernel_rfl)
@[simp] theorem XH{l:List Dt}:bl 4 (l.map Dt.pv)=true:=by cases l<;>simp
@[simp] theorem XI{l:List Ty}:bl 5 (l.map Ty.pv)=true:=by cases l<;>simp
@[simp] theorem XJ{l:List As}:bl 6 (l.map As.pv)=true:=by cases l<;>simp
def O5{n:Int}(h1:0<=n)(h2:n<18446744073709551616):IntKind.u64.wrap n=n:=by
 simp[IntKind.wrap,IntKind.bits,IntKind.signed];omega
def YL(bits:Int)(ds:List Dt):Option (bh×St):=
 some (.exit 0,⟨[(0,.pv (vI bits)),(3,.pv (.aq (bf.map Dt.pv))),(4,.own (ds.map Dt.pv) 0),(5,.pv (vI 7)),(24,.pv (.bool false))],[],[],[ds.length]⟩)
def L32(bits:Int):∀(n i:Nat),7-i=n->i<=7->∀acc:List Dt,(∀d∈acc,d∈bf)->acc.length<=1+i->
   ∃ds:List Dt,cl AP g32L0 ⟨[(0,.pv (vI bits)),(3,.pv (.aq (bf.map Dt.pv))),(4,.own (acc.map Dt.pv) 0),(5,.pv (vI i))],[],[],[acc.length]⟩=YL bits ds /\
     (∀d∈ds,d∈bf)/\ds.length<=8
 |0,i,hn,hi,acc,a,hl=>by
  have:i=7:=by omega
  subst this;refine⟨acc,?_,a,by omega⟩;rw[g32L0e];have h7:bf.length=7:=rfl;simp[g32B0,h7,YL]
 |n+1,i,hn,hi,acc,a,hl=>by
  have h7:bf.length=7:=rfl;have hi:i<7:=(by omega);obtain⟨x,hx⟩:=aQ (l:=bf) (i:=i) (by omega);have g:(acc.length+1)*72<=140737488355328:=by omega
  obtain⟨e,e1,f,l1⟩:=L32 bits n (i+1) (by omega) (by omega) (acc++[x]) (by
   intro d hd;simp at hd;rcases hd with hd|rfl
   .exact a d hd
   .exact aK hx) (by simp;omega)
  obtain⟨c,e2,m2,l2⟩:=L32 bits n (i+1) (by omega) (by omega) acc a (by omega);simp at e1 e2;have b:(i:Int)<7:=by omega
  have key:∀S,S=cl AP g32L0 ⟨[(0,.pv (vI bits)),(3,.pv (.aq (bf.map Dt.pv))),(4,.own (acc.map Dt.pv) 0),(5,.pv (vI i))],[],[],[acc.length]⟩->S=YL bits e\/S=YL bits c:=by
   intro S hS;rw[g32L0e]at hS;simp(disch:=omega)[-getElem?_pos,g32B0,h7,b,hx,ae,O5,g,e1,e2]at hS;subst hS
   (repeat' split)<;>simp
  rcases key _ rfl with h|h
  .exact⟨e,h,f,l1⟩
  .exact⟨c,h,m2,l2⟩
def c32(bits:Int):∃ds:List Dt,(az AP).p 32 [vI bits]=some [.aq (ds.map Dt.pv)]/\(∀d∈ds,d∈bf)/\ds.length<=8:=by
 have hp:=c79;have h7:bf.length=7:=rfl;obtain⟨x,hx⟩:=aQ (l:=bf) (i:=1) (by decide);obtain⟨b,e1,c,l1⟩:=L32 bits 7 0 rfl (by omega) [x] (by intro d hd;simp at hd;subst hd;exact aK hx) (by simp);obtain⟨a,e2,m2,l2⟩:=L32 bits 7 0 rfl (by omega) [] (by simp) (by simp);rw[g32L0e]at e1 e2;simp at e1 e2
 have key:∀S,S=(az AP).p 32 [vI bits]->S=some [.aq (b.map Dt.pv)]\/S=some [.aq (a.map Dt.pv)]:=by
  intro S hS;rw[aw g32]at hS;simp[-getElem?_pos,g32,hp,g32L0e,hx,e1,e2,YL]at hS;subst hS
  (repeat' split)<;>simp
 rcases key _ rfl with h|h
 .exact⟨b,h,c,l1⟩
 .exact⟨a,h,m2,l2⟩
def Ty.av(t:Ty):AV:=.agg [.pv (vI t.kind),.pv (.str t.name),.pv (vI t.id),.pv (vI t.home),.pv (.aq (t.args.map Ty.pv))]
@[simp] theorem Ty.aa8(t:Ty):t.av=.agg [.pv (vI t.kind),.pv (.str t.name),.pv (vI t.id),.pv (vI t.home),.pv (.aq (t.args.map Ty.pv))]:=rfl
def mY{r:Int}{n:Nat}(h0:0<=r)(h1:r<n):∃m:Nat,r=m/\m<n:=⟨r.toNat,by omega,by omega⟩
inductive Ty.Ok:Ty->Prop
 |mk {t:Ty}:Sm t.args->(∀x∈t.args,Ty.Ok x)->Ty.Ok t
def Ty.Ok.sm{t:Ty}(h:t.Ok):Sm t.args:=by cases h;assumption
def Ty.Ok.d6{t:Ty}(h:t.Ok):∀x∈t.args,x.Ok:=by cases h;assumption
inductive Ty.Wf:Ty->Prop
 |mk {t:Ty}:(t.kind=1->t.args=[])->(∀x∈t.args,Ty.Wf x)->Ty.Wf t
def Ty.Wf.var{t:Ty}(h:t.Wf):t.kind=1->t.args=[]:=by cases h;assumption
def Ty.Wf.d6{t:Ty}(h:t.Wf):∀x∈t.args,x.Wf:=by cases h;assumption
def ll:List As->Int->Option Ty
 |[],_=>none
 |a::r,id=>if a.id=id then some a.ty else ll r id
mutual
def Ty.sub(s:List As):Ty->Ty
 |⟨k,n,i,h,as⟩=>if k=1 then(ll s i).getD ⟨k,n,i,h,as⟩else⟨k,n,i,h,Ty.O6 s as⟩
def Ty.O6(s:List As):List Ty->List Ty
 |[]=>[]
 |a::r=>a.sub s::Ty.O6 s r
end
def Ty.C4(s:List As):∀l:List Ty,Ty.O6 s l=l.map (Ty.sub s)
 |[]=>by simp[Ty.O6]
 |a::r=>by simp[Ty.O6,Ty.C4 s r]
def Ty.sub_eq(s:List As)(t:Ty):t.sub s=if t.kind=1 then(ll s t.id).getD t else⟨t.kind,t.name,t.id,t.home,t.args.map (Ty.sub s)⟩:=by
 cases t;simp only[Ty.sub,Ty.C4]
def O7(s:List As)(t:Ty):Option Ty->Option (bh×St)
 |some a=>some (.ret,⟨[(4,.au 4 0)],[(4,[.pv (vI a.kind),.pv (.str a.name),.pv (vI a.id),.pv (vI a.home),.pv (.aq (a.args.map Ty.pv))])],[],[0]⟩)
 |none=>some (.exit 0,⟨[(1,.pv (.aq (s.map As.pv))),(2,.au 2 0),(4,.au 4 0),(5,.pv (vI s.length)),(14,.pv (.bool false))],
     [(2,[.pv (vI t.kind),.pv (.str t.name),.pv (vI t.id),.pv (vI t.home),.pv (.aq (t.args.map Ty.pv))]),(4,[.pv (vI 0),.pv (.str []),.pv (vI 0),.pv (vI 0),.own [] 0])],[],[0]⟩)
def YM{s:List As}(hS:Sm s)(t:Ty):∀(n i:Nat),s.length-i=n->i<=s.length->
   cl AP g46L0 ⟨[(1,.pv (.aq (s.map As.pv))),(2,.au 2 0),(4,.au 4 0),(5,.pv (vI i))],
     [(2,[.pv (vI t.kind),.pv (.str t.name),.pv (vI t.id),.pv (vI t.home),.pv (.aq (t.args.map Ty.pv))]),(4,[.pv (vI 0),.pv (.str []),.pv (vI 0),.pv (vI 0),.own [] 0])],[],[0]⟩=O7 s t (ll (s.drop i) t.id)
 |0,i,hn,hi=>by
  have:i=s.length:=by omega
  subst this;rw[g46L0e];simp[g46B0,ll,O7]
 |n+1,i,hn,hi=>by
  have hi:i<s.length:=(by omega);obtain⟨x,hx⟩:=aQ hi;unfold Sm at hS;have a:=YM hS t n (i+1) (by omega) (by omega);simp at a;rw[g46L0e,aR hx];by_cases e:x.id=t.id
  .simp(disch:=omega)[-getElem?_pos,g46B0,hx,hi,e,ll,O7]
  .simp(disch:=omega)[-getElem?_pos,g46B0,hx,hi,e,ll,ae,a]
def YN{s:List As}{t:Ty}(hS:Sm t.args)(h:∀x∈t.args,(az AP).p 46 [x.pv,.aq (s.map As.pv)]=some [(x.sub s).pv]):∀(n i:Nat),t.args.length-i=n->i<=t.args.length->∀acc:List Ty,acc=(t.args.take i).map (Ty.sub s)->
   cl AP g46L1 ⟨[(1,.pv (.aq (s.map As.pv))),(2,.au 2 0),(4,.au 4 0),(6,.au 6 0),(7,.pv (vI i))],
     [(2,[.pv (vI t.kind),.pv (.str t.name),.pv (vI t.id),.pv (vI t.home),.pv (.aq (t.args.map Ty.pv))]),(4,[.pv (vI 0),.pv (.str []),.pv (vI 0),.pv (vI 0),.own [] 0]),
       (6,[.pv (vI t.kind),.pv (.str t.name),.pv (vI t.id),.pv (vI t.home),.own (acc.map Ty.pv) 1])],[],[0,acc.length]⟩=
     some (.exit 2,⟨[(1,.pv (.aq (s.map As.pv))),(2,.au 2 0),(4,.au 4 0),(6,.au 6 0),(7,.pv (vI t.args.length)),(37,.pv (.bool false))],
     [(2,[.pv (vI t.kind),.pv (.str t.name),.pv (vI t.id),.pv (vI t.home),.pv (.aq (t.args.map Ty.pv))]),(4,[.pv (vI 0),.pv (.str []),.pv (vI 0),.pv (vI 0),.own [] 0]),
       (6,[.pv (vI t.kind),.pv (.str t.name),.pv (vI t.id),.pv (vI t.home),.own ((t.args.map (Ty.sub s)).map Ty.pv) 1])],[],[0,t.args.length]⟩)
 |0,i,hn,hi,acc,a=>by
  have:i=t.args.length:=by omega
  subst this;subst a;rw[g46L1e];simp[g46B1]
 |n+1,i,hn,hi,acc,a=>by
  have hi:i<t.args.length:=(by omega);obtain⟨x,hx⟩:=aQ hi;unfold Sm at hS;have c:(acc.length+1)*64<=140737488355328:=by subst a;simp;omega
  have hc:=h x (aK hx);have b:=YN hS h n (i+1) (by omega) (by omega) (acc++[x.sub s]) (by rw[zaU,hx,a];simp);rw[g46L1e]at b⊢;simp at b hc;simp(disch:=omega)[-getElem?_pos,g46B1,hx,hi,hc,c,ae];rw[g46L1e];simp[b]
def c46{s:List As}(hS:Sm s){t:Ty}(c:t.Ok):(az AP).p 46 [t.pv,.aq (s.map As.pv)]=some [(t.sub s).pv]:=by
 revert c
 refine Ty.cD (p:=fun t=>t.Ok->(az AP).p 46 [t.pv,.aq (s.map As.pv)]=some [(t.sub s).pv]) ?_ t;intro t d c;rw[aw g46];by_cases b:t.kind=1
 .have h:=YM hS t _ 0 rfl (by omega);rw[g46L0e]at h;simp at h;cases hf:ll s t.id with
  |none=>
   rw[hf]at h;simp[O7,b]at h;simp[g46,b,g46L0e,h,Ty.sub_eq,hf]
  |some a=>
   rw[hf]at h;simp[O7,b]at h;simp[g46,b,g46L0e,h,Ty.sub_eq,hf]
 .have h:=YN (s:=s) c.sm (fun x hx=>d x hx (c.d6 x hx)) _ 0 rfl (by omega) [] (by simp);rw[g46L1e]at h;simp at h;simp[g46,b,g46L1e,h,Ty.sub_eq]
def aG(sh:Sh):Prop:=∀cs,some cs∈sh->∀v∈cs,∃p,v=AV.pv p
theorem nF{aH ts:aF}:∀{cs:List AV},(∀v∈cs,∃p,v=AV.pv p)->br aH ts cs=(cs,aH,ts)
 |[],_=>rfl
 |v::r,h=>by
  obtain⟨p,rfl⟩:=h v (by simp);simp only[vF,Cj,nF (cs:=r) (fun v hv=>h v (by simp[hv]))]
theorem aG.norm:∀{sh:Sh},aG sh->∀aH ts,bg aH ts sh=(sh,aH,ts)
 |[],_,_,_=>rfl
 |none::sh,h,aH,ts=>by
  simp only[vG,aG.norm (sh:=sh) (fun cs hc=>h cs (by simp[hc]))]
 |some cs::sh,h,aH,ts=>by
  simp only[vH,nF (h cs (by simp)),aG.norm (sh:=sh) (fun cs hc=>h cs (by simp[hc]))]
theorem rU{n:Nat}:∀{cs:List AV},(∀v∈cs,∃p,v=AV.pv p)->cs.map (cY n)=cs
 |[],_=>rfl
 |v::r,h=>by
  obtain⟨p,rfl⟩:=h v (by simp);simp only[zal,xS,rU (cs:=r) (fun v hv=>h v (by simp[hv]))]
theorem aG.shift:∀{sh:Sh},aG sh->∀n,dU n sh=sh
 |[],_,_=>rfl
 |none::sh,h,n=>by
  simp only[s_,aG.shift (sh:=sh) (fun cs hc=>h cs (by simp[hc]))]
 |some cs::sh,h,n=>by
  simp only[tc,rU (h cs (by simp)),aG.shift (sh:=sh) (fun cs hc=>h cs (by simp[hc]))]
def aG.app{a b:Sh}(d:aG a)(c:aG b):aG (a++b):=by
 intro cs hc;simp only[zaz]at hc;rcases hc with hc|hc
 .exact d cs hc
 .exact c cs hc
def aG.one{cs:List AV}(h:∀v∈cs,∃p,v=AV.pv p):aG [some cs]:=by
 intro a hc;simp at hc;subst hc;exact h
@[simp] theorem aaL{α:Type}{l:List α}{x:α}:(l++[x])[l.length]?=some x:=by simp
def Ty.cl(t:Ty):List AV:=[.pv (vI t.kind),.pv (.str t.name),.pv (vI t.id),.pv (vI t.home),.pv (.aq (t.args.map Ty.pv))]
def zcl:List AV:=[.pv (vI 0),.pv (.str []),.pv (vI 0),.pv (vI 0),.pv (.aq [])]
def lp(d:List Ty)(m:Nat):List AV:=d.flatMap Ty.cl++(List.replicate m zcl).flatten
theorem O8{d:List Ty}:(d.flatMap Ty.cl).length=d.length*5:=by
 induction d with
 |nil=>rfl
 |cons a r b=>simp[b,Ty.cl,zaI]
def R'{m:Nat}:((List.replicate m zcl).flatten).length=m*5:=by
 simp[zcl]
def C5{d:List Ty}{m:Nat}:(lp d m).length=(d.length+m)*5:=by
 simp only[lp,zad,O8,R',zaI]
def Ac{d:List Ty}{m:Nat}:∀v∈lp d m,∃p,v=AV.pv p:=by
 intro v hv;simp only[lp,zaz,zaC,zb1,zbB]at hv;rcases hv with⟨t,_,hv⟩|⟨l,⟨_,rfl⟩,hv⟩
 .simp[Ty.cl]at hv;rcases hv with rfl|rfl|rfl|rfl|rfl<;>exact⟨_,rfl⟩
 .simp[zcl]at hv;rcases hv with rfl|rfl|rfl|rfl|rfl<;>exact⟨_,rfl⟩
theorem bw{l:List AV}(h:∀v∈l,∃p,v=.pv p):bW l=false:=by
 cases l with
 |nil=>rfl
 |cons c r=>obtain⟨p,rfl⟩:=h c (by simp);rfl
@[simp] theorem XK{d:List Ty}{m:Nat}:bW (lp d m)=false:=bw Ac
def O9{a b:List AV}{x y:List PV}(c:eX a=some x)(e:eX b=some y):eX (a++b)=some (x++y):=by
 induction a generalizing x with
 |nil=>simp at c;subst c;exact e
 |cons v r d=>
  simp only[rM]at c;simp only[zbb,rM];cases h1:l6 v with
  |none=>rw[h1]at c;cases c
  |some p=>
   cases h2:eX r with
   |none=>rw[h1,h2]at c;cases c
   |some q=>
    rw[h1,h2]at c;simp at c;subst c;rw[d h2];rfl
def O_:∀{d:List Ty},((eX (lp d 0)).bind (d9 5 true d.length)).map PV.aq=some (.aq (d.map Ty.pv)):=by
 have key:∀d:List Ty,∃ps,eX (d.flatMap Ty.cl)=some ps/\(chunk 5 d.length ps).map PV.agg=d.map Ty.pv:=by
  intro d;induction d with
  |nil=>exact⟨[],rfl,rfl⟩
  |cons t r a=>
   obtain⟨ps,h1,h2⟩:=a;refine⟨[vI t.kind,.str t.name,vI t.id,vI t.home,.aq (t.args.map Ty.pv)]++ps,?_,?_⟩
   .rw[zav];exact O9 (by simp[Ty.cl]) h1
   .simp only[zae,chunk];simp[h2]
 intro d;obtain⟨ps,h1,h2⟩:=key d;have:lp d 0=d.flatMap Ty.cl:=by simp[lp]
 rw[this,h1];simp only[zbg,d9,zbc,zaT,h2]
def c22{s:List As}(hS:Sm s){t:Ty}(a:t.Ok):(az AP).p 22 [.aq (s.map As.pv),t.pv]=some [(t.sub s).pv]:=by
 have h:=c46 hS a;simp at h;rw[aw g22];simp[g22,h]
noncomputable instance:DecidableEq As:=fun _ _=>Classical.propDecidable _
def L57{as bs:List Ty}(hS:Sm as)(hl:as.length=bs.length)(h:∀x∈as,∀y,(az AP).p 20 [x.pv,y.pv]=some [.bool (decide (x=y))]):∀(n i:Nat),as.length-i=n->i<=as.length->
   cl AP g57L0 ⟨[(0,.pv (.aq (as.map Ty.pv))),(1,.pv (.aq (bs.map Ty.pv))),(5,.pv (.int .i64 i))],[],[],[]⟩=
     if as.drop i=bs.drop i then some (.exit 0,⟨[(0,.pv (.aq (as.map Ty.pv))),(1,.pv (.aq (bs.map Ty.pv))),(5,.pv (.int .i64 as.length)),(14,.pv (.bool false))],[],[],[]⟩)
     else some (.ret,⟨[(4,.pv (.bool false))],[],[],[]⟩)
 |0,i,hn,hi=>by
  have:i=as.length:=by omega
  subst this;rw[g57L0e];simp[g57B0,hl]
 |n+1,i,hn,hi=>by
  have hi:i<as.length:=(by omega);obtain⟨x,hx⟩:=aQ hi;obtain⟨y,hy⟩:=aQ (hl ▸ hi);have hc:=h x (aK hx) y;simp at hc;rw[g57L0e,aR hx,aR hy];unfold Sm at hS;have a:=L57 hS hl h n (i+1) (by omega) (by omega);simp at a;simp(disch:=omega)[-getElem?_pos,g57B0,hx,hy,hi,hc,ae,a];by_cases e:x=y<;>simp[e]
def c57{as bs:List Ty}(hS:Sm as)(h:∀x∈as,∀y,(az AP).p 20 [x.pv,y.pv]=some [.bool (decide (x=y))]):
   (az AP).p 57 [.aq (as.map Ty.pv),.aq (bs.map Ty.pv)]=some [.bool (decide (as=bs))]:=by
 rw[aw g57];by_cases hl:as.length=bs.length
 .have a:=L57 hS hl h _ 0 rfl (by omega);simp at a;simp[g57,hl,a];by_cases e:as=bs<;>simp[e]
 .have:¬as=bs:=fun e=>hl (by rw[e]);simp[g57,hl,this];omega
def c20{a b:Ty}(c:a.Ok):(az AP).p 20 [a.pv,b.pv]=some [.bool (decide (a=b))]:=by
 revert b c
 refine Ty.cD (p:=fun a=>∀{b:Ty},a.Ok->(az AP).p 20 [a.pv,b.pv]=some [.bool (decide (a=b))]) ?_ a;intro a d b c;have h:=c57 (bs:=b.args) c.sm (fun x hx y=>d x hx (c.d6 x hx));rw[aw g20];simp[g20,h];cases a;cases b;simp
 (repeat' split)<;>simp_all
def jc(a b:Int):Int:=if a<b then -1 else if b<a then 1 else 0
def v9(a b:List UInt8):Int:=if cP.eJ a b=true then -1 else if a=b then 0 else 1
def D5:List Int->Int
 |[]=>0
 |x::r=>if x=0 then D5 r else x
mutual
def oQ:Ty->Ty->Int
 |⟨k,n,i,h,as⟩,b=>if D5 [jc k b.kind,v9 n b.name,jc i b.id,jc h b.home,jc as.length b.args.length]=0 then qE as b.args
     else D5 [jc k b.kind,v9 n b.name,jc i b.id,jc h b.home,jc as.length b.args.length]
def qE:List Ty->List Ty->Int
 |[],[]=>0
 |[],_::_=>-1
 |_::_,[]=>1
 |a::r,b::s=>if oQ a b=0 then qE r s else oQ a b
end
def Ae(a b:Ty):Int:=D5 [jc a.kind b.kind,v9 a.name b.name,jc a.id b.id,jc a.home b.home,jc a.args.length b.args.length]
def Af(a b:Ty):oQ a b=if Ae a b=0 then qE a.args b.args else Ae a b:=by
 cases a;simp only[oQ,Ae];rfl
def c113{n:Int}:(az AP).p 113 [vI n]=some [.bool false]:=by
 rw[aw g113];simp[g113]
def c114{n:List UInt8}:(az AP).p 114 [.str n]=some [.bool false]:=by
 rw[aw g114];simp[g114]
def c81{a b:Int}:(az AP).p 81 [vI a,vI b]=some [vI (jc a b)]:=by
 have h1:=c113 (n:=a);have h2:=c113 (n:=b);rw[aw g81];simp[g81,h1,h2,jc]
 (repeat' split)<;>rfl
def c82{a b:List UInt8}:(az AP).p 82 [.str a,.str b]=some [vI (v9 a b)]:=by
 have h1:=c114 (n:=a);have h2:=c114 (n:=b);rw[aw g82];by_cases e1:cP.eJ a b=true
 .simp[g82,h1,h2,v9,e1]
 .have e1:cP.eJ a b=false:=(by simpa using e1);by_cases e2:a=b
  .subst e2;simp[g82,h1,h2,v9,e1]
  .simp[g82,h1,h2,v9,e1,e2]
def c80{a b c d e:Int}:(az AP).p 80 [.aq [vI a,vI b,vI c,vI d,vI e]]=some [vI (D5 [a,b,c,d,e])]:=by
 rw[aw g80];by_cases h1:a=0
 .by_cases h2:b=0
  .by_cases h3:c=0
   .by_cases h4:d=0
    .by_cases h5:e=0
     .simp(disch:=omega)[-getElem?_pos,g80,g80L0e,g80B0,ae,D5,h1,h2,h3,h4,h5]
     .simp(disch:=omega)[-getElem?_pos,g80,g80L0e,g80B0,ae,D5,h1,h2,h3,h4,h5]
    .simp(disch:=omega)[-getElem?_pos,g80,g80L0e,g80B0,ae,D5,h1,h2,h3,h4]
   .simp(disch:=omega)[-getElem?_pos,g80,g80L0e,g80B0,ae,D5,h1,h2,h3]
  .simp(disch:=omega)[-getElem?_pos,g80,g80L0e,g80B0,ae,D5,h1,h2]
 .simp(disch:=omega)[-getElem?_pos,g80,g80L0e,g80B0,ae,D5,h1]
def YO(as bs:List Ty)(sh:Sh)(l:Int)(c:Int)(eq:Bool):Option (bh×St):=
 if eq=true then some (.exit 0,⟨[(0,.pv (.aq (as.map Ty.pv))),(1,.pv (.aq (bs.map Ty.pv))),(2,.fn 35 []),(11,.pv (.aq (as.map Ty.pv))),(12,.pv (vI l)),(13,.pv (vI l)),(14,.pv (.bool false))],[],sh,[]⟩)
 else some (.ret,⟨[(6,.pv (vI c))],[],sh,[]⟩)
def L83{as bs:List Ty}(hS:Sm as)(hl:as.length=bs.length)(h:∀x∈as,∀y,(az AP).i 35 [.pv x.pv,.pv y.pv] [] []=some ([.pv (vI (oQ x y))],[],[])):∀(n i:Nat),as.length-i=n->i<=as.length->
   cl AP g83L0 ⟨[(0,.pv (.aq (as.map Ty.pv))),(1,.pv (.aq (bs.map Ty.pv))),(2,.fn 35 []),(11,.pv (.aq (as.map Ty.pv))),(12,.pv (vI as.length)),(13,.pv (vI i))],[],[],[]⟩=
     YO as bs [] as.length (qE (as.drop i) (bs.drop i)) (decide (qE (as.drop i) (bs.drop i)=0))
 |0,i,hn,hi=>by
  have:i=as.length:=by omega
  subst this;rw[g83L0e,jb (l:=bs) (by omega)];simp[g83B0,YO,qE]
 |n+1,i,hn,hi=>by
  have hi:i<as.length:=(by omega);obtain⟨x,hx⟩:=aQ hi;obtain⟨y,hy⟩:=aQ (hl ▸ hi);have hc:=h x (aK hx) y;have a:=L83 hS hl h n (i+1) (by omega) (by omega);unfold Sm at hS;have b:¬bs.length<=i:=(by omega);rw[g83L0e]at a⊢;rw[aR hx,aR hy];simp at a hc;by_cases e:oQ x y=0
  .rw[e]at hc;simp(disch:=omega)[-getElem?_pos,g83B0,hx,hy,hi,b,hc,ae];rw[g83L0e];simp[a,qE,e]
  .simp(disch:=omega)[-getElem?_pos,g83B0,hx,hy,hi,b,hc,ae,e,YO,qE]
def O'{a b:Ty}(h:Ae a b=0):a.args.length=b.args.length:=by
 simp only[Ae,D5]at h
 have:jc a.args.length b.args.length=0:=by
  split at h
  .split at h
   .split at h
    .split at h
     .split at h
      .assumption
      .contradiction
     .contradiction
    .contradiction
   .contradiction
  .contradiction
 unfold jc at this;split at this
 .cases this
 .split at this
  .cases this
  .omega
def c35_both{a:Ty}(g:a.Ok):∀b:Ty,(az AP).p 35 [a.pv,b.pv]=some [vI (oQ a b)]/\(az AP).i 35 [.pv a.pv,.pv b.pv] [] []=some ([.pv (vI (oQ a b))],[],[]):=by
 revert g
 refine Ty.cD (p:=fun a=>a.Ok->∀b:Ty,(az AP).p 35 [a.pv,b.pv]=some [vI (oQ a b)]/\(az AP).i 35 [.pv a.pv,.pv b.pv] [] []=some ([.pv (vI (oQ a b))],[],[])) ?_ a;intro a k g b;have k1:=c81 (a:=a.kind) (b:=b.kind);have k2:=c82 (a:=a.name) (b:=b.name);have k3:=c81 (a:=a.id) (b:=b.id);have k4:=c81 (a:=a.home) (b:=b.home);have k5:=c81 (a:=a.args.length) (b:=b.args.length);have k6:=c80 (a:=jc a.kind b.kind) (b:=v9 a.name b.name) (c:=jc a.id b.id) (d:=jc a.home b.home) (e:=jc a.args.length b.args.length);have l:D5 [jc a.kind b.kind,v9 a.name b.name,jc a.id b.id,jc a.home b.home,jc a.args.length b.args.length]=Ae a b:=rfl;rw[l]at k6;have hS:=g.sm;by_cases e:Ae a b=0
 .have hl:=O' e;have h:=L83 hS hl (fun x hx y=>(k x hx (g.d6 x hx) y).2) _ 0 rfl (by omega);rw[g83L0e]at h;simp at h
  have f:(az AP).i 83 [.pv (.aq (a.args.map Ty.pv)),.pv (.aq (b.args.map Ty.pv)),.fn 35 []] [] []=some ([.pv (vI (qE a.args b.args))],[],[]):=by
   rw[aM g83];by_cases e2:qE a.args b.args=0
   .simp[YO,e2]at h;have j:¬a.args.length<b.args.length:=by omega
    simp[g83,g83L0e,h,j,e2]
   .simp[YO,e2]at h;simp[g83,g83L0e,h]
  rw[e]at k6;rw[Af,zan e];constructor
  .rw[aw g35];simp[g35,k1,k2,k3,k4,k5,k6,f]
  .rw[aM g35];simp[g35,k1,k2,k3,k4,k5,k6,f]
 .rw[Af,zai e];constructor
  .rw[aw g35];simp[g35,k1,k2,k3,k4,k5,k6,e]
  .rw[aM g35];simp[g35,k1,k2,k3,k4,k5,k6,e]
def c35{a b:Ty}(c:a.Ok):(az AP).p 35 [a.pv,b.pv]=some [vI (oQ a b)]:=(c35_both c b).1
def c33{a b:Ty}(c:a.Ok):(az AP).p 33 [a.pv,b.pv]=some [.bool (oQ a b == 0)]:=by
 have h:=c35 (b:=b) c;simp at h;rw[aw g33];simp[g33,h]
def kT:∀{s:List As}{id:Int}{t:Ty},ll s id=some t->∃a∈s,a.ty=t
 |a::r,id,t,h=>by
  simp only[ll]at h;split at h
  .cases h;exact⟨a,by simp,rfl⟩
  .obtain⟨b,c,e⟩:=kT h;exact⟨b,by simp[c],e⟩
def Hc{s:List As}(hs:∀a∈s,a.ty.Ok){t:Ty}(h:t.Ok):(t.sub s).Ok:=by
 revert h
 refine Ty.cD (p:=fun t=>t.Ok->(t.sub s).Ok) ?_ t;intro t c h;rw[Ty.sub_eq];split
 .cases hf:ll s t.id with
  |none=>simpa using h
  |some a=>obtain⟨b,d,rfl⟩:=kT hf;simpa using hs b d
 .refine⟨by have:=h.sm;unfold Sm at*;simpa using this,?_⟩;intro x hx;simp at hx;obtain⟨y,hy,rfl⟩:=hx;exact c y hy (h.d6 y hy)
def Ag:∀{a b:List As}{id:Int},ll (a++b) id=(ll a id).or (ll b id)
 |[],b,id=>by simp[ll]
 |x::a,b,id=>by
  simp only[zbb,ll];split
  .rfl
  .exact Ag
theorem tz:∀s:List UInt8,cP.eJ s s=false
 |[]=>rfl
 |a::r=>by simp[cP.eJ,tz r]
def Me{a b:Int}:jc a b=0<->a=b:=by
 unfold jc;split
 .constructor
  .intro h;cases h
  .intro h;omega
 .split
  .constructor
   .intro h;cases h
   .intro h;omega
  .constructor
   .intro _;omega
   .intro _;rfl
def Mf{a b:List UInt8}:v9 a b=0<->a=b:=by
 unfold v9;split
 .rename_i h;constructor
  .intro e;cases e
  .intro e;subst e;rw[tz]at h;cases h
 .split
  .rename_i h;simp[h]
  .rename_i h;simp[h]
def C6:∀{l:List Int},D5 l=0<->∀x∈l,x=0
 |[]=>by simp[D5]
 |x::r=>by
  simp only[D5];split
  .rename_i h;rw[C6];simp[h]
  .rename_i h;constructor
   .intro e;exact absurd e h
   .intro e;exact e x (by simp)
def ye{a b:Ty}:Ae a b=0<->a.kind=b.kind/\a.name=b.name/\a.id=b.id/\a.home=b.home/\a.args.length=b.args.length:=by
 unfold Ae;rw[C6];simp[Me,Mf]
 intros;omega
def yg(a:Ty):∀b,oQ a b=0<->a=b:=by
 refine Ty.cD (p:=fun a=>∀b,oQ a b=0<->a=b) ?_ a;intro a d b
 have key:∀(as bs:List Ty),(∀x∈as,∀b,oQ x b=0<->x=b)->(qE as bs=0<->as=bs):=by
  intro as;induction as with
  |nil=>intro bs _;cases bs<;>simp[qE]
  |cons x r d=>
   intro bs h;cases bs with
   |nil=>simp[qE]
   |cons y s=>
    simp only[qE];have hx:=h x (by simp) y;have hr:=d s (fun z hz=>h z (by simp[hz]));split
    .rename_i e;rw[hr];simp[hx.1 e]
    .rename_i e;constructor
     .intro c;exact absurd c e
     .intro c;simp at c;exact absurd (hx.2 c.1) e
 rw[Af];split
 .rename_i h;rw[key _ _ d];rw[ye]at h;cases a;cases b;simp at h⊢;simp[h]
 .rename_i h;constructor
  .intro e;exact absurd e h
  .intro e;subst e;exact absurd (ye.2 ⟨rfl,rfl,rfl,rfl,rfl⟩) h
def Pa(a b:Ty):(oQ a b == 0)=decide (a=b):=by
 by_cases h:a=b
 .rw[za2 h,(yg a b).2 h];rfl
 .rw[zaY h];simpa using fun e=>h ((yg a b).1 e)
def c33e{a b:Ty}(c:a.Ok):(az AP).p 33 [a.pv,b.pv]=some [.bool (decide (a=b))]:=by rw[c33 c,Pa]
def bS{α:Type}(p:α->Bool):List α->Option Nat
 |[]=>none
 |a::r=>if p a=true then some 0 else(bS p r).map (·+1)
def iM{α:Type}{p:α->Bool}:∀{l:List α},bS p l=none<->∀x∈l,p x=false
 |[]=>by simp[bS]
 |a::r=>by
  simp only[bS];by_cases h:p a=true
  .simp[h]
  .have h:p a=false:=(by simpa using h);simp[h,iM]
theorem ui{α:Type}{p:α->Bool}{l:List α}:(!(l.any fun x=>!p x))=l.all p:=by
 induction l with
 |nil=>rfl
 |cons a r b=>simp[<-b]
structure El{α:Type}(f:α->PV)(sz:Nat)(ag:Bool):Prop where
 len:∀x,(aZ (f x)).length=sz
 of:∀x,cR ag sz (aZ (f x))=some (.pv (f x))
theorem El.head{α:Type}{f:α->PV}{sz:Nat}{ag:Bool}(h:El f sz ag)(l:List α):bl sz (l.map f)=true:=by
 cases l with
 |nil=>rfl
 |cons x r=>simp[bl,h.len x]
def lq:El vI 1 false:=⟨fun _=>rfl,fun _=>rfl⟩
def mB:El PV.str 1 false:=⟨fun _=>rfl,fun _=>rfl⟩
def C7:El Ty.pv 5 true:=⟨fun x=>by simp,fun x=>by simp⟩
def Ub:El Dt.pv 4 true:=⟨fun x=>by simp,fun x=>by simp⟩
def Ah(sz:Nat)(ag:Bool):ah:=
 (.seq
  (.jf [⟨some 9,none,[.t 8,.t 7],.v (.bin .lss)⟩] [0,1,7,8,9])
  (.seq
   (.cond (.t 9)
    .skip
    (.exit 0))
   (.seq
    (.block 1
     (.seq
      (.jf [⟨some 10,none,[.t 8],.v (.mv)⟩,
        ⟨some 5,none,[.t 10],.v (.mv)⟩] [0,1,5,7,8])
      (.seq
       (.jf [⟨some 11,none,[.t 1],.v (.mv)⟩,
         ⟨some 12,none,[.t 0],.v (.mv)⟩,
         ⟨some 13,none,[.t 5],.v (.mv)⟩,
         ⟨some 14,none,[.t 12,.t 13],.v (.eK sz)⟩,
         ⟨some 15,none,[.t 14],.eg sz ag⟩,
         ⟨some 16,none,[.t 11,.t 15],.gk⟩] [0,1,5,7,8,16])
       (.cond (.t 16)
        (.seq
         (.jf [⟨some 17,none,[.t 5],.v (.mv)⟩,
           ⟨some 4,none,[.t 17],.v (.mv)⟩] [4])
         .ret)
        .skip))))
    (.jf [⟨some 18,none,[.t 8,.c (.pv (.int .i64 1))],.v (.bin .add)⟩,
      ⟨some 8,none,[.t 18],.v (.mv)⟩] [0,1,7,8]))))
def Pb(sz:Nat)(ag:Bool):ah:=.loop [0,1,7,8] (Ah sz ag)
def qF{sz:Nat}{ag:Bool}{st:St}:cl AP (Pb sz ag) st=after (cl AP (Pb sz ag)) (cl AP (Ah sz ag) (norm (restrict [0,1,7,8] st))):=uc
def tT(sz:Nat)(ag:Bool):aA:=⟨2,19,[.t 4],
 (.seq
  (.jf [⟨some 4,none,[.c (.pv (.int .i64 0))],.v (.mv)⟩] [0,1])
  (.seq
   (.seq
    (.jf [⟨some 6,none,[.t 0],.v (.mv)⟩,
      ⟨some 7,none,[.t 6],.v (.len)⟩,
      ⟨some 8,none,[.c (.pv (.int .i64 0))],.v (.mv)⟩] [0,1,7,8])
    (.block 0
     (Pb sz ag)))
   (.seq
    (.jf [⟨some 4,none,[.c (.pv (.int .i64 (-1)))],.v (.mv)⟩] [4])
    .ret))),none,false⟩
def Wg(g:Nat):aA:=⟨2,9,[.t 4],
 (.seq
  (.jf [⟨some 4,none,[.c (.pv (.bool false))],.v (.mv)⟩] [0,1])
  (.seq
   (.jf [⟨some 5,none,[.t 0],.v (.mv)⟩,
     ⟨some 6,none,[.t 1],.v (.mv)⟩,
     ⟨some 7,none,[.t 5,.t 6],.bB g []⟩,
     ⟨some 8,none,[.t 7,.c (.pv (.int .i64 0))],.v (.bin .geq)⟩,
     ⟨some 4,none,[.t 8],.v (.mv)⟩] [4])
   .ret)),none,false⟩
def Ai{α:Type}(F:AV)(sh:Sh)(f:α->PV)(p:α->Bool)(s:List α):Prop:=∀x∈s,exec (az AP) .gk [F,.pv (f x)] none sh []=some ⟨.pv (.bool (p x)),none,sh,[]⟩
def Mg{α:Type}(f:α->PV)(F:AV)(s:List α)(sh:Sh)(i:Nat):Option Nat->Option (bh×St)
 |some k=>some (.ret,⟨[(4,.pv (vI (i+k:Nat)))],[],sh,[]⟩)
 |none=>some (.exit 0,⟨[(0,.pv (.aq (s.map f))),(1,F),(7,.pv (vI s.length)),(8,.pv (vI s.length)),(9,.pv (.bool false))],[],sh,[]⟩)
theorem YP{α:Type}{f:α->PV}{sz:Nat}{ag:Bool}(b:El f sz ag){s:List α}(hS:Sm s){sh:Sh}(c:aG sh){g:Nat}{cap:List AV}{p:α->Bool}(a:bI.eL cap=true)
   (hf:Ai (.fn g cap) sh f p s):∀(n i:Nat),s.length-i=n->i<=s.length->
   cl AP (Pb sz ag) ⟨[(0,.pv (.aq (s.map f))),(1,.fn g cap),(7,.pv (vI s.length)),(8,.pv (vI i))],[],sh,[]⟩=Mg f (.fn g cap) s sh i (bS p (s.drop i))
 |0,i,hn,hi=>by
  have:i=s.length:=by omega
  subst this;rw[qF];simp[Ah,bS,Mg,c.norm,a]
 |n+1,i,hn,hi=>by
  have hi:i<s.length:=(by omega);obtain⟨x,hx⟩:=aQ hi;unfold Sm at hS;have d:=YP b hS c a hf n (i+1) (by omega) (by omega);simp at d;have hc:=hf x (aK hx);rw[qF,aR hx];cases e:p x with
  |true=>
   rw[e]at hc;simp(disch:=omega)[-getElem?_pos,-eZ,Ah,hx,hi,e,bS,Mg,c.norm,hc,a,b.len,b.of]
  |false=>
   rw[e]at hc;simp(disch:=omega)[-getElem?_pos,-eZ,Ah,hx,hi,e,bS,ae,c.norm,hc,d,a,b.len,b.of];cases bS p (s.drop (i+1))with
   |none=>rfl
   |some k=>simp[Mg];omega
def lr(o:Option Nat):Int:=match o with|some k=>k|none=>-1
def YQ{α:Type}{f:α->PV}{sz:Nat}{ag:Bool}(d:El f sz ag){k:Nat}(c:AP k=some (tT sz ag)){s:List α}(hS:Sm s){sh:Sh}(b:aG sh){g:Nat}{cap:List AV}{p:α->Bool}(a:bI.eL cap=true)
   (hf:Ai (.fn g cap) sh f p s):(az AP).i k [.pv (.aq (s.map f)),.fn g cap] sh []=some ([.pv (vI (lr (bS p s)))],sh,[]):=by
 have h:=YP d hS b a hf _ 0 rfl (by omega);simp at h;rw[gV c (by simp[tT])];cases hi:bS p s with
 |none=>rw[hi]at h;simp[Mg]at h;simp[tT,h,b.norm,a,lr]
 |some k=>rw[hi]at h;simp[Mg]at h;simp[tT,h,b.norm,a,lr]
theorem v_{α:Type}{p:α->Bool}{s:List α}:decide (0<=lr (bS p s))=s.any p:=by
 cases hi:bS p s with
 |none=>
  have:s.any p=false:=by rw[zbw];intro x hx;rw[iM.1 hi x hx];simp
  rw[this];rfl
 |some k=>
  have:s.any p=true:=by
   cases e:s.any p with
   |true=>rfl
   |false=>rw[zbw]at e;have:=iM.2 (fun x hx=>by simpa using e x hx);rw[hi]at this;cases this
  rw[this];simp[lr]
def Pc{α:Type}{f:α->PV}{sz:Nat}{ag:Bool}(j:El f sz ag){m k:Nat}(hm:AP m=some (Wg k))(e:AP k=some (tT sz ag)){s:List α}(hS:Sm s){sh:Sh}(d:aG sh){g:Nat}{cap:List AV}{p:α->Bool}(a:bI.eL cap=true)(b:ca.jq cap=true)(c:∀aH ts,br aH ts cap=(cap,aH,ts))
   (hf:Ai (.fn g cap) sh f p s):(az AP).i m [.pv (.aq (s.map f)),.fn g cap] sh []=some ([.pv (.bool (s.any p))],sh,[]):=by
 have h:=YQ j e hS d a hf;rw[gV hm (by simp[Wg])];rw[<-v_];simp[Wg,h,d.norm,d.shift,a,b,c]
def Pd(f:St->Option (bh×St))(live:List Nat)(pi px sz:Nat)(ag:Bool)(env:List (Nat×AV))(r:List (PV×Nat)):Option (bh×St)->Option (bh×St)
 |some (.normal,a)=>m_ f live pi px sz ag env r a
 |some (e,a)=>some (e,{a with env:=env})
 |none=>none
@[simp] theorem QX{f:St->Option (bh×St)}{live:List Nat}{pi px sz:Nat}{ag:Bool}{env:List (Nat×AV)}{r:List (PV×Nat)}{st:St}:Pd f live pi px sz ag env r (some (.normal,st))=m_ f live pi px sz ag env r st:=rfl
@[simp] theorem Wh{f:St->Option (bh×St)}{live:List Nat}{pi px sz:Nat}{ag:Bool}{env e:List (Nat×AV)}{r:List (PV×Nat)}{mem:List (Nat×List AV)}{sh:Sh}{aa:aF}:Pd f live pi px sz ag env r (some (.ret,⟨e,mem,sh,aa⟩))=some (.ret,⟨env,mem,sh,aa⟩):=rfl
@[simp] theorem XL{f:St->Option (bh×St)}{live:List Nat}{pi px sz:Nat}{ag:Bool}{env e:List (Nat×AV)}{mem:List (Nat×List AV)}{sh:Sh}{aa:aF}:m_ f live pi px sz ag env [] ⟨e,mem,sh,aa⟩=some (.normal,⟨env,mem,sh,aa⟩):=rfl
def aaM(g:St->Option (bh×St)):Option (bh×St)->Option (bh×St)
 |some (.normal,a)=>g a
 |_=>none
@[simp] theorem Uc{g:St->Option (bh×St)}{st:St}:aaM g (some (.normal,st))=g st:=rfl
abbrev vC(c:Int):PV:=.int .u8 c
def C8(c:Int):Bool:=decide (97<=c) && decide (c<=122)
def Mh(c:Int):Bool:=decide (65<=c) && decide (c<=90)
def Ir(c:Int):Bool:=decide (48<=c) && decide (c<=57)
def qG(c:Int):Bool:=C8 c || Mh c || Ir c || (c == 95)
def jm(s:List UInt8):Bool:=s.all fun b=>qG b.toNat
def yh:List (List UInt8):=[[100,97,116,97],[108,101,116],[114,101,99],[105,110],[99,97,115,101],[111,102],[101,110,100]]
def mC(s:List UInt8):Bool:=yh.contains s
def dY(s:List UInt8)(lo hi:Int):Bool:=match s with
 |[]=>false
 |b::r=>decide (lo<=b.toNat) && decide ((b.toNat:Int)<=hi) && decide ((b::r).length<=12) && jm (b::r) && !mC (b::r)
def c109{c:Int}:(az AP).p 109 [vC c]=some [.bool (C8 c)]:=by
 rw[aw g109];by_cases h:97<=c<;>simp[g109,C8,h]
def c111{c:Int}:(az AP).p 111 [vC c]=some [.bool (Mh c)]:=by
 rw[aw g111];by_cases h:65<=c<;>simp[g111,Mh,h]
def c124{c:Int}:(az AP).p 124 [vC c]=some [.bool (Ir c)]:=by
 rw[aw g124];by_cases h:48<=c<;>simp[g124,Ir,h]
def c117{c:Int}:(az AP).p 117 [vC c]=some [.bool (qG c)]:=by
 have h1:=c109 (c:=c);have h2:=c111 (c:=c);have h3:=c124 (c:=c);rw[aw g117];cases e1:C8 c
 .cases e2:Mh c
  .cases e3:Ir c
   .simp[e1,e2,e3]at h1 h2 h3;simp[g117,h1,h2,h3,qG,e1,e2,e3]
   .simp[e1,e2,e3]at h1 h2 h3;simp[g117,h1,h2,h3,qG,e1,e2,e3]
  .simp[e1,e2]at h1 h2;simp[g117,h1,h2,qG,e1,e2]
 .simp[e1]at h1;simp[g117,h1,qG,e1]
theorem tD{b:UInt8}{r:List UInt8}:jm (b::r)=(qG b.toNat && jm r):=rfl
theorem mD:jm []=true:=rfl
def YR{s:List UInt8}(hS:nE s):∀(n i:Nat),s.length-i=n->i<=s.length->
   cl AP g108L0 ⟨[(0,.pv (.str s)),(3,.pv (vI i))],[],[],[]⟩=
     if jm (s.drop i)=true then some (.exit 0,⟨[(0,.pv (.str s)),(3,.pv (vI s.length)),(7,.pv (.bool false))],[],[],[]⟩)
     else some (.ret,⟨[(2,.pv (.bool false))],[],[],[]⟩)
 |0,i,hn,hi=>by
  have:i=s.length:=by omega
  subst this;rw[g108L0e];simp[g108B0,mD]
 |n+1,i,hn,hi=>by
  have hi:i<s.length:=(by omega);obtain⟨x,hx⟩:=aQ hi;unfold nE at hS;have a:=YR hS n (i+1) (by omega) (by omega);simp at a;have hc:=c117 (c:=x.toNat);rw[g108L0e,aR hx,tD];cases e:qG x.toNat
  .rw[e]at hc;simp(disch:=omega)[-getElem?_pos,g108B0,hx,hi,hc,e]
  .rw[e]at hc;simp(disch:=omega)[-getElem?_pos,g108B0,hx,hi,hc,e,ae,a]
def c108{s:List UInt8}(hS:nE s):(az AP).p 108 [.str s]=some [.bool (jm s && !(s == []))]:=by
 have h:=YR hS _ 0 rfl (by omega);simp at h;rw[aw g108];cases e:jm s<;>simp[e]at h<;>simp[g108,h]
def c110{s:List UInt8}:(az AP).p 110 [.str s]=some [.bool (mC s)]:=by
 rw[aw g110];by_cases h1:s=[100,97,116,97]
 .subst h1;simp(disch:=omega)[-getElem?_pos,g110,g110L0e,g110B0,ae,mC,yh]
 .by_cases h2:s=[108,101,116]
  .subst h2;simp(disch:=omega)[-getElem?_pos,g110,g110L0e,g110B0,ae,mC,yh]
  .by_cases h3:s=[114,101,99]
   .subst h3;simp(disch:=omega)[-getElem?_pos,g110,g110L0e,g110B0,ae,mC,yh]
   .by_cases h4:s=[105,110]
    .subst h4;simp(disch:=omega)[-getElem?_pos,g110,g110L0e,g110B0,ae,mC,yh]
    .by_cases h5:s=[99,97,115,101]
     .subst h5;simp(disch:=omega)[-getElem?_pos,g110,g110L0e,g110B0,ae,mC,yh]
     .by_cases h6:s=[111,102]
      .subst h6;simp(disch:=omega)[-getElem?_pos,g110,g110L0e,g110B0,ae,mC,yh]
      .by_cases h7:s=[101,110,100]
       .subst h7;simp(disch:=omega)[-getElem?_pos,g110,g110L0e,g110B0,ae,mC,yh]
       .have f1:=zb4 h1;have f2:=zb4 h2;have f3:=zb4 h3;have d:=zb4 h4;have c:=zb4 h5;have b:=zb4 h6;have a:=zb4 h7;simp(disch:=omega)[-getElem?_pos,g110,g110L0e,g110B0,ae,mC,yh,h1,h2,h3,h4,h5,h6,h7,f1,f2,f3,d,c,b,a]
def c77{s:List UInt8}(hS:nE s):(az AP).p 77 [.str s]=some [.bool (dY s 97 122)]:=by
 have h1:=c108 hS;have h3:=c110 (s:=s);rw[aw g77];cases s with
 |nil=>simp[mD]at h1;simp[g77,h1,dY]
 |cons b r=>
  have h2:=c109 (c:=b.toNat);cases e1:jm (b::r)
  .simp[e1]at h1;simp[g77,h1,dY,e1]
  .simp[e1]at h1;cases e2:C8 b.toNat
   .rw[e2]at h2;have:(decide ((97:Int)<=b.toNat) && decide ((b.toNat:Int)<=122))=false:=e2;simp[g77,h1,h2,dY,this]
   .rw[e2]at h2;have:(decide ((97:Int)<=b.toNat) && decide ((b.toNat:Int)<=122))=true:=e2;by_cases e3:(b::r).length<=12
    .have d:(r.length:Int)+1<=12:=(by simp at e3;omega);have a:r.length+1<=12:=(by simpa using e3);cases e4:mC (b::r)<;>simp[e4]at h3<;>simp[g77,h1,h2,h3,d,a,e4,dY,this,e1]
    .have d:¬((r.length:Int)+1<=12):=(by simp at e3;omega);have a:¬(r.length+1<=12):=(by simpa using e3);simp[g77,h1,h2,d,a,dY,this,e1]
def Wi{b:UInt8}{r:List UInt8}(h:mC (b::r)=true):Mh b.toNat=false:=by
 simp only[mC,yh,zcq,zau,zbu,zci,zbH]at h;rcases h with⟨rfl,_⟩|⟨rfl,_⟩|⟨rfl,_⟩|⟨rfl,_⟩|⟨rfl,_⟩|⟨rfl,_⟩|⟨rfl,_⟩<;>rfl
def c78{s:List UInt8}(hS:nE s):(az AP).p 78 [.str s]=some [.bool (dY s 65 90)]:=by
 have h1:=c108 hS;rw[aw g78];cases s with
 |nil=>simp[mD]at h1;simp[g78,h1,dY]
 |cons b r=>
  have h2:=c111 (c:=b.toNat);cases e1:jm (b::r)
  .simp[e1]at h1;simp[g78,h1,dY,e1]
  .simp[e1]at h1;cases e2:Mh b.toNat
   .rw[e2]at h2;have:(decide ((65:Int)<=b.toNat) && decide ((b.toNat:Int)<=90))=false:=e2;simp[g78,h1,h2,dY,this]
   .rw[e2]at h2;have:(decide ((65:Int)<=b.toNat) && decide ((b.toNat:Int)<=90))=true:=e2
    have e4:mC (b::r)=false:=by
     cases e:mC (b::r)
     .rfl
     .rw[Wi e]at e2;cases e2
    by_cases e3:(b::r).length<=12
    .have d:(r.length:Int)+1<=12:=(by simp at e3;omega);have a:r.length+1<=12:=(by simpa using e3);simp[g78,h1,h2,d,a,e4,dY,this,e1]
    .have d:¬((r.length:Int)+1<=12):=(by simp at e3;omega);have a:¬(r.length+1<=12):=(by simpa using e3);simp[g78,h1,h2,d,a,dY,this,e1]
def L73{s:List UInt8}(hS:nE s):∀(n i:Nat),s.length-i=n->i<=s.length->
   cl AP g73L0 ⟨[(0,.pv (.str s)),(31,.pv (vI s.length)),(32,.pv (vI i))],[],[],[]⟩=
     if jm (s.drop i)=true then some (.exit 0,⟨[(0,.pv (.str s)),(31,.pv (vI s.length)),(32,.pv (vI s.length)),(33,.pv (.bool false))],[],[],[]⟩)
     else some (.ret,⟨[(6,.pv (.bool false))],[],[],[]⟩)
 |0,i,hn,hi=>by
  have:i=s.length:=by omega
  subst this;rw[g73L0e];simp[g73B0,mD]
 |n+1,i,hn,hi=>by
  have hi:i<s.length:=(by omega);obtain⟨x,hx⟩:=aQ hi;unfold nE at hS;have g:=L73 hS n (i+1) (by omega) (by omega);simp at g;rw[g73L0e,aR hx,tD];have key:qG x.toNat=((decide (97<=(x.toNat:Int)) && decide ((x.toNat:Int)<=122))|| (decide (65<=(x.toNat:Int)) && decide ((x.toNat:Int)<=90))|| (decide (48<=(x.toNat:Int)) && decide ((x.toNat:Int)<=57))|| ((x.toNat:Int)== 95)):=rfl;rw[key];have hc:∃c:Int,c=x.toNat:=⟨_,rfl⟩;obtain⟨c,hc⟩:=hc;have h:(97<=(x.toNat:Int))=(97<=c):=(by rw[hc]);rw[<-hc]
  have a:∀b1 b2 b3 f d b e:Bool,decide (97<=c)=b1->decide (c<=122)=b2->decide (65<=c)=b3->decide (c<=90)=f->decide (48<=c)=d->decide (c<=57)=b->(c == 95)=e->
      after (cl AP g73L0) (cl AP g73B0 (norm (restrict [0,31,32] ⟨[(0,.pv (.str s)),(31,.pv (vI s.length)),(32,.pv (vI i))],[],[],[]⟩)))=
      if (((b1 && b2)|| (b3 && f)|| (d && b)|| e) && jm (s.drop (i+1)))=true then some (.exit 0,⟨[(0,.pv (.str s)),(31,.pv (vI s.length)),(32,.pv (vI s.length)),(33,.pv (.bool false))],[],[],[]⟩)
      else some (.ret,⟨[(6,.pv (.bool false))],[],[],[]⟩):=by
    intro b1 b2 b3 f d b e h1 h2 h3 h4 h5 h6 h7;have g8:decide (c<48)=!d:=by rw[<-h5,<-zda];simp[zdf]
    have g9:decide (57<c)=!b:=by rw[<-h6,<-zda];simp[zdf]
    cases b1<;>cases b3<;>cases d<;>cases b2<;>cases f<;>cases b<;>cases e <;>
      (have k1:=h1;have k2:=h2;have k3:=h3;have k4:=h4;have k5:=h5;have k6:=h6;have k7:=h7
       simp only[za5,zch,zcH,beq_eq_false_iff_ne,ne_eq]at k1 k2 k3 k4 k5 k6 k7
       first
       |(exfalso;omega)
       |(simp(disch:=omega)[-getElem?_pos,g73B0,hx,hi,<-hc,k1,k2,k3,k4,k5,k6,k7,g8,g9,ae,g];done))
  exact a _ _ _ _ _ _ _ rfl rfl rfl rfl rfl rfl rfl
def c73{s:List UInt8}(hS:nE s){lo hi:Int}:(az AP).p 73 [.str s,vC lo,vC hi]=some [.bool (dY s lo hi)]:=by
 have h:=L73 hS _ 0 rfl (by omega);simp at h;rw[aw g73];cases s with
 |nil=>simp[g73,dY]
 |cons b r=>
  by_cases e3:r.length+1<=12
  .have a:¬((12:Int)<r.length+1):=(by omega);have e0:¬((r.length:Int)+1<1):=(by omega);by_cases e1:(b.toNat:Int)<lo
   .have d:¬(lo<=(b.toNat:Int)):=(by omega);simp[g73,dY,e0,a,e1,d]
   .have d:lo<=(b.toNat:Int):=(by omega);by_cases e2:hi<(b.toNat:Int)
    .have c:¬((b.toNat:Int)<=hi):=(by omega);simp[g73,dY,e0,a,e1,e2,c]
    .have c:(b.toNat:Int)<=hi:=(by omega);cases e4:jm (b::r)
     .simp[e4]at h;simp[g73,dY,e0,a,e1,e2,d,c,h,e4]
     .simp[e4]at h;cases e5:mC (b::r)
      .have k:∀k∈yh,¬(b::r)=k:=by
        intro k f e;rw[e]at e5;simp only[mC]at e5;rw[List.contains_eq_mem]at e5;simp at e5;exact e5 f
       have k1:=k [100,97,116,97] (by simp[yh]);have k2:=k [108,101,116] (by simp[yh]);have k3:=k [114,101,99] (by simp[yh]);have k4:=k [105,110] (by simp[yh]);have k5:=k [99,97,115,101] (by simp[yh]);have k6:=k [111,102] (by simp[yh]);have k7:=k [101,110,100] (by simp[yh]);have b1:((b::r)== [100,97,116,97])=false:=(by simpa using k1);have b2:((b::r)== [108,101,116])=false:=(by simpa using k2);have b3:((b::r)== [114,101,99])=false:=(by simpa using k3);have l:((b::r)== [105,110])=false:=(by simpa using k4);have j:((b::r)== [99,97,115,101])=false:=(by simpa using k5);have i:((b::r)== [111,102])=false:=(by simpa using k6);have g:((b::r)== [101,110,100])=false:=(by simpa using k7);simp[g73,dY,e0,a,e1,e2,d,c,h,e4,e5,e3,-List.cons_beq_cons,b1,b2,b3,l,j,i,g]
      .simp only[mC,yh,zcq,zau,zbu,zci]at e5
       rcases e5 with e|e|e|e|e|e|e<;>(simp only[zbH]at e;obtain⟨rfl,rfl⟩:=e)<;>
         simp[dY,mC,yh]<;>(simp at e1 e2 h d c;simp[g73,h,e1,e2])
  .have a:(12:Int)<r.length+1:=(by omega);simp[g73,dY,a,e3]
def jD(s:List UInt8)(n:Nat):Bool:=if s=[45,62]then decide (n=2)else if s=[73,110,116]then decide (n=0)else dY s 65 90 && decide (n<=4)
def c74{s:List UInt8}(hS:nE s){n:Nat}:(az AP).p 74 [.str s,vI n]=some [.bool (jD s n)]:=by
 have h:=c73 hS (lo:=65) (hi:=90);rw[aw g74];by_cases e1:s=[45,62]
 .have:((n:Int)== 2)=decide (n=2):=by rw[za0];simp;omega
  subst e1;simp[g74,jD,this]
 .have b1:(s == [45,62])=false:=(by simpa using e1);by_cases e2:s=[73,110,116]
  .have:((n:Int)== 0)=decide (n=0):=by rw[za0];simp
   subst e2;simp[g74,jD,this]
  .have b2:(s == [73,110,116])=false:=(by simpa using e2);have:decide ((n:Int)<=4)=decide (n<=4):=(by rw[za0];simp;omega);cases e3:dY s 65 90<;>simp[e3]at h<;>simp[g74,jD,e1,e2,b1,b2,h,e3,this]
mutual
def ck:Ty->Bool
 |⟨k,n,i,h,as⟩=>
  if k=1\/k=2 then decide (n=[]) && decide (as=[]) && decide (0<=i) && decide (i<=1000000) && (h == 0)
  else if k=3 then decide (n=[]) && decide (as=[]) && decide (0<=i) && decide (i<=1000000) && decide (-1<=h) && decide (h<=1000000)
  else if k=5 then decide (as=[]) && (i == 0) && (h == 0) && dY n 97 122
  else if k=4 then(i == 0) && (h == 0) && jD n as.length && wc as
  else false
def wc:List Ty->Bool
 |[]=>true
 |a::r=>ck a && wc r
end
def pJ:∀l:List Ty,wc l=l.all ck
 |[]=>by simp[wc]
 |a::r=>by simp[wc,pJ r]
def gh(t:Ty):ck t =
   if t.kind=1\/t.kind=2 then decide (t.name=[]) && decide (t.args=[]) && decide (0<=t.id) && decide (t.id<=1000000) && (t.home == 0)
   else if t.kind=3 then decide (t.name=[]) && decide (t.args=[]) && decide (0<=t.id) && decide (t.id<=1000000) && decide (-1<=t.home) && decide (t.home<=1000000)
   else if t.kind=5 then decide (t.args=[]) && (t.id == 0) && (t.home == 0) && dY t.name 97 122
   else if t.kind=4 then(t.id == 0) && (t.home == 0) && jD t.name t.args.length && t.args.all ck
   else false:=by
 cases t;simp only[ck,pJ]
def Mi(F:AV)(s:List Ty)(sh:Sh)(i:Nat):Option Nat->Option (bh×St)
 |some k=>some (.ret,⟨[(4,.pv (vI (i+k:Nat)))],[],sh,[]⟩)
 |none=>some (.exit 0,⟨[(0,.pv (.aq (s.map Ty.pv))),(1,F),(7,.pv (vI s.length)),(8,.pv (vI s.length)),(9,.pv (.bool false))],[],sh,[]⟩)
theorem YS{s:List Ty}(hS:Sm s){sh:Sh}(h:aG sh){g:Nat}{cap:List AV}{p:Ty->Bool}(b:bI.eL cap=true)(a:ca.jq cap=true)(d:eB [] 1 cap=cap)(c:∀aH ts,br aH ts cap=(cap,aH,ts))(f:cap.all bU=true)
   (hf:∀x∈s,(az AP).i g (.pv x.pv::cap) sh []=some ([.pv (.bool (p x))],sh,[])):∀(n i:Nat),s.length-i=n->i<=s.length->
   cl AP g107L0 ⟨[(0,.pv (.aq (s.map Ty.pv))),(1,.fn g cap),(7,.pv (vI s.length)),(8,.pv (vI i))],[],sh,[]⟩=Mi (.fn g cap) s sh i (bS p (s.drop i))
 |0,i,hn,hi=>by
  have:i=s.length:=by omega
  subst this;rw[g107L0e];simp[g107B0,bS,Mi,h.norm,b]
 |n+1,i,hn,hi=>by
  have hi:i<s.length:=(by omega);obtain⟨x,hx⟩:=aQ hi;unfold Sm at hS;have j:=YS hS h b a d c f hf n (i+1) (by omega) (by omega);simp at j;have hc:=hf x (aK hx);simp at hc;rw[g107L0e,aR hx];cases e:p x with
  |true=>
   rw[e]at hc;simp(disch:=omega)[-getElem?_pos,g107B0,hx,hi,e,bS,Mi,h.norm,h.shift,hc,b,a,d,c,f]
  |false=>
   rw[e]at hc;simp(disch:=omega)[-getElem?_pos,g107B0,hx,hi,e,bS,ae,h.norm,h.shift,hc,j,b,a,d,c,f];cases bS p (s.drop (i+1))with
   |none=>rfl
   |some k=>simp[Mi];omega
theorem c75{s:List Ty}(hS:Sm s){sh:Sh}(f:aG sh){g:Nat}{cap:List AV}{p:Ty->Bool}(a:bI.eL cap=true)(b:ca.jq cap=true)(j:eB [] 1 cap=cap)(d:∀aH ts,br aH ts cap=(cap,aH,ts))(l:cap.all bU=true)
   (hf:∀x∈s,(az AP).i g (.pv x.pv::cap) sh []=some ([.pv (.bool (p x))],sh,[])):(az AP).i 75 [.pv (.aq (s.map Ty.pv)),.fn g cap] sh []=some ([.pv (.bool (s.any p))],sh,[]):=by
 have h:=YS hS f a b j d l hf _ 0 rfl (by omega);simp at h
 have c:(az AP).i 107 [.pv (.aq (s.map Ty.pv)),.fn g cap] sh []=some ([.pv (vI (match bS p s with|some k=>k|none=>-1))],sh,[]):=by
  rw[aM g107];cases hi:bS p s with
  |none=>rw[hi]at h;simp[Mi]at h;simp[g107,h,f.norm,a]
  |some k=>rw[hi]at h;simp[Mi]at h;simp[g107,h,f.norm,a]
 rw[aM g75];cases hi:bS p s with
 |none=>
  rw[hi]at c;have:s.any p=false:=by rw[zbw];intro x hx;rw[iM.1 hi x hx];simp
  simp[g75,c,f.norm,f.shift,a,b,d,this]
 |some k=>
  rw[hi]at c
  have:s.any p=true:=by
   cases e:s.any p with
   |true=>rfl
   |false=>rw[zbw]at e;have:=iM.2 (fun x hx=>by simpa using e x hx);rw[hi]at this;cases this
  simp[g75,c,f.norm,f.shift,a,b,d,this]
inductive Ty.Nm:Ty->Prop
 |mk {t:Ty}:nE t.name->(∀x∈t.args,Ty.Nm x)->Ty.Nm t
def Ty.Nm.sm{t:Ty}(h:t.Nm):nE t.name:=by cases h;assumption
def Ty.Nm.d6{t:Ty}(h:t.Nm):∀x∈t.args,x.Nm:=by cases h;assumption
def c29{t:Ty}(b:t.Ok)(hN:t.Nm):(az AP).p 29 [t.pv]=some [.bool (ck t)]:=by
 revert b hN
 refine Ty.cD (p:=fun t=>t.Ok->t.Nm->(az AP).p 29 [t.pv]=some [.bool (ck t)]) ?_ t;intro t d b hN;have ht:=c74 hN.sm (n:=t.args.length);have hl:=c73 hN.sm (lo:=97) (hi:=122)
 have hc:=c75 b.sm (sh:=[]) (by intro cs h;simp at h) (g:=76) (cap:=[]) (p:=fun x=>!ck x) rfl rfl rfl (fun _ _=>rfl) rfl (by
  intro x hx;have a:=d x hx (b.d6 x hx) (hN.d6 x hx);simp at a;rw[aM g76];simp[g76,a])
 have c:=ui (p:=ck) (l:=t.args);rw[aw g29,gh];have h0:((t.args.length:Int)== 0)=decide (t.args=[]):=by rw[za0];simp
 by_cases k1:t.kind=1
 .simp[g29,k1,h0]
  (repeat' split)<;>simp_all<;>omega
 .by_cases k2:t.kind=2
  .simp[g29,k2,h0]
   (repeat' split)<;>simp_all<;>omega
  .by_cases k3:t.kind=3
   .simp[g29,k3,h0]
    (repeat' split)<;>simp_all<;>omega
   .by_cases k5:t.kind=5
    .simp[g29,k5,h0,hl]
     (repeat' split)<;>simp_all<;>omega
    .by_cases k4:t.kind=4
     .simp[g29,k4,h0,ht,hc]
      (repeat' split)<;>simp_all<;>omega
     .simp[g29,k1,k2,k3,k4,k5,h0]
abbrev Sc:=As
structure En where
 name:List UInt8
 sc:Sc
 deriving Inhabited
def En.pv(a:En):PV:=.agg [.str a.name,.int .i64 a.sc.id,.int .i64 a.sc.ty.kind,.str a.sc.ty.name,.int .i64 a.sc.ty.id,.int .i64 a.sc.ty.home,.aq (a.sc.ty.args.map Ty.pv)]
@[simp] theorem En.kS(a:En):a.pv=.agg [.str a.name,.int .i64 a.sc.id,.int .i64 a.sc.ty.kind,.str a.sc.ty.name,.int .i64 a.sc.ty.id,.int .i64 a.sc.ty.home,.aq (a.sc.ty.args.map Ty.pv)]:=rfl
@[simp] theorem En.eta(t:En):En.mk t.name t.sc=t:=rfl
def YT:El En.pv 7 true:=⟨fun x=>by simp,fun x=>by simp⟩
noncomputable instance:DecidableEq En:=fun _ _=>Classical.propDecidable _
@[simp] theorem XM{l:List En}:bl 7 (l.map En.pv)=true:=YT.head l
def lx:Sc:=⟨0,⟨0,[],0,0,[]⟩⟩
def Is:List En->List UInt8->Option Sc
 |[],_=>none
 |a::r,s=>match Is r s with
  |some c=>some c
  |none=>if a.name=s then some a.sc else none
def Pe(l:List En)(a:En)(s:List UInt8):Is (l++[a]) s=if a.name=s then some a.sc else Is l s:=by
 induction l with
 |nil=>simp[Is]
 |cons b r c=>
  simp only[zbb,Is,c];by_cases h:a.name=s
  .simp[h]
  .simp[h]
def Sa(o:Option Sc):List PV:=[(o.getD lx).pv,.bool o.isSome]
def YU{l:List En}(hS:Sm l){s:List UInt8}:∀(k:Nat),k<=l.length->
   cl AP g181L0 ⟨[(0,.pv (.aq (l.map En.pv))),(1,.pv (.str s)),(4,.au 4 0),(6,.pv (vI ((k:Int)-1)))],[(4,[.pv (vI 0),.pv (vI 0),.pv (.str []),.pv (vI 0),.pv (vI 0),.own [] 0])],[],[0]⟩=
     match Is (l.take k) s with
     |some c=>some (.ret,⟨[(4,.au 4 0),(5,.pv (.bool true))],[(4,[.pv (vI c.id),.pv (vI c.ty.kind),.pv (.str c.ty.name),.pv (vI c.ty.id),.pv (vI c.ty.home),.pv (.aq (c.ty.args.map Ty.pv))])],[],[0]⟩)
     |none=>some (.exit 0,⟨[(0,.pv (.aq (l.map En.pv))),(1,.pv (.str s)),(4,.au 4 0),(6,.pv (vI (-1))),(11,.pv (.bool false))],[(4,[.pv (vI 0),.pv (vI 0),.pv (.str []),.pv (vI 0),.pv (vI 0),.own [] 0])],[],[0]⟩)
 |0,_=>by
  rw[g181L0e];simp[g181B0,Is]
 |k+1,b=>by
  obtain⟨x,hx⟩:=aQ (l:=l) (i:=k) (by omega);have a:=YU hS (s:=s) k (by omega);unfold Sm at hS;have e1:((k+1:Nat):Int)-1=k:=by omega
  rw[g181L0e,e1,zaU,hx];simp only[zcA,Pe];by_cases e:x.name=s
  .simp(disch:=omega)[-getElem?_pos,g181B0,hx,e]
  .simp(disch:=omega)[-getElem?_pos,g181B0,hx,e,ae];simpa using a
def c181{l:List En}(hS:Sm l){s:List UInt8}:(az AP).p 181 [.aq (l.map En.pv),.str s]=some (Sa (Is l s)):=by
 have h:=YU hS (s:=s) l.length (zas _);unfold Sm at hS;rw[aw g181];rw[zbo]at h;rw[g181L0e]at h;cases e:Is l s with
 |none=>
  rw[e]at h;simp at h;simp(disch:=omega)[g181,ae,g181L0e,h,Sa,lx]
 |some c=>
  rw[e]at h;simp at h;simp(disch:=omega)[g181,ae,g181L0e,h,Sa]
structure XN{α:Type}(f:α->PV)(cs:α->List PV)(sz:Nat):Prop where
 eq:∀x,f x=.agg (cs x)
 len:∀x,(cs x).length=sz
 leaf:∀x,((cs x).map AV.pv).all aY=true
def YV(z1 z2:List PV)(s1 a:Nat):ah:=
 (.seq
  (.jf [⟨some 18,none,[.t 17,.t 16],.v (.bin .lss)⟩] [1,2,15,16,17,18])
  (.seq
   (.cond (.t 18)
    .skip
    (.exit 0))
   (.seq
    (.block 1
     (.seq
      (.jf [⟨some 19,none,[.t 17],.v (.mv)⟩,
        ⟨some 20,none,[.t 15,.t 17],.v (.eK s1)⟩,
        ⟨some 21,none,[.t 20],.eg s1 true⟩,
        ⟨some 8,none,[],.alloc 8 z1⟩,
        ⟨some 7,none,[.t 19],.v (.mv)⟩,
        ⟨none,none,[.t 8,.t 21],.bH 8 0 s1⟩] [1,2,7,8,15,16,17])
      (.seq
       (.jf [⟨some 22,none,[.t 1],.v (.mv)⟩,
         ⟨some 23,none,[.t 7],.v (.mv)⟩,
         ⟨some 24,none,[.t 22,.t 23],.v (.eK a)⟩,
         ⟨some 25,none,[.t 24],.eg a true⟩,
         ⟨some 9,none,[],.alloc 9 z2⟩,
         ⟨none,none,[.t 9,.t 25],.bH 9 0 a⟩] [1,2,8,9,15,16,17])
       (.seq
        (.jf [⟨some 26,none,[.t 2],.v (.mv)⟩,
          ⟨some 27,none,[.t 8],.cr 8 0 s1 true⟩,
          ⟨some 28,none,[.t 9],.cr 9 0 a true⟩,
          ⟨some 29,none,[.t 26,.t 27,.t 28],.gk⟩,
          ⟨some 30,none,[.t 29],.v (.un .not)⟩] [1,2,15,16,17,30])
        (.cond (.t 30)
         (.seq
          (.jf [⟨some 6,none,[.c (.pv (.bool false))],.v (.mv)⟩] [6])
          .ret)
         .skip)))))
    (.jf [⟨some 31,none,[.t 17,.c (.pv (.int .i64 1))],.v (.bin .add)⟩,
      ⟨some 17,none,[.t 31],.v (.mv)⟩] [1,2,15,16,17]))))
def EqL(z1 z2:List PV)(s1 a:Nat):ah:=.loop [1,2,15,16,17] (YV z1 z2 s1 a)
def Pf{z1 z2:List PV}{s1 a:Nat}{st:St}:cl AP (EqL z1 z2 s1 a) st=after (cl AP (EqL z1 z2 s1 a)) (cl AP (YV z1 z2 s1 a) (norm (restrict [1,2,15,16,17] st))):=uc
def YW(z1 z2:List PV)(s1 a:Nat):aA:=⟨3,32,[.t 6],
 (.seq
  (.jf [⟨some 6,none,[.c (.pv (.bool false))],.v (.mv)⟩] [0,1,2])
  (.seq
   (.seq
    (.jf [⟨some 10,none,[.t 0],.v (.mv)⟩,
      ⟨some 11,none,[.t 10],.v (.len)⟩,
      ⟨some 12,none,[.t 1],.v (.mv)⟩,
      ⟨some 13,none,[.t 12],.v (.len)⟩,
      ⟨some 14,none,[.t 11,.t 13],.v (.bin .neq)⟩] [0,1,2,14])
    (.cond (.t 14)
     (.seq
      (.jf [⟨some 6,none,[.c (.pv (.bool false))],.v (.mv)⟩] [6])
      .ret)
     .skip))
   (.seq
    (.seq
     (.jf [⟨some 15,none,[.t 0],.v (.mv)⟩,
       ⟨some 16,none,[.t 15],.v (.len)⟩,
       ⟨some 17,none,[.c (.pv (.int .i64 0))],.v (.mv)⟩] [1,2,15,16,17])
     (.block 0
      (EqL z1 z2 s1 a)))
    (.seq
     (.jf [⟨some 6,none,[.c (.pv (.bool true))],.v (.mv)⟩] [6])
     .ret)))),none,false⟩
def Pg{α a:Type}(F:AV)(sh:Sh)(c:α->List PV)(d:a->List PV)(p:α->a->Bool)(s:List α):Prop:=
 ∀x∈s,∀y,exec (az AP) .gk [F,.agg ((c x).map .pv),.agg ((d y).map .pv)] none sh []=some ⟨.pv (.bool (p x y)),none,sh,[]⟩
def mZ{α a:Type}(p:α->a->Bool):List α->List a->Bool
 |[],[]=>true
 |x::r,y::t=>p x y && mZ p r t
 |_,_=>false
theorem C9{α c:Type}{p:α->c->Bool}:∀{a:List α}{b:List c},mZ p a b=true->a.length=b.length
 |[],[],_=>rfl
 |x::r,y::t,h=>by simp only[mZ,zah]at h;simp[C9 h.2]
 |[],_::_,h=>by simp[mZ]at h
 |_::_,[],h=>by simp[mZ]at h
def YX{α c:Type}(f:α->PV)(g:c->PV)(F:AV)(a:List α)(b:List c)(sh:Sh)(t:Bool):Option (bh×St):=
 if t=true then some (.exit 0,⟨[(1,.pv (.aq (b.map g))),(2,F),(15,.pv (.aq (a.map f))),(16,.pv (vI a.length)),(17,.pv (vI a.length)),(18,.pv (.bool false))],[],sh,[]⟩)
 else some (.ret,⟨[(6,.pv (.bool false))],[],sh,[]⟩)
def LEq{α o:Type}{f:α->PV}{g:o->PV}{c:α->List PV}{d:o->List PV}{s1 j:Nat}(hf:XN f c s1)(m:XN g d j){z1 z2:List PV}(h1:z1.length=s1)(h2:z2.length=j){a:List α}{b:List o}(hS:Sm a)(hl:a.length=b.length)
   {sh:Sh} (q:aG sh) {k:Nat} {cap:List AV} {p:α->o->Bool} (h:bI.eL cap=true) (hp:Pg (.fn k cap) sh c d p a):∀(n i:Nat),a.length-i=n->i<=a.length->
   cl AP (EqL z1 z2 s1 j) ⟨[(1,.pv (.aq (b.map g))),(2,.fn k cap),(15,.pv (.aq (a.map f))),(16,.pv (vI a.length)),(17,.pv (vI i))],[],sh,[]⟩=YX f g (.fn k cap) a b sh (mZ p (a.drop i) (b.drop i))
 |0,i,hn,hi=>by
  have:i=a.length:=by omega
  subst this;rw[Pf,jb (l:=b) (by omega),jb (l:=a) (by omega)];simp[YV,YX,mZ,q.norm,h]
 |n+1,i,hn,hi=>by
  have hi:i<a.length:=(by omega);obtain⟨x,hx⟩:=aQ hi;obtain⟨y,hy⟩:=aQ (hl ▸ hi);unfold Sm at hS;have w:=LEq hf m h1 h2 hS hl q h hp n (i+1) (by omega) (by omega);simp at w;have hc:=hp x (aK hx) y;rw[Pf,aR hx,aR hy];have s:=hf.len x;have r:=m.len y;have e1:(z1.map bG.zeroCell).drop s1=[]:=(by rw[zaM];simp[h1]);have e2:(z2.map bG.zeroCell).drop j=[]:=(by rw[zaM];simp[h2]);have t1:((c x).map AV.pv).take s1=(c x).map AV.pv:=(by rw[zaf];simp[s]);have t2:((d y).map AV.pv).take j=(d y).map AV.pv:=(by rw[zaf];simp[r]);have v:(c x).take s1=c x:=(by rw[zaf];omega);have u:(d y).take j=d y:=(by rw[zaf];omega);have w1:=hf.leaf x;have t:=m.leaf y;cases e:p x y with
  |true=>
   rw[e]at hc;simp(disch:=omega)[-getElem?_pos,-eZ,-List.all_map,-List.map_take,-List.map_drop,-List.map_eq_nil_iff,YV,hx,hy,hi,e,mZ,ae,q.norm,hc,w,h,hf.eq,m.eq,s,r,h1,h2,e1,e2,t1,t2,v,u,w1,t]
  |false=>
   rw[e]at hc;simp(disch:=omega)[-getElem?_pos,-eZ,-List.all_map,-List.map_take,-List.map_drop,-List.map_eq_nil_iff,YV,hx,hy,hi,e,mZ,YX,q.norm,hc,h,hf.eq,m.eq,s,r,h1,h2,e1,e2,t1,t2,v,u,w1,t]
theorem cEq{α l:Type}{f:α->PV}{g:l->PV}{c:α->List PV}{d:l->List PV}{s1 o:Nat}(hf:XN f c s1)(q:XN g d o){z1 z2:List PV}(h1:z1.length=s1)(h2:z2.length=o){m:Nat}(hm:AP m=some (YW z1 z2 s1 o)){a:List α}{b:List l}(hS:Sm a)
   {sh:Sh} (n:aG sh) {k:Nat} {cap:List AV} {p:α->l->Bool} (j:bI.eL cap=true) (hp:Pg (.fn k cap) sh c d p a):
   (az AP).i m [.pv (.aq (a.map f)),.pv (.aq (b.map g)),.fn k cap] sh []=some ([.pv (.bool (mZ p a b))],sh,[]):=by
 rw[gV hm (by simp[YW])];by_cases hl:a.length=b.length
 .have h:=LEq hf q h1 h2 hS hl n j hp _ 0 rfl (by omega);simp at h;cases e:mZ p a b with
  |true=>rw[e]at h;simp[YX]at h;simp[YW,h,n.norm,j,hl.symm]
  |false=>rw[e]at h;simp[YX]at h;simp[YW,h,n.norm,j,hl.symm]
 .have e:mZ p a b=false:=by
   cases e:mZ p a b with
   |true=>exact absurd (C9 e) hl
   |false=>rfl
  simp[YW,n.norm,j,hl,e];omega
def L30{t:Ty}(hS:Sm t.args)(h:∀x∈t.args,(az AP).p 30 [x.pv]=some [.bool (ck x)]):∀(n i:Nat),t.args.length-i=n->i<=t.args.length->
   cl AP g30L0 ⟨[(1,.au 1 0),(3,.pv (vI i))],[(1,t.cl)],[],[]⟩=
     if (t.args.drop i).all ck=true then some (.exit 1,⟨[(1,.au 1 0),(3,.pv (vI t.args.length)),(99,.pv (.bool false))],[(1,t.cl)],[],[]⟩)
     else some (.ret,⟨[(2,.pv (.bool false))],[],[],[]⟩)
 |0,i,hn,hi=>by
  have:i=t.args.length:=by omega
  subst this;rw[g30L0e];simp[g30B0,Ty.cl]
 |n+1,i,hn,hi=>by
  have hi:i<t.args.length:=(by omega);obtain⟨x,hx⟩:=aQ hi;unfold Sm at hS;have a:=L30 hS h n (i+1) (by omega) (by omega);have hc:=h x (aK hx);simp[Ty.cl]at a hc;rw[g30L0e,aR hx];cases e:ck x
  .rw[e]at hc;simp(disch:=omega)[-getElem?_pos,g30B0,Ty.cl,hx,hi,hc,e]
  .rw[e]at hc;simp(disch:=omega)[-getElem?_pos,g30B0,Ty.cl,hx,hi,hc,e,ae,a]
def c30{t:Ty}(e:t.Ok)(hN:t.Nm):(az AP).p 30 [t.pv]=some [.bool (ck t)]:=by
 revert e hN
 refine Ty.cD (p:=fun t=>t.Ok->t.Nm->(az AP).p 30 [t.pv]=some [.bool (ck t)]) ?_ t;intro t h e hN;have hl:=c77 hN.sm;have hu:=c78 hN.sm;rw[aw g30,gh];have h0:((t.args.length:Int)== 0)=decide (t.args=[]):=by rw[za0];simp
 have h2:((t.args.length:Int)== 2)=decide (t.args.length=2):=by rw[za0];simp;omega
 have h4:decide ((t.args.length:Int)<=4)=decide (t.args.length<=4):=by rw[za0];simp;omega
 by_cases k1:t.kind=1
 .simp[g30,k1,h0]
  (repeat' split)<;>simp_all<;>omega
 .by_cases k2:t.kind=2
  .simp[g30,k2,h0]
   (repeat' split)<;>simp_all<;>omega
  .by_cases k3:t.kind=3
   .simp[g30,k3,h0]
    (repeat' split)<;>simp_all<;>omega
   .by_cases k5:t.kind=5
    .simp[g30,k5,h0,hl]
     (repeat' split)<;>simp_all<;>omega
    .by_cases k4:t.kind=4
     .by_cases b:t.id=0
      .by_cases c:t.home=0
       .have a:=L30 e.sm (fun x hx=>h x hx (e.d6 x hx) (hN.d6 x hx)) _ 0 rfl (by omega);rw[g30L0e]at a;simp[Ty.cl]at a;cases g:t.args.all ck
        .have:¬∀x∈t.args,ck x=true:=by rw[<-zaq,g];simp
         simp[this,k4,b,c]at a;simp[g30,k4,b,c,g30L0e,a]
        .have:∀x∈t.args,ck x=true:=by rw[<-zaq,g]
         have a:=a;rw[zan this]at a;simp[k4,b,c]at a;by_cases d:t.name=[45,62]
         .simp[d]at a;simp[g30,k4,b,c,g30L0e,a,d,jD,h2]
         .have b1:(t.name == [45,62])=false:=(by simpa using d);by_cases n2:t.name=[73,110,116]
          .simp[n2]at a;simp[g30,k4,b,c,g30L0e,a,n2,jD,h0]
          .have b2:(t.name == [73,110,116])=false:=(by simpa using n2);cases f:dY t.name 65 90
           .rw[f]at hu;simp[g30,k4,b,c,g30L0e,a,d,n2,b1,b2,jD,hu,f]
           .rw[f]at hu;simp[g30,k4,b,c,g30L0e,a,d,n2,b1,b2,jD,hu,f,h4]
       .simp[g30,k4,b,c]
      .simp[g30,k4,b]
     .simp[g30,k1,k2,k3,k4,k5]
mutual
def pV:Ty->Int->Int
 |⟨_,_,_,_,as⟩,l=>max (we as (l-1)) 0
def we:List Ty->Int->Int
 |[],l=>l
 |a::r,l=>if 0<l then we r (pV a l)else l
end
def Aj(t:Ty)(l:Int):pV t l=max (we t.args (l-1)) 0:=by cases t;simp only[pV]
def wg(t:Ty):∀l:Int,0<l->0<=pV t l/\pV t l<=l-1:=by
 refine Ty.cD (p:=fun t=>∀l:Int,0<l->0<=pV t l/\pV t l<=l-1) ?_ t;intro t b l hl
 have key:∀(as:List Ty),(∀x∈as,∀l:Int,0<l->0<=pV x l/\pV x l<=l-1)->∀l:Int,0<=l->0<=we as l/\we as l<=l:=by
  intro as;induction as with
  |nil=>intro _ l h;simp[we,h]
  |cons a r b=>
   intro h l h0;simp only[we];split
   .rename_i hp;have:=h a (by simp) l hp;have:=b (fun x hx=>h x (by simp[hx])) (pV a l) this.1;omega
   .omega
 rw[Aj];have:=key t.args b (l-1) (by omega);omega
def He:∀(as:List Ty)(l:Int),0<=l->0<=we as l/\we as l<=l
 |[],l,h=>by simp[we,h]
 |a::r,l,h=>by
  simp only[we];split
  .rename_i hp;have h1:=wg a l hp;have:=He r (pV a l) h1.1;omega
  .omega
def Iu:∀(as:List Ty)(l:Int),0<=l->0<we as l->(as.length:Int)<l/\∀x∈as,∃l':Int,0<l'/\l'<=l/\0<pV x l'
 |[],l,h,hp=>by simp[we]at hp⊢;exact hp
 |a::r,l,h,hp=>by
  simp only[we]at hp;split at hp
  .rename_i h0;have h1:=wg a l h0;have h2:=Iu r (pV a l) h1.1 hp
   have h3:0<pV a l:=by
    have:=He r (pV a l) h1.1;omega
   refine⟨by simp;omega,?_⟩;intro x hx;simp at hx;rcases hx with rfl|hx
   .exact⟨l,h0,by omega,h3⟩
   .obtain⟨l',c,d,b⟩:=h2.2 x hx;exact⟨l',c,by omega,b⟩
  .omega
def Wj(t:Ty):∀l:Int,0<l->l<=100000->0<pV t l->t.Ok:=by
 refine Ty.cD (p:=fun t=>∀l:Int,0<l->l<=100000->0<pV t l->t.Ok) ?_ t;intro t b l h0 h1 hp;rw[Aj]at hp;have a:0<we t.args (l-1):=by omega
 obtain⟨k1,k2⟩:=Iu t.args (l-1) (by omega) a;refine⟨by unfold Sm;omega,fun x hx=>?_⟩;obtain⟨l',d,e,c⟩:=k2 x hx;exact b x hx l' d (by omega) c
def L88{t:Ty}(h:∀x∈t.args,∀l:Int,0<l->l<=4611686018427387904->(az AP).p 88 [x.pv,vI l]=some [vI (pV x l)]):∀(n i:Nat),t.args.length-i=n->i<=t.args.length->∀l:Int,0<=l->i+l<=4611686018427387904->
   ∃(k:Nat)(b:Bool),cl AP g88L0 ⟨[(1,.pv (vI l)),(2,.au 2 0),(5,.pv (vI i))],[(2,t.cl)],[],[]⟩=
     some (.exit 0,⟨[(1,.pv (vI (we (t.args.drop i) l))),(2,.au 2 0),(5,.pv (vI k)),(16,.pv (.bool b))],[(2,t.cl)],[],[]⟩)
 |0,i,hn,hi,l,hl,d=>by
  have:i=t.args.length:=by omega
  subst this;refine⟨t.args.length,false,?_⟩;rw[g88L0e];simp[g88B0,Ty.cl,we]
 |n+1,i,hn,hi,l,hl,d=>by
  have hi:i<t.args.length:=(by omega);obtain⟨x,hx⟩:=aQ hi;rw[g88L0e,aR hx];by_cases hp:0<l
  .have hc:=h x (aK hx) l hp (by omega);have a:=wg x l hp;obtain⟨k,b,c⟩:=L88 h n (i+1) (by omega) (by omega) (pV x l) a.1 (by omega);refine⟨k,b,?_⟩;simp[Ty.cl]at c hc;simp(disch:=omega)[-getElem?_pos,g88B0,Ty.cl,hx,hi,hc,hp,we,ae,c]
  .refine⟨i,false,?_⟩;simp(disch:=omega)[-getElem?_pos,g88B0,Ty.cl,hx,hi,hp,we]
def c88(t:Ty):∀l:Int,0<l->l<=4611686018427387904->(az AP).p 88 [t.pv,vI l]=some [vI (pV t l)]:=by
 refine Ty.cD (p:=fun t=>∀l:Int,0<l->l<=4611686018427387904->(az AP).p 88 [t.pv,vI l]=some [vI (pV t l)]) ?_ t;intro t a l h0 h1;obtain⟨k,b,h⟩:=L88 a _ 0 rfl (by omega) (l-1) (by omega) (by omega);rw[g88L0e]at h;simp[Ty.cl]at h;rw[aw g88,Aj];simp(disch:=omega)[g88,ae,g88L0e,h];omega
section
variable {P:Program} {n:Nat} {t e:TypeId} {p:PV}
def iS(hu:P.underlying t=some (.int .i64))(h:kg P n t p):∃i,p=vI i:=by
 cases n with
 |zero=>simp[kg]at h
 |succ n=>simp only[kg,hu]at h;obtain⟨i,rfl,_⟩:=h;exact⟨i,rfl⟩
def Ph(hu:P.underlying t=some (.int .i64))(h:kg P n t p):∃i,i<=9223372036854775807/\p=vI i:=by
 cases n with
 |zero=>simp[kg]at h
 |succ n=>
  simp only[kg,hu]at h;obtain⟨i,rfl,hw⟩:=h;refine⟨i,?_,rfl⟩;simp[Lit.wf,IntKind.min,IntKind.max,IntKind.signed,IntKind.bits]at hw;omega
def Pj{α:Type}{f:α->PV}(hu:P.underlying t=some (.slice e))(c:∀(m:Nat)(q:PV),kg P m e q->∃x,q=f x)(h:kg P n t p):∃l:List α,p=.aq (l.map f):=by
 cases n with
 |zero=>simp[kg]at h
 |succ n=>
  simp only[kg,hu]at h;obtain⟨els,rfl,_,h⟩:=h
  have key:∀els:List PV,(∀q∈els,kg P n e q)->∃l:List α,els=l.map f:=by
   intro els;induction els with
   |nil=>intro _;exact⟨[],rfl⟩
   |cons q r a=>
    intro h;obtain⟨x,rfl⟩:=c n q (h q (by simp));obtain⟨l,rfl⟩:=a (fun q b=>h q (by simp[b]));exact⟨x::l,rfl⟩
  obtain⟨l,rfl⟩:=key els h;exact⟨l,rfl⟩
def C_(hu:P.underlying t=some (.slice e))(a:P.underlying e=some (.int .i64))(h:kg P n t p):∃L:List Int,p=.aq (L.map vI):=
 Pj hu (fun _ _ h=>iS a h) h
end
end Go.Ab.Lw
namespace Go.Ab.Lw
open Ev
def qH(s:List UInt8):Ty:=⟨5,s,0,0,[]⟩
def c106{s:List UInt8}:(az AP).p 106 [.str s]=some [(qH s).pv]:=by
 rw[aw g106];simp[g106,qH]
def nG:List Ty:=[qH [97],qH [98],qH [99]]
def c67:(az AP).p 67 []=some [.aq (nG.map Ty.pv)]:=by
 have h1:=c106 (s:=[97]);have h2:=c106 (s:=[98]);have h3:=c106 (s:=[99]);simp at h1 h2 h3;rw[aw g67];simp[g67,h1,h2,h3,nG]
def Iv{P:Program}{b ts d a:TypeId}{f0 f1 f2 f3 e:Field}(hi:P.underlying b=some (.int .i64))(hs:P.underlying ts=some .string)(hl:P.underlying d=some (.slice a))
   (ht:P.underlying a=some (.struct #[f0,f1,f2,f3,e])) (e0:f0.type=b) (e1:f1.type=ts) (e2:f2.type=b) (e3:f3.type=b) (e4:e.type=d):
   ∀(n:Nat)(p:PV),kg P n a p->∃x:Ty,p=x.pv/\x.Nm
 |0,p,h=>by simp[kg]at h
 |n+1,p,h=>by
  simp only[kg,ht]at h;obtain⟨ps,rfl,h⟩:=h
  match ps,h with
  |[p0,p1,p2,p3,p4],⟨h0,h1,h2,h3,h4,_⟩=>
   rw[e0]at h0;rw[e1]at h1;rw[e2]at h2;rw[e3]at h3;rw[e4]at h4;obtain⟨k,rfl⟩:=iS hi h0;obtain⟨i,rfl⟩:=iS hi h2;obtain⟨m,rfl⟩:=iS hi h3;cases n with
   |zero=>simp[kg]at h4
   |succ n=>
    simp only[kg,hs]at h1;obtain⟨s,rfl,c⟩:=h1;simp only[kg,hl]at h4;obtain⟨els,rfl,_,h4⟩:=h4
    have key:∀els:List PV,(∀q∈els,kg P n a q)->∃l:List Ty,els=l.map Ty.pv/\∀x∈l,x.Nm:=by
     intro els;induction els with
     |nil=>intro _;exact⟨[],rfl,by simp⟩
     |cons q r f=>
      intro h;obtain⟨x,rfl,hx⟩:=Iv hi hs hl ht e0 e1 e2 e3 e4 n q (h q (by simp));obtain⟨l,rfl,hl⟩:=f (fun q g=>h q (by simp[g]));refine⟨x::l,rfl,?_⟩;intro y hy;simp at hy;rcases hy with rfl|hy
      .exact hx
      .exact hl y hy
    obtain⟨l,rfl,hl⟩:=key els h4;refine⟨⟨k,s,i,m,l⟩,by simp[aZ],⟨?_,hl⟩⟩;unfold maxLen at c;simp only[nE];omega
 termination_by n=>n
def YY:ah:=
 (.seq
  (.jf [⟨some 9,none,[.t 8,.t 7],.v (.bin .lss)⟩] [0,1,7,8,9])
  (.seq
   (.cond (.t 9)
    .skip
    (.exit 0))
   (.seq
    (.block 1
     (.seq
      (.jf [⟨some 10,none,[.t 8],.v (.mv)⟩,
        ⟨some 5,none,[.t 10],.v (.mv)⟩] [0,1,5,7,8])
      (.seq
       (.jf [⟨some 11,none,[.t 1],.v (.mv)⟩,
         ⟨some 12,none,[.t 0],.v (.mv)⟩,
         ⟨some 13,none,[.t 5],.v (.mv)⟩,
         ⟨some 14,none,[.t 12,.t 13],.v (.eK 1)⟩,
         ⟨some 15,none,[.t 14],.v (.gj 1 false)⟩,
         ⟨some 16,none,[.t 11,.t 15],.v (.bin .eql)⟩] [0,1,5,7,8,16])
       (.cond (.t 16)
        (.seq
         (.jf [⟨some 17,none,[.t 5],.v (.mv)⟩,
           ⟨some 4,none,[.t 17],.v (.mv)⟩] [4])
         .ret)
        .skip))))
    (.jf [⟨some 18,none,[.t 8,.c (.pv (.int .i64 1))],.v (.bin .add)⟩,
      ⟨some 8,none,[.t 18],.v (.mv)⟩] [0,1,7,8]))))
def IxL:ah:=.loop [0,1,7,8] YY
def Pk{st:St}:cl AP IxL st=after (cl AP IxL) (cl AP YY (norm (restrict [0,1,7,8] st))):=uc
def YZ:aA:=⟨2,19,[.t 4],
 (.seq
  (.jf [⟨some 4,none,[.c (.pv (.int .i64 0))],.v (.mv)⟩] [0,1])
  (.seq
   (.seq
    (.jf [⟨some 6,none,[.t 0],.v (.mv)⟩,
      ⟨some 7,none,[.t 6],.v (.len)⟩,
      ⟨some 8,none,[.c (.pv (.int .i64 0))],.v (.mv)⟩] [0,1,7,8])
    (.block 0
     IxL))
   (.seq
    (.jf [⟨some 4,none,[.c (.pv (.int .i64 (-1)))],.v (.mv)⟩] [4])
    .ret))),none,false⟩
def CoF(g:Nat):aA:=⟨2,9,[.t 4],
 (.seq
  (.jf [⟨some 4,none,[.c (.pv (.bool false))],.v (.mv)⟩] [0,1])
  (.seq
   (.jf [⟨some 5,none,[.t 0],.v (.mv)⟩,
     ⟨some 6,none,[.t 1],.v (.mv)⟩,
     ⟨some 7,none,[.t 5,.t 6],.aE g⟩,
     ⟨some 8,none,[.t 7,.c (.pv (.int .i64 0))],.v (.bin .geq)⟩,
     ⟨some 4,none,[.t 8],.v (.mv)⟩] [4])
   .ret)),none,false⟩
structure Eqs{α:Type}[DecidableEq α](f:α->PV):Prop where
 el:El f 1 false
 eq:∀x y,bG (.bin .eql) [.pv (f x),.pv (f y)]=some (.pv (.bool (decide (x=y))))
def Sb:Eqs PV.str:=⟨mB,fun x y=>by simp;rw[za0];simp⟩
def XO{α:Type}(f:α->PV)(s:List α)(y:α)(i:Nat):Option Nat->Option (bh×St)
 |some k=>some (.ret,⟨[(4,.pv (vI (i+k:Nat)))],[],[],[]⟩)
 |none=>some (.exit 0,⟨[(0,.pv (.aq (s.map f))),(1,.pv (f y)),(7,.pv (vI s.length)),(8,.pv (vI s.length)),(9,.pv (.bool false))],[],[],[]⟩)
theorem LIx{α:Type}[DecidableEq α]{f:α->PV}(a:Eqs f){s:List α}(hS:Sm s)(y:α):∀(n i:Nat),s.length-i=n->i<=s.length->
   cl AP IxL ⟨[(0,.pv (.aq (s.map f))),(1,.pv (f y)),(7,.pv (vI s.length)),(8,.pv (vI i))],[],[],[]⟩=XO f s y i (bS (fun x=>decide (y=x)) (s.drop i))
 |0,i,hn,hi=>by
  have:i=s.length:=by omega
  subst this;rw[Pk];simp[YY,bS,XO]
 |n+1,i,hn,hi=>by
  have hi:i<s.length:=(by omega);obtain⟨x,hx⟩:=aQ hi;unfold Sm at hS;have b:=LIx a hS y n (i+1) (by omega) (by omega);simp at b;have h1:=a.el.len x;have h2:=a.el.of x;have h3:=a.eq y x;rw[Pk,aR hx];by_cases e:y=x
  .rw[za2 e]at h3;simp(disch:=omega)[-getElem?_pos,YY,hx,hi,e,bS,XO,h1,h2];rw[<-e]at h3⊢;simp[h3]
  .rw[zaY e]at h3;simp(disch:=omega)[-getElem?_pos,YY,hx,hi,e,bS,ae,b,h1,h2,h3];cases bS (fun x=>decide (y=x)) (s.drop (i+1))with
   |none=>rfl
   |some k=>simp[XO];omega
def cIx{α:Type}[DecidableEq α]{f:α->PV}(b:Eqs f){k:Nat}(a:AP k=some YZ){s:List α}(hS:Sm s){y:α}:(az AP).p k [.aq (s.map f),f y]=some [vI (lr (bS (fun x=>decide (y=x)) s))]:=by
 have h:=LIx b hS y _ 0 rfl (by omega);simp at h;rw[bD a rfl (by simp[YZ])];cases hi:bS (fun x=>decide (y=x)) s with
 |none=>rw[hi]at h;simp[XO]at h;simp[YZ,h,lr]
 |some k=>rw[hi]at h;simp[XO]at h;simp[YZ,h,lr]
def Sd{α:Type}[DecidableEq α]{s:List α}{y:α}:(s.any fun x=>decide (y=x))=decide (y∈s):=by
 rw[za0];simp
def cCo{α:Type}[DecidableEq α]{f:α->PV}(b:Eqs f){m k:Nat}(hm:AP m=some (CoF k))(a:AP k=some YZ){s:List α}(hS:Sm s){y:α}:(az AP).p m [.aq (s.map f),f y]=some [.bool (decide (y∈s))]:=by
 have h:=cIx b a hS (y:=y);rw[bD hm rfl (by simp[CoF]),<-Sd,<-v_];simp[CoF,h]
def L95{s:List Int}(hS:Sm s)(y:Int):∀(n i:Nat),s.length-i=n->i<=s.length->
   cl AP g95L0 ⟨[(0,.pv (.aq (s.map vI))),(1,.pv (vI y)),(5,.pv (vI i))],[],[],[]⟩=
     if y∈s.drop i then some (.ret,⟨[(4,.pv (.bool true))],[],[],[]⟩)else some (.exit 0,⟨[(0,.pv (.aq (s.map vI))),(1,.pv (vI y)),(5,.pv (vI s.length)),(9,.pv (.bool false))],[],[],[]⟩)
 |0,i,hn,hi=>by
  have:i=s.length:=by omega
  subst this;rw[g95L0e];simp[g95B0]
 |n+1,i,hn,hi=>by
  have hi:i<s.length:=(by omega);obtain⟨x,hx⟩:=aQ hi;unfold Sm at hS;have a:=L95 hS y n (i+1) (by omega) (by omega);simp at a;rw[g95L0e,aR hx];by_cases e:x=y
  .simp(disch:=omega)[-getElem?_pos,g95B0,hx,hi,e]
  .have b:¬y=x:=fun h=>e h.symm;simp(disch:=omega)[-getElem?_pos,g95B0,hx,hi,e,b,ae,a]
def c95{s:List Int}(hS:Sm s){y:Int}:(az AP).p 95 [.aq (s.map vI),vI y]=some [.bool (decide (y∈s))]:=by
 have h:=L95 hS y _ 0 rfl (by omega);simp at h;rw[aw g95];by_cases e:y∈s<;>simp[g95,h,e]
mutual
def Ty.nodes:Ty->List Ty
 |⟨k,n,i,h,as⟩=>⟨k,n,i,h,as⟩::Ty.wh as
def Ty.wh:List Ty->List Ty
 |[]=>[]
 |a::r=>a.nodes++Ty.wh r
end
def Ty.yi:∀l:List Ty,Ty.wh l=l.flatMap Ty.nodes
 |[]=>by simp[Ty.wh]
 |a::r=>by simp[Ty.wh,Ty.yi r]
def Ty.aL(t:Ty):t.nodes=t::t.args.flatMap Ty.nodes:=by cases t;simp only[Ty.nodes,Ty.yi]
def gZ{α:Type}[DecidableEq α]:∀{l S:List α},l.Nodup->(∀x∈l,x∈S)->l.length<=S.length
 |[],_,_,_=>by simp
 |x::r,S,hn,h=>by
  have hx:=h x (by simp)
  have hr:=gZ (l:=r) (S:=S.erase x) (zc8.1 hn).2 (fun y hy=>by
   rw[List.mem_erase_of_ne]
   .exact h y (by simp[hy])
   .rintro rfl;exact(zc8.1 hn).1 hy)
  have:=List.length_erase_of_mem hx;have:0<S.length:=List.length_pos_of_mem hx;simp;omega
def eR(out:List Int)(x:Ty):List Int:=if x.kind=1/\x.id∉out then out++[x.id]else out
structure lO(S out:List Int):Prop where
 nodup:out.Nodup
 sub:∀x∈out,x∈S
 Iw:S.length<1099511627776
def lO.len{S out:List Int}(h:lO S out):Sm out:=by
 have:=gZ h.nodup h.sub;have:=h.Iw;unfold Sm;omega
def lO.add{S out:List Int}(h:lO S out){x:Ty}(hx:x.kind=1->x.id∈S):lO S (eR out x):=by
 unfold eR;split
 .rename_i e;refine⟨?_,?_,h.Iw⟩
  .rw[zcY];refine⟨h.nodup,by simp,?_⟩;intro a d b c;simp at c;subst c
   rintro rfl;exact e.2 d
  .intro y hy;simp at hy;rcases hy with hy|rfl
   .exact h.sub y hy
   .exact hx e.1
 .exact h
def lO.fold{S:List Int}:∀{l:List Ty}{out:List Int},lO S out->(∀x∈l,x.kind=1->x.id∈S)->lO S (l.foldl eR out)
 |[],_,h,_=>h
 |x::r,out,h,hx=>by
  simp only[zaS];exact lO.fold (h.add (hx x (by simp))) (fun y hy=>hx y (by simp[hy]))
def vars(l:List Ty):List Int:=(l.flatMap Ty.nodes).foldl eR []
def wi{S:List Int}(h:S.length<1099511627776):lO S []:=⟨by simp,by simp,h⟩
mutual
def Ty.fm(k:Int):Ty->List Ty
 |⟨kd,n,i,h,as⟩=>if kd=k/\as.length=0 then[⟨kd,n,i,h,as⟩]else Ty.Pl k as
def Ty.Pl(k:Int):List Ty->List Ty
 |[]=>[]
 |a::r=>a.fm k++Ty.Pl k r
end
def Ty.Ix(k:Int):∀l:List Ty,Ty.Pl k l=l.flatMap (Ty.fm k)
 |[]=>by simp[Ty.Pl]
 |a::r=>by simp[Ty.Pl,Ty.Ix k r]
def Ty.nH(k:Int)(t:Ty):t.fm k=if t.kind=k/\t.args.length=0 then[t]else t.args.flatMap (Ty.fm k):=by cases t;simp only[Ty.fm,Ty.Ix]
noncomputable def iw(out:List Ty)(x:Ty):List Ty:=if x∈out then out else out++[x]
structure gM(S out:List Ty):Prop where
 nodup:out.Nodup
 sub:∀x∈out,x∈S
 Iw:S.length<1099511627776
 ok:∀x∈S,x.Ok
def gM.len{S out:List Ty}(h:gM S out):Sm out:=by
 have:=gZ h.nodup h.sub;have:=h.Iw;unfold Sm;omega
def gM.add{S out:List Ty}(h:gM S out){x:Ty}(hx:x∈S):gM S (iw out x):=by
 unfold iw;split
 .exact h
 .rename_i e;refine⟨?_,?_,h.Iw,h.ok⟩
  .rw[zcY];refine⟨h.nodup,by simp,?_⟩;intro a d b c;simp at c;subst c
   rintro rfl;exact e d
  .intro y hy;simp at hy;rcases hy with hy|rfl
   .exact h.sub y hy
   .exact hx
def gM.fold{S:List Ty}:∀{l:List Ty}{out:List Ty},gM S out->(∀x∈l,x∈S)->gM S (l.foldl iw out)
 |[],_,h,_=>h
 |x::r,out,h,hx=>by
  simp only[zaS];exact gM.fold (h.add (hx x (by simp))) (fun y hy=>hx y (by simp[hy]))
def Y0{S out:List Ty}(h:gM S out)(t:Ty):∀(n i:Nat),out.length-i=n->i<=out.length->
   cl AP g99L0 ⟨[(0,.own (out.map Ty.pv) 0),(4,.au 4 0),(7,.pv (vI i))],[(4,[.pv (vI t.kind),.pv (.str t.name),.pv (vI t.id),.pv (vI t.home),.pv (.aq (t.args.map Ty.pv))])],[],[out.length]⟩=
     if t∈out.drop i then some (.ret,⟨[(6,.own (out.map Ty.pv) 0)],[],[],[out.length]⟩)
     else some (.exit 0,⟨[(0,.own (out.map Ty.pv) 0),(4,.au 4 0),(7,.pv (vI out.length)),(22,.pv (.bool false))],[(4,[.pv (vI t.kind),.pv (.str t.name),.pv (vI t.id),.pv (vI t.home),.pv (.aq (t.args.map Ty.pv))])],[],[out.length]⟩)
 |0,i,hn,hi=>by
  have:i=out.length:=by omega
  subst this;rw[g99L0e];simp[g99B0]
 |n+1,i,hn,hi=>by
  have hi:i<out.length:=(by omega);obtain⟨x,hx⟩:=aQ hi;have hS:=h.len;unfold Sm at hS;have k:=c20 (b:=t) (h.ok x (h.sub x (aK hx)));have a:=Y0 h t n (i+1) (by omega) (by omega);rw[g99L0e]at a⊢;rw[aR hx];simp at a k;by_cases e:x=t
  .subst e;rw[za2 rfl]at k;simp(disch:=omega)[-getElem?_pos,g99B0,hx,hi,k]
  .have c:¬t=x:=fun h=>e h.symm;rw[zaY e]at k;simp(disch:=omega)[-getElem?_pos,g99B0,hx,hi,k,c,ae];rw[g99L0e];simp[a]
def Y1{S:List Ty}{kd:Int}{t:Ty}(hS:Sm t.args)(h:∀x∈t.args,∀out,gM S out->(az AP).i 99 [.own (out.map Ty.pv) 0,.pv x.pv,.pv (vI kd)] [] [out.length]=some ([.own (((x.fm kd).foldl iw out).map Ty.pv) 0],[],[((x.fm kd).foldl iw out).length]))
   (c:∀x∈t.args.flatMap (Ty.fm kd),x∈S):∀(n i:Nat),t.args.length-i=n->i<=t.args.length->∀out,gM S out->
   cl AP g99L1 ⟨[(0,.own (out.map Ty.pv) 0),(2,.pv (vI kd)),(4,.au 4 0),(8,.pv (vI i))],[(4,[.pv (vI t.kind),.pv (.str t.name),.pv (vI t.id),.pv (vI t.home),.pv (.aq (t.args.map Ty.pv))])],[],[out.length]⟩=
     some (.exit 2,⟨[(0,.own ((((t.args.drop i).flatMap (Ty.fm kd)).foldl iw out).map Ty.pv) 0),(2,.pv (vI kd)),(4,.au 4 0),(8,.pv (vI t.args.length)),(40,.pv (.bool false))],[(4,[.pv (vI t.kind),.pv (.str t.name),.pv (vI t.id),.pv (vI t.home),.pv (.aq (t.args.map Ty.pv))])],[],[(((t.args.drop i).flatMap (Ty.fm kd)).foldl iw out).length]⟩)
 |0,i,hn,hi,out,hc=>by
  have:i=t.args.length:=by omega
  subst this;rw[g99L1e];simp[g99B1]
 |n+1,i,hn,hi,out,hc=>by
  have hi:i<t.args.length:=(by omega);obtain⟨x,hx⟩:=aQ hi;unfold Sm at hS;have b:∀y∈x.fm kd,y∈S:=fun y hy=>c y (by simp only[zaC];exact⟨x,aK hx,hy⟩)
  have k:=h x (aK hx) out hc;have a:=Y1 hS h c n (i+1) (by omega) (by omega) _ (hc.fold b);rw[g99L1e]at a⊢;rw[aR hx];simp at k a;simp(disch:=omega)[-getElem?_pos,g99B1,hx,hi,k,ae];rw[g99L1e];simp[a]
def c99{S:List Ty}{kd:Int}{t:Ty}(b:t.Ok)(a:∀x∈t.fm kd,x∈S):∀out,gM S out->
   (az AP).i 99 [.own (out.map Ty.pv) 0,.pv t.pv,.pv (vI kd)] [] [out.length]=some ([.own (((t.fm kd).foldl iw out).map Ty.pv) 0],[],[((t.fm kd).foldl iw out).length]):=by
 revert b a
 refine Ty.cD (p:=fun t=>t.Ok->(∀x∈t.fm kd,x∈S)->∀out,gM S out->
   (az AP).i 99 [.own (out.map Ty.pv) 0,.pv t.pv,.pv (vI kd)] [] [out.length]=some ([.own (((t.fm kd).foldl iw out).map Ty.pv) 0],[],[((t.fm kd).foldl iw out).length])) ?_ t
 intro t d b a out hc;rw[Ty.nH]at a⊢;have hl:=hc.len;unfold Sm at hl;have f:(out.length+1)*64<=140737488355328:=by omega
 rw[aM g99];by_cases e:t.kind=kd/\t.args.length=0
 .rw[zan e]at a⊢;obtain⟨e1,e2⟩:=e;subst e1;have e3:t.args=[]:=by simpa using e2
  have h:=Y0 hc t _ 0 rfl (by omega);rw[g99L0e]at h;simp[e3]at h;by_cases em:t∈out
  .simp[em]at h;have c:iw out t=out:=by simp[iw,em]
   simp[g99,e3,g99L0e,h,c]
  .simp[em]at h;have c:iw out t=out++[t]:=by simp[iw,em]
   simp[g99,e3,g99L0e,h,c,f]
 .rw[zai e]at a⊢;have h:=Y1 (S:=S) (kd:=kd) b.sm (fun x hx out hc=>d x hx (b.d6 x hx) (fun y hy=>a y (by simp only[zaC];exact⟨x,hx,hy⟩)) out hc) a _ 0 rfl (by omega) out hc;rw[g99L1e]at h;simp at h;by_cases e1:t.kind=kd
  .have e2:¬t.args.length=0:=fun h=>e ⟨e1,h⟩;have e3:¬t.args=[]:=by simpa using e2
   subst e1;simp[g99,e2,e3,g99L1e,h]
  .simp[g99,e1,g99L1e,h]
def rV(out:List Int)(x:Ty):List Int:=if x.id∈out then out else out++[x.id]
noncomputable def oB(l:List Ty):List Int:=((l.flatMap (Ty.fm 1)).foldl iw []).foldl rV []
def Y2{S:List Ty}{l:List Ty}(hS:Sm l)(d:∀t∈l,t.Ok)(c:∀x∈l.flatMap (Ty.fm 1),x∈S):∀(n i:Nat),l.length-i=n->i<=l.length->∀out,gM S out->
   cl AP g56L0 ⟨[(0,.pv (.aq (l.map Ty.pv))),(3,.own (out.map Ty.pv) 0),(4,.pv (vI i))],[],[],[out.length]⟩=
     some (.exit 0,⟨[(0,.pv (.aq (l.map Ty.pv))),(3,.own ((((l.drop i).flatMap (Ty.fm 1)).foldl iw out).map Ty.pv) 0),(4,.pv (vI l.length)),(10,.pv (.bool false))],[],[],[(((l.drop i).flatMap (Ty.fm 1)).foldl iw out).length]⟩)
 |0,i,hn,hi,out,hc=>by
  have:i=l.length:=by omega
  subst this;rw[g56L0e];simp[g56B0]
 |n+1,i,hn,hi,out,hc=>by
  have hi:i<l.length:=(by omega);obtain⟨x,hx⟩:=aQ hi;unfold Sm at hS;have a:∀y∈x.fm 1,y∈S:=fun y hy=>c y (by simp only[zaC];exact⟨x,aK hx,hy⟩)
  have k:=c99 (kd:=1) (d x (aK hx)) a out hc;have b:=Y2 hS d c n (i+1) (by omega) (by omega) _ (hc.fold a);rw[g56L0e]at b⊢;rw[aR hx];simp at k b;simp(disch:=omega)[-getElem?_pos,g56B0,hx,hi,k,ae];rw[g56L0e];simp[b]
def Pm{l:List Ty}{out:List Int}:(l.foldl rV out).length<=out.length+l.length:=by
 induction l generalizing out with
 |nil=>simp
 |cons x r a=>
  simp only[zaS,zae];have:=a (out:=rV out x);have h2:(rV out x).length<=out.length+1:=by unfold rV;split<;>simp
  omega
def Wk{S l:List Ty}(hc:gM S l):∀(n i:Nat),l.length-i=n->i<=l.length->∀out:List Int,out.length<=i->
   cl AP g56L1 ⟨[(3,.own (l.map Ty.pv) 0),(5,.own (out.map vI) 1),(6,.pv (vI i))],[],[],[l.length,out.length]⟩=
     some (.exit 2,⟨[(3,.own (l.map Ty.pv) 0),(5,.own (((l.drop i).foldl rV out).map vI) 1),(6,.pv (vI l.length)),(22,.pv (.bool false))],[],[],[l.length,((l.drop i).foldl rV out).length]⟩)
 |0,i,hn,hi,out,c=>by
  have:i=l.length:=by omega
  subst this;rw[g56L1e];simp[g56B1]
 |n+1,i,hn,hi,out,c=>by
  have hi:i<l.length:=(by omega);obtain⟨x,hx⟩:=aQ hi;have hS:=hc.len;unfold Sm at hS;have k:=c95 (s:=out) (by unfold Sm;omega) (y:=x.id);have f:(out.length+1)*8<=140737488355328:=(by omega);have d:bl 1 (out.map vI)=true:=lq.head out;rw[aR hx];by_cases e:x.id∈out
  .have a:=Wk hc n (i+1) (by omega) (by omega) out (by omega);have b:rV out x=out:=(by simp[rV,e]);rw[g56L1e]at a⊢;rw[za2 e]at k;simp at a;simp(disch:=omega)[-getElem?_pos,g56B1,hx,hi,k,ae];rw[g56L1e];simp[a,b]
  .have a:=Wk hc n (i+1) (by omega) (by omega) (out++[x.id]) (by simp;omega);have b:rV out x=out++[x.id]:=(by simp[rV,e]);rw[g56L1e]at a⊢;rw[zaY e]at k;simp at a;simp(disch:=omega)[-getElem?_pos,g56B1,hx,hi,k,ae,f,d];rw[g56L1e];simp[a,b]
def c56{S:List Ty}(hf:S.length<1099511627776)(a:∀x∈S,x.Ok){l:List Ty}(hS:Sm l)(c:∀t∈l,t.Ok)(b:∀x∈l.flatMap (Ty.fm 1),x∈S):(az AP).p 56 [.aq (l.map Ty.pv)]=some [.aq ((oB l).map vI)]:=by
 have c0:gM S []:=⟨by simp,by simp,hf,a⟩;have h1:=Y2 hS c b _ 0 rfl (by omega) [] c0;have h2:=Wk (c0.fold (l:=l.flatMap (Ty.fm 1)) b) _ 0 rfl (by omega) [] (by simp);rw[aw g56];rw[g56L0e]at h1;rw[g56L1e]at h2;simp at h1 h2;simp[g56,g56L0e,h1,g56L1e,h2,oB]
def Mj{t:Ty}(b:t.Wf):∀out,t.nodes.foldl eR out=(t.fm 1).foldl eR out:=by
 revert b
 refine Ty.cD (p:=fun t=>t.Wf->∀out,t.nodes.foldl eR out=(t.fm 1).foldl eR out) ?_ t;intro t d b out
 have flat:∀(as:List Ty),(∀x∈as,x∈t.args)->∀out,(as.flatMap Ty.nodes).foldl eR out=(as.flatMap (Ty.fm 1)).foldl eR out:=by
  intro as;induction as with
  |nil=>intro _ _;rfl
  |cons a r c=>
   intro h out;simp only[zav,zck];rw[d a (h a (by simp)) (b.d6 a (h a (by simp))),c (fun x hx=>h x (by simp[hx]))]
 rw[Ty.aL,Ty.nH];by_cases e:t.kind=1
 .have f:=b.var e;simp[e,f]
 .have:eR out t=out:=by simp[eR,e]
  simp only[zaS,this];rw[zai (fun h=>e h.1)];exact flat t.args (fun _ h=>h) out
def Pn{k:Int}{t x:Ty}(h:x∈t.fm k):x.kind=k/\x.args=[]:=by
 revert h
 refine Ty.cD (p:=fun t=>x∈t.fm k->x.kind=k/\x.args=[]) ?_ t;intro t a h;rw[Ty.nH]at h;split at h
 .rename_i e;simp at h;subst h;exact⟨e.1,by simpa using e.2⟩
 .simp only[zaC]at h;obtain⟨y,hy,hx⟩:=h;exact a y hy hx
def Po{l:List Ty}{out:List Int}{x:Ty}(b:x.kind=1)(h:x∈l):x.id∈l.foldl eR out:=by
 have mono:∀(l:List Ty)(out:List Int)(i:Int),i∈out->i∈l.foldl eR out:=by
  intro l;induction l with
  |nil=>intro out i h;exact h
  |cons y r a=>
   intro out i h;simp only[zaS];refine a _ _ ?_;unfold eR;split<;>simp[h]
 induction l generalizing out with
 |nil=>simp at h
 |cons y r a=>
  simp only[zaS];simp at h;rcases h with rfl|h
  .refine mono _ _ _ ?_;unfold eR;split
   .simp
   .rename_i e;simp[b]at e;exact e
  .exact a h
def Mk(l:List Ty)(a:∀x∈l,x.kind=1):∀acc:List Ty,(l.foldl iw acc).foldl eR []=l.foldl eR (acc.foldl eR []):=by
 induction l with
 |nil=>intro acc;rfl
 |cons x r b=>
  intro acc;simp only[zaS];rw[b (fun y hy=>a y (by simp[hy]))];congr 1;unfold iw;split
  .rename_i e;have:=Po (out:=[]) (a x (by simp)) e;simp[eR,this]
  .simp
def Ml(l:List Ty)(a:∀x∈l,x.kind=1):∀out,l.foldl rV out=l.foldl eR out:=by
 induction l with
 |nil=>intro out;rfl
 |cons x r b=>
  intro out;simp only[zaS];rw[b (fun y hy=>a y (by simp[hy]))];congr 1;unfold rV eR;have:=a x (by simp);by_cases e:x.id∈out<;>simp[e,this]
def Pq{l acc:List Ty}{x:Ty}(h:x∈l.foldl iw acc):x∈acc\/x∈l:=by
 induction l generalizing acc with
 |nil=>exact .inl h
 |cons y r a=>
  simp only[zaS]at h;rcases a h with h|h
  .unfold iw at h;split at h
   .exact .inl h
   .simp at h;rcases h with h|rfl
    .exact .inl h
    .right;simp
  .right;simp[h]
def wj{l:List Ty}(d:∀t∈l,t.Wf):oB l=vars l:=by
 have b:∀x∈l.flatMap (Ty.fm 1),x.kind=1:=fun x hx=>by
  simp only[zaC]at hx;obtain⟨t,_,h⟩:=hx;exact(Pn h).1
 unfold oB vars;rw[Ml _ (fun x hx=>by rcases Pq hx with h|h;simp at h;exact b x h),Mk _ b]
 have:∀(l:List Ty),(∀t∈l,t.Wf)->∀out,(l.flatMap (Ty.fm 1)).foldl eR out=(l.flatMap Ty.nodes).foldl eR out:=by
  intro l;induction l with
  |nil=>intro _ _;rfl
  |cons a r c=>
   intro h out;simp only[zav,zck];rw[Mj (h a (by simp)),c (fun t ht=>h t (by simp[ht]))]
 exact this l d []
def c176{t:Ty}:(az AP).p 176 [t.pv]=some [(As.mk 0 t).pv]:=by
 rw[aw g176];simp[g176]
def c179{l:List En}(hS:Sm l){n:List UInt8}{c:Sc}:(az AP).p 179 [.aq (l.map En.pv),.str n,c.pv]=some [.aq ((l++[En.mk n c]).map En.pv)]:=by
 unfold Sm at hS;have d:(l.length+1)*88<=140737488355328:=by omega
 have b:l.length*88<=140737488355328:=by omega
 rw[aw g179];cases l with
 |nil=>simp[g179]
 |cons a r=>
  simp at d b;simp[g179,d,b]
def dD:List En->List En
 |[]=>[]
 |a::r=>if(r.any fun x=>decide (x.name=a.name))=true then dD r else a::dD r
def aaN{sz:Nat}{l:List PV}{k:IntKind}{h:Int}(h0:0<=h)(h1:h<=l.length)(hs:bl sz l=true):cx false sz true false false [.pv (.aq l),.pv (.int k h)]=some (.pv (.aq (l.drop h.toNat))):=by
 simp[cx,cG,dw,h0,h1,hs]
def any_none{r:List En}{a:En}:(r.any fun x=>decide (x.name=a.name))=true<->∃c,Is r a.name=some c:=by
 induction r with
 |nil=>simp[Is]
 |cons b r d=>
  simp only[zbC,zbs,d,Is,za5];cases h:Is r a.name with
  |some c=>simp
  |none=>by_cases e:b.name=a.name<;>simp[e]
def ki(l:List En):∀x∈dD l,x∈l:=by
 induction l with
 |nil=>simp[dD]
 |cons a r b=>
  intro x hx;simp only[dD]at hx;split at hx
  .simp[b x hx]
  .simp at hx;rcases hx with rfl|hx
   .simp
   .simp[b x hx]
def wm(l:List En):(dD l).length<=l.length:=by
 induction l with
 |nil=>simp[dD]
 |cons a r b=>
  simp only[dD];split<;>simp<;>omega
def varNames:List (List UInt8):=[[120],[121],[122],[102],[103],[118,49],[118,50],[105,100]]
def cZ(ids:List Int):List Int->List As->List As
 |[],acc=>acc
 |v::r,acc=>cZ ids r (if v∈ids then acc++[⟨v,cL acc.length⟩]else acc)
def qI(ids:List Int)(t:Ty)(vs:List Int):Sc:=⟨(cZ ids vs []).length,t.sub (cZ ids vs [])⟩
def Wl{t:Ty}{ids vs:List Int}(hS:Sm vs)(hi:Sm ids):∀(n i:Nat),vs.length-i=n->i<=vs.length->∀acc:List As,acc.length<=i->
   cl AP g208L0 ⟨[(1,.pv (.aq (ids.map vI))),(2,.au 2 0),(4,.au 4 0),(5,.pv (.aq (vs.map vI))),(6,.own (acc.map As.pv) 0),(7,.pv (vI i))],[(2,[.pv (vI t.kind),.pv (.str t.name),.pv (vI t.id),.pv (vI t.home),.pv (.aq (t.args.map Ty.pv))]),(4,[.pv (vI 0),.pv (vI 0),.pv (.str []),.pv (vI 0),.pv (vI 0),.own [] 1])],[],[acc.length,0]⟩=
     some (.exit 0,⟨[(1,.pv (.aq (ids.map vI))),(2,.au 2 0),(4,.au 4 0),(5,.pv (.aq (vs.map vI))),(6,.own ((cZ ids (vs.drop i) acc).map As.pv) 0),(7,.pv (vI vs.length)),(14,.pv (.bool false))],[(2,[.pv (vI t.kind),.pv (.str t.name),.pv (vI t.id),.pv (vI t.home),.pv (.aq (t.args.map Ty.pv))]),(4,[.pv (vI 0),.pv (vI 0),.pv (.str []),.pv (vI 0),.pv (vI 0),.own [] 1])],[],[(cZ ids (vs.drop i) acc).length,0]⟩)
 |0,i,hn,a,acc,f=>by
  have:i=vs.length:=by omega
  subst this;rw[g208L0e];simp[g208B0,cZ]
 |n+1,i,hn,a,acc,f=>by
  have a:i<vs.length:=(by omega);obtain⟨x,hx⟩:=aQ a;unfold Sm at hS;have k:=c95 hi (y:=x);have k2:=c72 (n:=acc.length);have d:(acc.length+1)*72<=140737488355328:=(by omega);rw[aR hx];by_cases e:x∈ids
  .have b:=Wl (t:=t) hS hi n (i+1) (by omega) (by omega) (acc++[⟨x,cL acc.length⟩]) (by simp;omega);have c:cZ ids (x::vs.drop (i+1)) acc=cZ ids (vs.drop (i+1)) (acc++[⟨x,cL acc.length⟩]):=(by simp[cZ,e]);rw[c];rw[g208L0e]at b⊢;rw[za2 e]at k;simp[cL]at b k2;simp(disch:=omega)[-getElem?_pos,g208B0,hx,a,k,k2,ae,d,cL];rw[g208L0e];simp[b,cL]
  .have b:=Wl (t:=t) hS hi n (i+1) (by omega) (by omega) acc (by omega);have c:cZ ids (x::vs.drop (i+1)) acc=cZ ids (vs.drop (i+1)) acc:=(by simp[cZ,e]);rw[c];rw[g208L0e]at b⊢;rw[zaY e]at k;simp at b;simp(disch:=omega)[-getElem?_pos,g208B0,hx,a,k,ae];rw[g208L0e];simp[b]
def wo{ids:List Int}:∀(vs:List Int)(acc:List As),(cZ ids vs acc).length<=acc.length+vs.length
 |[],acc=>by simp[cZ]
 |v::r,acc=>by
  simp only[cZ];have:=wo (ids:=ids) r (if v∈ids then acc++[⟨v,cL acc.length⟩]else acc);split at this<;>simp at this⊢<;>(split<;>simp_all<;>omega)
structure Y3(t:Ty):Prop where
 ok:t.Ok
 wf:t.Wf
 Iw:∃S:List Ty,S.length<1099511627776/\(∀x∈S,x.Ok)/\∀x∈t.fm 1,x∈S
def wq{t:Ty}(h:Y3 t):Sm (oB [t]):=by
 obtain⟨S,hf,a,b⟩:=h.Iw;have c0:gM S []:=⟨by simp,by simp,hf,a⟩;have:=(c0.fold (l:=[t].flatMap (Ty.fm 1)) (by simpa using b)).len;unfold Sm at*;have h2:=Pm (l:=([t].flatMap (Ty.fm 1)).foldl iw []) (out:=[]);unfold oB;simp at this h2⊢;omega
def c208{t:Ty}(h:Y3 t){ids:List Int}(hi:Sm ids):(az AP).p 208 [t.pv,.aq (ids.map vI)]=some [(qI ids t (vars [t])).pv]:=by
 obtain⟨S,hf,a,b⟩:=h.Iw;have k1:=c56 hf a (l:=[t]) (by simp[Sm]) (by simpa using h.ok) (by simpa using b);have hv:=wq h;rw[wj (by simpa using h.wf)]at k1 hv;have k2:=Wl (t:=t) hv hi _ 0 rfl (by omega) [] (by simp);have hl:=wo (ids:=ids) (vars [t]) [];have k3:=c46 (s:=cZ ids (vars [t]) []) (by unfold Sm at hv⊢;simp at hl;omega) h.ok;rw[aw g208];rw[g208L0e]at k2;simp at k1 k2 k3;simp[g208,k1,g208L0e,k2,k3,qI]
def cW{t:Ty}(h:t.args=[]):t.Ok:=⟨by rw[h];simp[Sm],by rw[h];simp⟩
def yl{ids:List Int}:∀(vs:List Int)(acc:List As),(∀a∈acc,a.ty.Ok)->∀a∈cZ ids vs acc,a.ty.Ok
 |[],acc,h=>by simpa[cZ]using h
 |v::r,acc,h=>by
  simp only[cZ];refine yl r _ ?_;split
  .intro a b;simp at b;rcases b with b|rfl
   .exact h a b
   .exact cW rfl
  .exact h
def Hf{ids vs:List Int}{t:Ty}(h:t.Ok):(qI ids t vs).ty.Ok:=Hc (yl vs [] (by simp)) h
inductive gN (D:Dt->Prop) (lv:List Ty):Nat->Ty->Prop
 |leaf {n:Nat} {t:Ty}:t∈lv->gN D lv n t
 |int {n:Nat}:gN D lv n bK
 |cv {n:Nat} {d:Dt} {args:List Ty}:D d->args.length=d.params.length->(∀x∈args,gN D lv n x)->gN D lv (n+1) ⟨4,d.name,0,0,args⟩
 |arrow {n:Nat} {a b:Ty}:gN D lv n a->gN D lv n b->gN D lv (n+1) ⟨4,[45,62],0,0,[a,b]⟩
def gN.ok{D:Dt->Prop}(b:∀d,D d->d.params.length<=8){lv:List Ty}(h:∀t∈lv,t.args=[]){n:Nat}{t:Ty}(m:gN D lv n t):t.Ok:=by
 induction m with
 |leaf hl=>exact cW (h _ hl)
 |int=>exact cW rfl
 |cv hd hl _ a=>exact⟨by have:=b _ hd;unfold Sm;simp;omega,a⟩
 |arrow _ _ e c=>exact⟨by simp[Sm],by intro x hx;simp at hx;rcases hx with rfl|rfl<;>assumption⟩
def Pr{f:Ty->List Ty}{b:Nat}:∀{l:List Ty},(∀x∈l,(f x).length<=b)->(l.flatMap f).length<=l.length*b
 |[],_=>by simp
 |a::r,h=>by
  have h1:=h a (by simp);have h2:=Pr (f:=f) (b:=b) (l:=r) (fun x hx=>h x (by simp[hx]));simp only[zav,zad,zae,zaI];omega
def gN.small{D:Dt->Prop}(e:∀d,D d->d.params.length<=8){lv:List Ty}(h:∀t∈lv,t.args=[]){n:Nat}{t:Ty}(m:gN D lv n t):t.nodes.length<=9 ^ n:=by
 have one:∀n:Nat,1<=9 ^ n:=fun n=>zcL n 9 (by decide);induction m with
 |leaf hl=>rw[Ty.aL,h _ hl];simpa using one _
 |int=>rw[Ty.aL];simpa[bK]using one _
 | @cv n d args hd hl _ c=>
  rw[Ty.aL];have h1:=Pr (f:=Ty.nodes) (l:=args) c;have h2:=e _ hd;have h3:=one n;have h4:args.length*9 ^ n<=8*9 ^ n:=zaZ _ (by omega);simp only[zae,zcj];omega
 | @arrow n a b _ _ i g=>
  rw[Ty.aL];have h3:=one n;simp only[zae,zav,zc5,zax,zad,zcj];omega
abbrev bj:=List UInt8
def c214{s:List bj}(hS:Sm s){y:bj}:(az AP).p 214 [.aq (s.map .str),.str y]=some [.bool (decide (y∈s))]:=by
 rw[cCo Sb (m:=214) (k:=223) rfl rfl hS];simp only[zag,zbH,PV.bool.injEq,and_true];rw[za0];simp
theorem Y4{s:List bj}(hS:Sm s)(y:bj):∀(n i:Nat),s.length-i=n->i<=s.length->
   cl AP g216L0 ⟨[(0,.pv (.aq (s.map .str))),(1,.pv (.str y)),(5,.pv (vI i))],[],[],[]⟩=
     match bS (fun x=>decide (x=y)) (s.drop i)with
     |some k=>some (.ret,⟨[(4,.pv (vI (i+k:Nat)))],[],[],[]⟩)
     |none=>some (.exit 0,⟨[(0,.pv (.aq (s.map .str))),(1,.pv (.str y)),(5,.pv (vI s.length)),(9,.pv (.bool false))],[],[],[]⟩)
 |0,i,hn,hi=>by
  have:i=s.length:=by omega
  subst this;rw[g216L0e];simp[g216B0,bS]
 |n+1,i,hn,hi=>by
  have hi:i<s.length:=(by omega);obtain⟨x,hx⟩:=aQ hi;unfold Sm at hS;have a:=Y4 hS y n (i+1) (by omega) (by omega);simp at a;rw[g216L0e,aR hx];by_cases e:x=y
  .simp(disch:=omega)[-getElem?_pos,g216B0,hx,hi,e,bS]
  .simp(disch:=omega)[-getElem?_pos,g216B0,hx,hi,e,bS,ae,a];cases bS (fun x=>decide (x=y)) (s.drop (i+1))with
   |none=>rfl
   |some k=>simp;omega
def pK(s:List bj)(y:bj):Int:=lr (bS (fun x=>decide (x=y)) s)
def c216{s:List bj}(hS:Sm s){y:bj}:(az AP).p 216 [.aq (s.map .str),.str y]=some [vI (pK s y)]:=by
 unfold pK;have h:=Y4 hS y _ 0 rfl (by omega);simp at h;rw[aw g216];cases hi:bS (fun x=>decide (x=y)) s with
 |none=>rw[hi]at h;simp at h;simp[g216,h,lr]
 |some k=>rw[hi]at h;simp at h;simp[g216,h,lr]
def C'{s:List bj}{y:bj}:pK s y<0<->y∉s:=by
 unfold pK;have h:=v_ (p:=fun x=>decide (x=y)) (s:=s);have e:s.any (fun x=>decide (x=y))=decide (y∈s):=by rw[za0];simp
 rw[e]at h;by_cases hy:y∈s
 .rw[za2 hy]at h;have h:=zcW h;exact⟨fun h'=>absurd h (zdf.2 h'),fun h'=>absurd hy h'⟩
 .rw[zaY hy]at h;have h:=of_decide_eq_false h;exact⟨fun _=>hy,fun _=>zdf.1 h⟩
def MX:List Dt->bj->Option Dt
 |[],_=>none
 |d::r,s=>if d.name=s then some d else MX r s
def Hg(ds:List Dt)(s:bj):Option Nat:=if s=[73,110,116]then some 0 else if s=[45,62]then some 2 else(MX ds s).map (·.params.length)
def rA:Option Nat->List PV
 |some n=>[vI n,.bool true]
 |none=>[vI 0,.bool false]
def Y5{ds:List Dt}(hS:Sm ds)(s:bj):∀(n i:Nat),ds.length-i=n->i<=ds.length->
   cl AP g215L0 ⟨[(1,.pv (.str s)),(13,.pv (.aq (ds.map Dt.pv))),(14,.pv (vI ds.length)),(15,.pv (vI i))],[],[],[]⟩=
     match MX (ds.drop i) s with
     |some d=>some (.ret,⟨[(4,.pv (vI d.params.length)),(5,.pv (.bool true))],[],[],[]⟩)
     |none=>some (.exit 1,⟨[(1,.pv (.str s)),(13,.pv (.aq (ds.map Dt.pv))),(14,.pv (vI ds.length)),(15,.pv (vI ds.length)),(16,.pv (.bool false))],[],[],[]⟩)
 |0,i,hn,hi=>by
  have:i=ds.length:=by omega
  subst this;rw[g215L0e];simp[g215B0,MX]
 |n+1,i,hn,hi=>by
  have hi:i<ds.length:=(by omega);obtain⟨x,hx⟩:=aQ hi;unfold Sm at hS;have a:=Y5 hS s n (i+1) (by omega) (by omega);rw[g215L0e]at a⊢;rw[aR hx];simp at a;by_cases e:x.name=s
  .simp(disch:=omega)[-getElem?_pos,g215B0,hx,hi,e,MX]
  .simp(disch:=omega)[-getElem?_pos,g215B0,hx,hi,e,MX,ae];rw[g215L0e];simp[a]
def c215{ds:List Dt}(hS:Sm ds){s:bj}:(az AP).p 215 [.aq (ds.map Dt.pv),.str s]=some (rA (Hg ds s)):=by
 have h:=Y5 hS s _ 0 rfl (by omega);rw[aw g215];rw[g215L0e]at h;simp at h;unfold Hg;by_cases e1:s=[73,110,116]
 .simp[g215,e1,rA]
 .by_cases e2:s=[45,62]
  .simp[g215,e2,rA]
  .cases hl:MX ds s with
   |none=>rw[hl]at h;simp at h;simp[g215,e1,e2,g215L0e,h,rA]
   |some d=>rw[hl]at h;simp at h;simp[g215,e1,e2,g215L0e,h,rA]
def Y6{ds:List Dt}(hS:Sm ds)(s:bj):∀(n i:Nat),ds.length-i=n->i<=ds.length->
   cl AP g217L0 ⟨[(0,.pv (.aq (ds.map Dt.pv))),(1,.pv (.str s)),(6,.pv (vI i))],[],[],[]⟩=
     match MX (ds.drop i) s with
     |some d=>some (.ret,⟨[(4,.pv (vI d.params.length)),(5,.pv (.bool true))],[],[],[]⟩)
     |none=>some (.exit 1,⟨[(0,.pv (.aq (ds.map Dt.pv))),(1,.pv (.str s)),(6,.pv (vI ds.length)),(15,.pv (.bool false))],[],[],[]⟩)
 |0,i,hn,hi=>by
  have:i=ds.length:=by omega
  subst this;rw[g217L0e];simp[g217B0,MX]
 |n+1,i,hn,hi=>by
  have hi:i<ds.length:=(by omega);obtain⟨x,hx⟩:=aQ hi;unfold Sm at hS;have a:=Y6 hS s n (i+1) (by omega) (by omega);rw[g217L0e]at a⊢;rw[aR hx];simp at a;by_cases e:x.name=s
  .simp(disch:=omega)[-getElem?_pos,g217B0,hx,hi,e,MX]
  .simp(disch:=omega)[-getElem?_pos,g217B0,hx,hi,e,MX,ae];rw[g217L0e];simp[a]
def c217{ds:List Dt}(hS:Sm ds){s:bj}:(az AP).p 217 [.aq (ds.map Dt.pv),.str s]=some (rA (Hg ds s)):=by
 have h:=Y6 hS s _ 0 rfl (by omega);rw[aw g217];rw[g217L0e]at h;simp at h;unfold Hg;by_cases e1:s=[73,110,116]
 .simp[g217,e1,rA]
 .by_cases e2:s=[45,62]
  .simp[g217,e2,rA]
  .cases hl:MX ds s with
   |none=>rw[hl]at h;simp at h;simp[g217,e1,e2,g217L0e,h,rA]
   |some d=>rw[hl]at h;simp at h;simp[g217,e1,e2,g217L0e,h,rA]
def g_(ds:List Dt)(l:List bj)(t:Ty):Int:=
 if t.kind=5 then(if t.name∈l then 0 else 7)
 else if t.kind=4 then(match Hg ds t.name with|none=>7|some n=>if n=t.args.length then 0 else 8)else 0
mutual
def Ty.formed(ds:List Dt)(l:List bj):Ty->Int
 |⟨k,n,i,h,as⟩=>if g_ ds l ⟨k,n,i,h,as⟩≠0 then g_ ds l ⟨k,n,i,h,as⟩else Ty.dK ds l as
def Ty.dK(ds:List Dt)(l:List bj):List Ty->Int
 |[]=>0
 |a::r=>if a.formed ds l≠0 then a.formed ds l else Ty.dK ds l r
end
def Ty.ym(ds:List Dt)(l:List bj)(t:Ty):t.formed ds l=if g_ ds l t≠0 then g_ ds l t else Ty.dK ds l t.args:=by
 cases t;simp only[Ty.formed]
def Y7{ds:List Dt}{l:List bj}{t:Ty}(hS:Sm t.args)(h:∀x∈t.args,(az AP).p 185 [.aq (ds.map Dt.pv),x.pv,.aq (l.map .str)]=some [vI (x.formed ds l)]):∀(n i:Nat),t.args.length-i=n->i<=t.args.length->
   cl AP g185L0 ⟨[(0,.pv (.aq (ds.map Dt.pv))),(2,.pv (.aq (l.map .str))),(38,.pv (.aq (t.args.map Ty.pv))),(39,.pv (vI t.args.length)),(40,.pv (vI i))],[],[],[]⟩=
     if Ty.dK ds l (t.args.drop i)≠0 then some (.ret,⟨[(6,.pv (vI (Ty.dK ds l (t.args.drop i))))],[],[],[]⟩)
     else some (.exit 1,⟨[(0,.pv (.aq (ds.map Dt.pv))),(2,.pv (.aq (l.map .str))),(38,.pv (.aq (t.args.map Ty.pv))),(39,.pv (vI t.args.length)),(40,.pv (vI t.args.length)),(41,.pv (.bool false))],[],[],[]⟩)
 |0,i,hn,hi=>by
  have:i=t.args.length:=by omega
  subst this;rw[g185L0e];simp[g185B0,Ty.dK]
 |n+1,i,hn,hi=>by
  have hi:i<t.args.length:=(by omega);obtain⟨x,hx⟩:=aQ hi;unfold Sm at hS;have k:=h x (aK hx);have a:=Y7 hS h n (i+1) (by omega) (by omega);rw[g185L0e]at a⊢;rw[aR hx];simp at a k;by_cases e:x.formed ds l=0
  .rw[e]at k;simp(disch:=omega)[-getElem?_pos,g185B0,hx,hi,k,Ty.dK,e,ae];rw[g185L0e];simp[a]
  .simp(disch:=omega)[-getElem?_pos,g185B0,hx,hi,k,Ty.dK,e,ae]
def c185{ds:List Dt}(hd:Sm ds){l:List bj}(hl:Sm l){t:Ty}(a:t.Ok):(az AP).p 185 [.aq (ds.map Dt.pv),t.pv,.aq (l.map .str)]=some [vI (t.formed ds l)]:=by
 revert a
 refine Ty.cD (p:=fun t=>t.Ok->(az AP).p 185 [.aq (ds.map Dt.pv),t.pv,.aq (l.map .str)]=some [vI (t.formed ds l)]) ?_ t;intro t c a;have h:=Y7 (ds:=ds) (l:=l) a.sm (fun x hx=>c x hx (a.d6 x hx)) _ 0 rfl (by omega);have k1:=c214 hl (y:=t.name);have k2:=c215 hd (s:=t.name);rw[aw g185,Ty.ym];rw[g185L0e]at h;simp at h;by_cases e1:t.kind=5
 .by_cases e2:t.name∈l
  .rw[za2 e2]at k1;by_cases e3:Ty.dK ds l t.args=0
   .simp[e3]at h;simp[g185,e1,e2,e3,k1,g_,g185L0e,h]
   .simp[e3]at h;simp[g185,e1,e2,e3,k1,g_,g185L0e,h]
  .rw[zaY e2]at k1;simp[g185,e1,e2,k1,g_]
 .by_cases e4:t.kind=4
  .cases hc:Hg ds t.name with
   |none=>
    rw[hc]at k2;simp[rA]at k2;simp[g185,e1,e4,k2,g_,hc]
   |some m=>
    rw[hc]at k2;simp[rA]at k2;by_cases e5:m=t.args.length
    .by_cases e3:Ty.dK ds l t.args=0
     .simp[e3]at h;simp[g185,e4,e5,e3,k2,g_,hc,g185L0e,h]
     .simp[e3]at h;simp[g185,e4,e5,e3,k2,g_,hc,g185L0e,h]
    .have b:¬(m:Int)=t.args.length:=(by omega);simp[g185,e4,e5,b,k2,g_,hc]
  .by_cases e3:Ty.dK ds l t.args=0
   .simp[e3]at h;simp[g185,e1,e4,e3,g_,g185L0e,h]
   .simp[e3]at h;simp[g185,e1,e4,e3,g_,g185L0e,h]
def Se(t:Ty):List AV:=[.pv (vI t.kind),.pv (.str t.name),.pv (vI t.id),.pv (vI t.home),.pv (.aq (t.args.map Ty.pv))]
@[simp] theorem aaO(t:Ty):Se t=[.pv (vI t.kind),.pv (.str t.name),.pv (vI t.id),.pv (vI t.home),.pv (.aq (t.args.map Ty.pv))]:=rfl
def Y8{ds:List Dt}{l:List bj}{t:Ty}(hS:Sm t.args)(h:∀x∈t.args,(az AP).p 186 [.aq (ds.map Dt.pv),x.pv,.aq (l.map .str)]=some [vI (x.formed ds l)]):∀(n i:Nat),t.args.length-i=n->i<=t.args.length->
   cl AP g186L0 ⟨[(0,.pv (.aq (ds.map Dt.pv))),(2,.pv (.aq (l.map .str))),(4,.au 4 0),(9,.pv (vI i))],[(4,Se t)],[],[]⟩=
     if Ty.dK ds l (t.args.drop i)≠0 then some (.ret,⟨[(6,.pv (vI (Ty.dK ds l (t.args.drop i))))],[],[],[]⟩)
     else some (.exit 1,⟨[(0,.pv (.aq (ds.map Dt.pv))),(2,.pv (.aq (l.map .str))),(4,.au 4 0),(9,.pv (vI t.args.length)),(40,.pv (.bool false))],[(4,Se t)],[],[]⟩)
 |0,i,hn,hi=>by
  have:i=t.args.length:=by omega
  subst this;rw[g186L0e];simp[g186B0,Ty.dK]
 |n+1,i,hn,hi=>by
  have hi:i<t.args.length:=(by omega);obtain⟨x,hx⟩:=aQ hi;unfold Sm at hS;have k:=h x (aK hx);have a:=Y8 hS h n (i+1) (by omega) (by omega);rw[g186L0e]at a⊢;rw[aR hx];simp at a k;by_cases e:x.formed ds l=0
  .rw[e]at k;simp(disch:=omega)[-getElem?_pos,g186B0,hx,hi,k,Ty.dK,e,ae];rw[g186L0e];simp[a]
  .simp(disch:=omega)[-getElem?_pos,g186B0,hx,hi,k,Ty.dK,e,ae]
inductive Ty.Cw:Ty->Prop
 |mk {t:Ty}:(t.kind≠4->t.args=[])->(∀x∈t.args,Ty.Cw x)->Ty.Cw t
def Ty.Cw.bare{t:Ty}(h:t.Cw):t.kind≠4->t.args=[]:=by cases h;assumption
def Ty.Cw.d6{t:Ty}(h:t.Cw):∀x∈t.args,x.Cw:=by cases h;assumption
def c186{ds:List Dt}(hd:Sm ds){l:List bj}(hl:Sm l){t:Ty}(a:t.Ok)(hC:t.Cw):(az AP).p 186 [.aq (ds.map Dt.pv),t.pv,.aq (l.map .str)]=some [vI (t.formed ds l)]:=by
 revert a hC
 refine Ty.cD (p:=fun t=>t.Ok->t.Cw->(az AP).p 186 [.aq (ds.map Dt.pv),t.pv,.aq (l.map .str)]=some [vI (t.formed ds l)]) ?_ t;intro t e a hC;have h:=Y8 (ds:=ds) (l:=l) a.sm (fun x hx=>e x hx (a.d6 x hx) (hC.d6 x hx)) _ 0 rfl (by omega);have k1:=c216 hl (y:=t.name);have k2:=c217 hd (s:=t.name);have k3:=C' (s:=l) (y:=t.name);rw[aw g186,Ty.ym];rw[g186L0e]at h;simp at h;by_cases e1:t.kind=5
 .by_cases e2:t.name∈l
  .simp[e2]at k3;have b:¬pK l t.name<0:=by omega
   have c:=hC.bare (by rw[e1];decide);simp[g186,e1,e2,k1,b,g_,c,Ty.dK]
  .simp[e2]at k3;simp[g186,e1,e2,k1,k3,g_]
 .by_cases e4:t.kind=4
  .cases hc:Hg ds t.name with
   |none=>
    rw[hc]at k2;simp[rA]at k2;simp[g186,e1,e4,k2,g_,hc]
   |some m=>
    rw[hc]at k2;simp[rA]at k2;by_cases e5:m=t.args.length
    .by_cases e3:Ty.dK ds l t.args=0
     .simp[e3,e4]at h;simp[g186,e4,e5,e3,k2,g_,hc,g186L0e,h]
     .simp[e3,e4]at h;simp[g186,e4,e5,e3,k2,g_,hc,g186L0e,h]
    .have d:¬(m:Int)=t.args.length:=(by omega);simp[g186,e4,e5,d,k2,g_,hc]
  .have c:=hC.bare e4;simp[g186,e1,e4,g_,c,Ty.dK]
structure cX(E:Type) where
 pos:Int
 cv:List UInt8
 vars:List (List UInt8)
 body:E
structure Ex where
 kind:Int
 pos:Int
 name:List UInt8
 num:Int
 kids:List Ex
 aB:List (cX Ex)
 ty:Ty
abbrev Ar:=cX Ex
def bF:Ty:=⟨0,[],0,0,[]⟩
instance:Inhabited Ex:=⟨⟨0,0,[],0,[],[],bF⟩⟩
instance:Inhabited Ar:=⟨⟨0,[],[],default⟩⟩
def Ty.cells(t:Ty):List PV:=[.int .i64 t.kind,.str t.name,.int .i64 t.id,.int .i64 t.home,.aq (t.args.map Ty.pv)]
mutual
def Ex.cells:Ex->List PV
 |⟨k,p,n,m,ks,as,t⟩=>.int .i64 k::.int .i64 p::.str n::.int .i64 m::.aq (Ex.dN ks)::.aq (Ex.Y9 as)::t.cells
def Ex.dN:List Ex->List PV
 |[]=>[]
 |e::r=>.agg (Ex.cells e)::Ex.dN r
def Ex.Y9:List (cX Ex)->List PV
 |[]=>[]
 |⟨p,c,v,b⟩::r=>.agg (.int .i64 p::.str c::.aq (v.map .str)::Ex.cells b)::Ex.Y9 r
end
def Ex.pv(e:Ex):PV:=.agg e.cells
def Ar.pv(a:Ar):PV:=.agg (.int .i64 a.pos::.str a.cv::.aq (a.vars.map .str)::a.body.cells)
def Ex.qD:∀l:List Ex,Ex.dN l=l.map Ex.pv
 |[]=>by simp[Ex.dN]
 |e::r=>by simp[Ex.dN,Ex.qD r,Ex.pv]
def Ex.Iy:∀l:List Ar,Ex.Y9 l=l.map Ar.pv
 |[]=>by simp[Ex.Y9]
 |⟨p,c,v,b⟩::r=>by simp[Ex.Y9,Ex.Iy r,Ar.pv]
def Ex.aX(e:Ex):e.cells=[.int .i64 e.kind,.int .i64 e.pos,.str e.name,.int .i64 e.num,.aq (e.kids.map Ex.pv),.aq (e.aB.map Ar.pv),.int .i64 e.ty.kind,.str e.ty.name,.int .i64 e.ty.id,.int .i64 e.ty.home,.aq (e.ty.args.map Ty.pv)]:=by
 cases e;simp only[Ex.cells,Ex.qD,Ex.Iy,Ty.cells]
@[simp] theorem Ex.kS(e:Ex):e.pv=.agg [.int .i64 e.kind,.int .i64 e.pos,.str e.name,.int .i64 e.num,.aq (e.kids.map Ex.pv),.aq (e.aB.map Ar.pv),.int .i64 e.ty.kind,.str e.ty.name,.int .i64 e.ty.id,.int .i64 e.ty.home,.aq (e.ty.args.map Ty.pv)]:=by
 rw[Ex.pv,Ex.aX]
@[simp] theorem Ar.kS(a:Ar):a.pv=.agg [.int .i64 a.pos,.str a.cv,.aq (a.vars.map .str),.int .i64 a.body.kind,.int .i64 a.body.pos,.str a.body.name,.int .i64 a.body.num,.aq (a.body.kids.map Ex.pv),.aq (a.body.aB.map Ar.pv),.int .i64 a.body.ty.kind,.str a.body.ty.name,.int .i64 a.body.ty.id,.int .i64 a.body.ty.home,.aq (a.body.ty.args.map Ty.pv)]:=by
 rw[Ar.pv,Ex.aX]
def yn:El Ex.pv 11 true:=⟨fun x=>by simp,fun x=>by simp⟩
def Wm:El Ar.pv 14 true:=⟨fun x=>by simp,fun x=>by simp⟩
@[simp] theorem XP{l:List Ex}:bl 11 (l.map Ex.pv)=true:=yn.head l
@[simp] theorem XQ{l:List Ar}:bl 14 (l.map Ar.pv)=true:=Wm.head l
@[simp] theorem Wn{l:List (List UInt8)}:bl 1 (l.map PV.str)=true:=mB.head l
@[simp] theorem XR{l:List Int}:bl 1 (l.map vI)=true:=lq.head l
def Ex.ch(e:Ex):List Ex:=e.kids++e.aB.map cX.body
def cX.rW(a:Ar):SizeOf.sizeOf a.body<SizeOf.sizeOf a:=by cases a;simp;omega
def Ex.cD{p:Ex->Prop}(h:∀e:Ex,(∀x∈e.kids,p x)->(∀a∈e.aB,p a.body)->p e):∀e,p e
 |⟨k,ps,n,m,ks,as,t⟩=>h _ (fun x b=>Ex.cD h x) (fun a c=>Ex.cD h a.body)
termination_by e=>SizeOf.sizeOf e
decreasing_by
 .have:=_root_.List.sizeOf_lt_of_mem b;simp at*;omega
 .have:=_root_.List.sizeOf_lt_of_mem c;have:=cX.rW a;simp at*;omega
def Ex.recC{p:Ex->Prop}(h:∀e:Ex,(∀x∈e.ch,p x)->p e):∀e,p e:=Ex.cD fun e h1 h2=>h e fun x hx=>by
 rw[Ex.ch,zaz,zat]at hx;rcases hx with hx|⟨a,b,rfl⟩
 .exact h1 x hx
 .exact h2 a b
def tx(l:List (List UInt8)):List AV:=l.map fun s=>AV.pv (.str s)
def SA(X:Sh)(l:List (List UInt8))(t:List UInt8):Sh:=X++[some (tx l),some [.pv (.str t)]]
def nI{l:List (List UInt8)}:∀v∈tx l,∃p,v=AV.pv p:=by
 intro v hv;simp only[tx,zat]at hv;obtain⟨s,_,rfl⟩:=hv;exact⟨_,rfl⟩
def fZ{X:Sh}(a:aG X){l:List (List UInt8)}{t:List UInt8}:aG (SA X l t):=by
 refine a.app fun cs hc=>?_;simp at hc;rcases hc with rfl|rfl
 .exact nI
 .intro v hv;simp at hv;exact⟨_,hv⟩
def Hh{X:Sh}{l:List (List UInt8)}{t:List UInt8}:(SA X l t)[X.length]?=some (some (tx l)):=by simp[SA]
def Ps{X:Sh}{l:List (List UInt8)}{t:List UInt8}:(SA X l t)[X.length+1]?=some (some [.pv (.str t)]):=by simp[SA]
def Pt{X:Sh}{l l':List (List UInt8)}{t:List UInt8}:(SA X l t).set X.length (some (tx l'))=SA X l' t:=by simp[SA]
def Ao{X:Sh}{l:List (List UInt8)}{t:List UInt8}:(SA X l t).length=X.length+2:=by simp[SA]
def Pu{l:List (List UInt8)}{i:Nat}{s:List UInt8}(h:l[i]?=some s):(tx l)[i]?=some (.pv (.str s)):=by simp[tx,h]
def pL{l:List (List UInt8)}:(tx l).length=l.length:=by simp[tx]
def Wo{l:List (List UInt8)}{i:Nat}(h:i<l.length){s:List UInt8}:aS (tx l) i [.pv (.str s)]=tx (l.set i s):=by
 rw[zaw,zan h];simp[aU,tx,zbr,zcu]
def c413{SH:Sh}(hn:∀aH ts,bg aH ts SH=(SH,aH,ts)){c:Nat}{t x:List UInt8}(a:SH[c]?=some (some [.pv (.str t)]))(hc:c<SH.length):
   (az AP).i 413 [.pv (.str x),.aV c 0] SH []=some ([.pv (.bool (decide (x=t)))],SH,[]):=by
 rw[aM g413];simp[-getElem?_pos,g413,a,hn];by_cases e:x=t<;>simp[e]
def Pv{SH:Sh}(hn:∀aH ts,bg aH ts SH=(SH,aH,ts))(hs:∀n,dU n SH=SH){c:Nat}{t x:List UInt8}(a:SH[c]?=some (some [.pv (.str t)]))(hc:c<SH.length):
   exec (az AP) .gk [.fn 413 [.aV c 0],.pv (.str x)] none SH []=some ⟨.pv (.bool (decide (x=t))),none,SH,[]⟩:=by
 have k:=c413 hn a hc (x:=x);simp[hn,k,hs]
theorem Y_{SH:Sh}(hn:∀aH ts,bg aH ts SH=(SH,aH,ts))(hs:∀n,dU n SH=SH){b c:Nat}{t:List UInt8}{l:List (List UInt8)}(hS:Sm l)(d:SH[b]?=some (some (tx l)))(h:SH[c]?=some (some [.pv (.str t)]))(hc:c<SH.length):
   ∀(n i:Nat),l.length-i=n->i<=l.length->
   cl AP (Pb 1 false) ⟨[(0,.aP b 1 l.length false),(1,.fn 413 [.aV c 0]),(7,.pv (vI l.length)),(8,.pv (vI i))],[],SH,[]⟩=
     match bS (fun x=>decide (x=t)) (l.drop i)with
     |some k=>some (.ret,⟨[(4,.pv (vI (i+k:Nat)))],[],SH,[]⟩)
     |none=>some (.exit 0,⟨[(0,.aP b 1 l.length false),(1,.fn 413 [.aV c 0]),(7,.pv (vI l.length)),(8,.pv (vI l.length)),(9,.pv (.bool false))],[],SH,[]⟩)
 |0,i,m,hi=>by
  have:i=l.length:=by omega
  subst this;rw[qF];simp[Ah,bS,hn]
 |n+1,i,m,hi=>by
  have hi:i<l.length:=(by omega);obtain⟨x,hx⟩:=aQ hi;unfold Sm at hS;have f:=Y_ hn hs hS d h hc n (i+1) (by omega) (by omega);have g:=Pu hx;have j:bW (tx l)=false:=bw nI;have a:i+1<=(tx l).length:=(by rw[pL];omega);have q:=Pv hn hs h hc (x:=x);simp at f;rw[qF,aR hx];by_cases e:x=t
  .rw[za2 e]at q;subst e;simp(disch:=omega)[-getElem?_pos,-eZ,Ah,hx,hi,d,g,j,a,bS,hn,q]
  .rw[zaY e]at q;simp(disch:=omega)[-getElem?_pos,-eZ,Ah,hx,hi,d,g,j,a,e,bS,ae,hn,q,f];cases bS (fun x=>decide (x=t)) (l.drop (i+1))with
   |none=>rfl
   |some k=>simp;omega
structure Row{α:Type}(f:α->List PV)(sz:Nat):Prop where
 pos:0<sz
 len:∀x,(f x).length=sz
section
variable {α:Type} {f:α->List PV} {sz:Nat}
def aI(f:α->List PV)(l:List α):List AV:=l.flatMap fun x=>(f x).map .pv
theorem Ap:aI f []=[]:=rfl
theorem lP{x:α}{l:List α}:aI f (x::l)=(f x).map .pv++aI f l:=rfl
def oC{l m:List α}:aI f (l++m)=aI f l++aI f m:=by simp[aI]
def a_(h:Row f sz):∀{l:List α},(aI f l).length=l.length*sz
 |[]=>by simp[aI]
 |x::r=>by rw[lP,zad,zak,h.len,a_ h,zae,zaI];omega
def aN{l:List α}:∀v∈aI f l,∃p,v=AV.pv p:=by
 intro v hv;simp only[aI,zaC,zat]at hv;obtain⟨x,_,p,_,rfl⟩:=hv;exact⟨p,rfl⟩
def qJ(h:Row f sz):∀{l:List α}{i:Nat}{x:α},l[i]?=some x->(aI f l).drop (i*sz)=(f x).map .pv++aI f (l.drop (i+1))
 |x::r,0,y,e=>by simp at e;subst e;simp[aI]
 |x::r,i+1,y,e=>by
  have a:=qJ h (l:=r) (i:=i) (x:=y) (by simpa using e);rw[lP,zcs,zaM (by rw[zak,h.len,zaI];omega),zak,h.len,show(i+1)*sz-sz=i*sz from by rw[zaI];omega,a];simp
 |[],_,_,e=>by simp at e
def Da(h:Row f sz):∀{l:List α}{i:Nat},i<=l.length->(aI f l).take (i*sz)=aI f (l.take i)
 |l,0,_=>by simp[aI]
 |x::r,i+1,e=>by
  have a:=Da h (l:=r) (i:=i) (by simpa using e);rw[lP,zaV,zaf (by rw[zak,h.len,zaI];omega),zak,h.len,show(i+1)*sz-sz=i*sz from by rw[zaI];omega,a];simp[lP]
 |[],i+1,e=>by simp at e
def jE(h:Row f sz){l:List α}{i:Nat}{x:α}(e:l[i]?=some x){o k:Nat}(a:o+k<=sz):((aI f l).drop (i*sz+o)).take k=(((f x).drop o).take k).map .pv:=by
 rw[<-zdd,qJ h e,zcs,zaV,zce,zak,h.len];have e1:k-(sz-o)=0:=by omega
 rw[e1,za3,zax,<-zcu,<-zbr]
def Wp(h:Row f sz){l:List α}{i:Nat}(hi:i<l.length){o k:Nat}(a:o+k<=sz):i*sz+o+k<=(aI f l).length:=by
 rw[a_ h];have:(i+1)*sz<=l.length*sz:=zaZ _ hi;rw[zaI]at this;omega
def Sf(h:Row f sz){l:List α}{i:Nat}{x:α}(e:l[i]?=some x){o:Nat}(a:o<sz){p:PV}(hp:(f x)[o]?=some p):(aI f l)[i*sz+o]?=some (.pv p):=by
 have e1:=qJ h e;rw[<-zb8,e1,zar (by rw[zak,h.len];exact a),zaK,hp];rfl
def gU(h:Row f sz){l:List α}{i:Nat}{x y:α}(e:l[i]?=some x){o:Nat}{vs:List PV}(a:o+vs.length<=sz)(hy:f y=(f x).take o++vs++(f x).drop (o+vs.length)):aS (aI f l) (i*sz+o) (vs.map .pv)=aI f (l.set i y):=by
 have hi:=(zaa.1 e).1;have e3:l.set i y=l.take i++y::l.drop (i+1):=by rw[zaw,zan hi]
 have e1:=qJ h e;have e2:=Da h (l:=l) (i:=i) (by omega);rw[e3,aU,oC,lP,<-e2,hy]
 have e4:(aI f l).drop (i*sz+o+(vs.map AV.pv).length)=((f x).drop (o+vs.length)).map .pv++aI f (l.drop (i+1)):=by
  rw[zak,zbN,<-zdd,e1,zcs,zak,h.len,show o+vs.length-sz=0 from by omega];simp
 have e5:(aI f l).take (i*sz+o)=(aI f l).take (i*sz)++((f x).take o).map .pv:=by
  rw[List.take_add,e1,zaV,zak,h.len,show o-sz=0 from by omega];simp
 rw[e4,e5];simp
def lQ(h:Row f sz){l:List α}{i:Nat}{x y:α}(e:l[i]?=some x){o:Nat}{p:PV}(a:o+1<=sz)(hy:f y=(f x).take o++[p]++(f x).drop (o+1)):aS (aI f l) (i*sz+o) [.pv p]=aI f (l.set i y):=
 gU h e (vs:=[p]) (by simpa using a) hy
def Iz(h:Row f sz):∀{l:List α},∃ps,eX (aI f l)=some ps/\(chunk sz l.length ps).map PV.agg=l.map fun x=>.agg (f x)
 |[]=>⟨[],rfl,rfl⟩
 |x::r=>by
  obtain⟨ps,h1,h2⟩:=Iz h (l:=r)
  have key:∀(a:List PV)(b:List AV),eX b=some ps->eX (a.map AV.pv++b)=some (a++ps):=by
   intro a b e;induction a with
   |nil=>simpa using e
   |cons c a d=>simp only[zal,zbb,eX,l6,d]
  refine⟨f x++ps,key _ _ h1,?_⟩;simp only[zae,chunk,zal];rw[List.take_left' (h.len x),List.drop_left' (h.len x),h2]
def oD(h:Row f sz){l:List α}:((eX (aI f l)).bind (d9 sz true l.length)).map PV.aq=some (.aq (l.map fun x=>.agg (f x))):=by
 obtain⟨ps,h1,h2⟩:=Iz h (l:=l);rw[h1];simp only[zbg,d9,zbc,zaT,h2]
theorem oE(h:Row f sz){l:List α}:((l.map fun x=>PV.agg (f x)).flatMap aZ).map AV.pv=aI f l:=by
 induction l with
 |nil=>rfl
 |cons x r a=>simp only[zal,zav,zbG,a,lP,aZ]
end
abbrev nn(k:Nat):Sh:=List.replicate k none
def bn(k:Nat):aG (nn k):=by
 intro cs hc;simp[nn,zbB]at hc
end Go.Ab.Lw
namespace Go.Ab.Lw
open Ev
inductive Ex.Ok:Ex->Prop
 |mk {e:Ex}:e.kids.length<=1000->e.aB.length<=1000->(∀a∈e.aB,a.vars.length<=1000)->e.ty.Ok->(∀x∈e.ch,x.Ok)->e.Ok
def Ex.Ok.k{e:Ex}(h:e.Ok):e.kids.length<=1000:=by cases h;assumption
def Ex.Ok.a{e:Ex}(h:e.Ok):e.aB.length<=1000:=by cases h;assumption
def Ex.Ok.v{e:Ex}(h:e.Ok):∀a∈e.aB,a.vars.length<=1000:=by cases h;assumption
def Ex.Ok.t{e:Ex}(h:e.Ok):e.ty.Ok:=by cases h;assumption
def Ex.Ok.c{e:Ex}(h:e.Ok):∀x∈e.ch,x.Ok:=by cases h;assumption
def Ex.cM{e:Ex}:e.ch.length=e.kids.length+e.aB.length:=by simp[Ex.ch]
@[simp] def Ex.cl(e:Ex):List AV:=[.pv (vI e.kind),.pv (vI e.pos),.pv (.str e.name),.pv (vI e.num),.pv (.aq (e.kids.map Ex.pv)),.pv (.aq (e.aB.map Ar.pv)),.pv (vI e.ty.kind),.pv (.str e.ty.name),.pv (vI e.ty.id),.pv (vI e.ty.home),.pv (.aq (e.ty.args.map Ty.pv))]
def bo:Row Ex.cells 11:=⟨by omega,fun x=>by rw[Ex.aX];rfl⟩
def Ar.cells(a:Ar):List PV:=.int .i64 a.pos::.str a.cv::.aq (a.vars.map .str)::a.body.cells
def dZ:Row Ar.cells 14:=⟨by omega,fun x=>by simp[Ar.cells,Ex.aX]⟩
def Ex.hU(e:Ex):e.cells.map AV.pv=e.cl:=by rw[Ex.aX];rfl
@[simp] def Ex.QY(e:Ex)(A:AV):List AV:=[.pv (vI e.kind),.pv (vI e.pos),.pv (.str e.name),.pv (vI e.num),.pv (.aq (e.kids.map Ex.pv)),A,.pv (vI e.ty.kind),.pv (.str e.ty.name),.pv (vI e.ty.id),.pv (vI e.ty.home),.pv (.aq (e.ty.args.map Ty.pv))]
def Y'(A:AV)(as:List Ar)(X:Sh):Prop:=A=.pv (.aq (as.map Ar.pv))\/∃b,b<X.length/\A=.aP b 14 as.length true/\X[b]?=some (some (aI Ar.cells as))
def Y'.app{A:AV}{as:List Ar}{X Y:Sh}(h:Y' A as X):Y' A as (X++Y):=by
 rcases h with h|⟨b,h1,h2,h3⟩
 .exact .inl h
 .exact .inr ⟨b,by rw[zad];omega,h2,by rw[zar h1];exact h3⟩
def hV(X:Sh)(l:List Ex):AV:=if l=[]then .own [] 0 else .aP X.length 11 l.length true
def hS(X:Sh)(l:List Ex):Sh:=if l=[]then X else X++[some (aI Ex.cells l)]
def hT(l:List Ex):aF:=if l=[]then[0]else[]
def Db{X:Sh}(h:aG X)(l:List Ex):aG (hS X l):=by
 unfold hS;by_cases h0:l=[]
 .rw[zan h0];exact h
 .rw[zai h0];exact h.app (aG.one aN)
def Si{e:Ex}{A:AV}(H:e.aB.length<=1000):∀(n i:Nat),e.aB.length-i=n->i<=e.aB.length->∀(X:Sh)(acc:List Ex),aG X->Y' A e.aB X->acc.length+n<=1000000->∃k,
   cl AP g145L0 ⟨[(1,.au 1 0),(3,hV X acc),(4,.pv (vI i))],[(1,e.QY A)],hS X acc,hT acc⟩=
     some (.exit 0,⟨[(1,.au 1 0),(3,hV (X++nn k) (acc++(e.aB.drop i).map cX.body)),(4,.pv (vI e.aB.length)),(12,.pv (.bool false))],[(1,e.QY A)],hS (X++nn k) (acc++(e.aB.drop i).map cX.body),hT (acc++(e.aB.drop i).map cX.body)⟩)
 |0,i,hn,hi,X,acc,d,hA,hl=>by
  have:i=e.aB.length:=by omega
  subst this;refine⟨0,?_⟩;rw[zaO,zaJ,zax,show nn 0=[] from rfl,zax];have hn:=(Db d acc).norm
  have vc:(hV X acc=.own [] 0/\hT acc=[0])\/(∃b z k g,hV X acc=.aP b z k g/\hT acc=[]):=by
   unfold hV hT;by_cases h0:acc=[]
   .left;simp[h0]
   .right;exact⟨X.length,11,acc.length,true,by simp[h0],by simp[h0]⟩
  rw[g145L0e]
  rcases vc with⟨E,t1⟩|⟨b1,z1,k1,f1,E,t1⟩<;>rw[E,t1]<;>generalize hS X acc=N at hn⊢ <;>
    rcases hA with rfl|⟨b,D,rfl,hx⟩<;>simp[g145B0,hn]
 |n+1,i,hn,hi,X,acc,d,hA,hl=>by
  have hi:i<e.aB.length:=(by omega);obtain⟨x,hx⟩:=aQ hi;have p:=d.norm;have I:∀m:Nat,m<=1000000->m*152<=140737488355328:=(by omega);have s:=Ex.aX x.body;rw[aR hx,zal]
  have step:∃k,cl AP g145L0 ⟨[(1,.au 1 0),(3,hV (if acc=[]then X else X++[none]) (acc++[x.body])),(4,.pv (vI (i+1:Nat)))],[(1,e.QY A)],hS (if acc=[]then X else X++[none]) (acc++[x.body]),hT (acc++[x.body])⟩=
    some (.exit 0,⟨[(1,.au 1 0),(3,hV (X++nn k) (acc++(x.body::(e.aB.drop (i+1)).map cX.body))),(4,.pv (vI e.aB.length)),(12,.pv (.bool false))],[(1,e.QY A)],hS (X++nn k) (acc++(x.body::(e.aB.drop (i+1)).map cX.body)),hT (acc++(x.body::(e.aB.drop (i+1)).map cX.body))⟩):=by
    by_cases h0:acc=[]
    .rw[zan h0];obtain⟨k,c⟩:=Si H n (i+1) (by omega) (by omega) X (acc++[x.body]) d hA (by simp;omega);refine⟨k,?_⟩;rw[c];simp only[zaP,zcn]
    .rw[zai h0];obtain⟨k,c⟩:=Si H n (i+1) (by omega) (by omega) (X++[none]) (acc++[x.body]) (d.app (bn 1)) hA.app (by simp;omega);refine⟨k+1,?_⟩;have e1:X++[none]++nn k=X++nn (k+1):=by simp[nn,zbK]
     rw[c,e1];simp only[zaP,zcn]
  obtain⟨k,c⟩:=step;refine⟨k,?_⟩;generalize hV (X++nn k) (acc++(x.body::(e.aB.drop (i+1)).map cX.body))=V2 at c⊢;generalize hS (X++nn k) (acc++(x.body::(e.aB.drop (i+1)).map cX.body))=M at c⊢;generalize hT (acc++(x.body::(e.aB.drop (i+1)).map cX.body))=L at c⊢;have j:acc++[x.body]≠[]:=by simp
  have r:∀Y,aG Y->∀aH ts,bg aH ts (Y++[some (aI Ex.cells (acc++[x.body]))])=(Y++[some (aI Ex.cells (acc++[x.body]))],aH,ts):=fun Y K=>(K.app (aG.one aN)).norm;have l:aI Ex.cells (acc++[x.body])=aI Ex.cells acc++x.body.cl:=by rw[oC,<-Ex.hU];simp[aI]
  by_cases h0:acc=[]
  .subst h0;rw[zan rfl]at c;have a:=r X d;simp only[zaE]at j a l c;simp only[hV,hS,hT,zai j,zbc]at c⊢;rw[l]at a c;simp only[Ap,zaE]at a c;simp only[Ex.cl]at a;rw[g145L0e]at c⊢;rcases hA with rfl|⟨b,D,rfl,h⟩
   .simp[a]at c;simp(disch:=omega)[-getElem?_pos,g145B0,hx,hi,ae,p];rw[g145L0e];simp[a,c]
   .have f:=jE dZ hx (o:=3) (k:=11) (by omega);have C:i*14+3+11<=e.aB.length*14:=(by omega);have B:(aI Ar.cells e.aB).length=e.aB.length*14:=a_ dZ;have y:bW (aI Ar.cells e.aB)=false:=bw aN;have v:(((Ar.cells x).drop 3).take 11).map AV.pv=x.body.cl:=(by simp[Ar.cells,s]);rw[v]at f;generalize aI Ar.cells e.aB=T at*;simp[a]at c f;simp(disch:=omega)[-getElem?_pos,g145B0,hx,hi,ae,p,h,f,C,B,y];rw[g145L0e];simp[a,c]
  .rw[zai h0]at c;have a:=r (X++[none]) (d.app (bn 1));have q:∀aH ts,bg aH ts (X++[some (aI Ex.cells acc)])=(X++[some (aI Ex.cells acc)],aH,ts):=(d.app (aG.one aN)).norm;simp only[hV,hS,hT,zai j,zai h0]at c⊢;have r1:(aI Ex.cells acc).length=acc.length*11:=a_ bo;have r2:bW (aI Ex.cells acc)=false:=bw aN;have r3:(aI Ex.cells acc).take (acc.length*11)=aI Ex.cells acc:=zaf (by omega);have t:(acc.length+1)*152<=140737488355328:=by omega
   rw[l]at a c;rw[zad,zbq,zad,zbq]at c;have s1:∀u w:Option (List AV),(X++[u]).set X.length w=X++[w]:=fun u w=>by simp
   have G:∀u:Option (List AV),(X++[u])[X.length]?=some u:=fun u=>by simp
   simp only[Ex.cl]at a;rw[g145L0e]at c⊢;rcases hA with rfl|⟨b,D,rfl,h⟩
   .generalize aI Ex.cells acc=F at*;simp[a]at c;simp(disch:=omega)[-getElem?_pos,g145B0,hx,hi,ae,q,r1,r2,r3,s1,G,t];rw[g145L0e];simp[a,c]
   .have f:=jE dZ hx (o:=3) (k:=11) (by omega);have C:i*14+3+11<=e.aB.length*14:=(by omega);have B:(aI Ar.cells e.aB).length=e.aB.length*14:=a_ dZ;have y:bW (aI Ar.cells e.aB)=false:=bw aN;have v:(((Ar.cells x).drop 3).take 11).map AV.pv=x.body.cl:=(by simp[Ar.cells,s]);have J:∀u:Option (List AV),(X++[u])[b]?=X[b]?:=fun u=>zar D
    rw[v]at f;generalize aI Ar.cells e.aB=T at*;generalize aI Ex.cells acc=F at*;simp[a]at c f;simp(disch:=omega)[-getElem?_pos,g145B0,hx,hi,ae,q,r1,r2,r3,s1,G,t,h,f,C,B,y,J];rw[g145L0e];simp[a,c]
def mE{l:List Ex}:((eX (aI Ex.cells l)).bind (d9 11 true l.length)).map PV.aq=some (.aq (l.map Ex.pv)):=oD bo
def rX{l:List Ex}:((l.map Ex.pv).flatMap aZ).map AV.pv=aI Ex.cells l:=oE bo
def c145i{e:Ex}{A:AV}(h:e.kids.length<=1000)(s:e.aB.length<=1000){X:Sh}(m:aG X)(hA:Y' A e.aB X):∃k,(az AP).i 145 [.agg (e.QY A)] X []=some (if e.ch=[]then([.own [] 0],X,[0])else([.aP (X.length+k) 11 e.ch.length true],X++nn k++[some (aI Ex.cells e.ch)],[])):=by
 obtain⟨k,h2⟩:=Si (A:=A) s _ 0 rfl (by omega) X e.kids m hA (by omega);rw[zaj]at h2
 change cl AP g145L0 _=some (.exit 0,⟨[(1,.au 1 0),(3,hV (X++nn k) e.ch),(4,.pv (vI e.aB.length)),(12,.pv (.bool false))],[(1,e.QY A)],hS (X++nn k) e.ch,hT e.ch⟩)at h2
 refine⟨k,?_⟩;rw[aM g145];have u:e.kids.length*152<=140737488355328:=by omega
 have hm:=rX (l:=e.kids);have a:=m.norm;have g:∀aH ts,bg aH ts (X++[some (aI Ex.cells e.kids)])=(X++[some (aI Ex.cells e.kids)],aH,ts):=(m.app (aG.one aN)).norm;have n:∀aH ts,bg aH ts (X++nn k)=(X++nn k,aH,ts):=(m.app (bn k)).norm;have d:∀aH ts,bg aH ts (X++(nn k++[some (aI Ex.cells e.ch)]))=(X++(nn k++[some (aI Ex.cells e.ch)]),aH,ts):=(m.app ((bn k).app (aG.one aN))).norm;have j:¬X.length+k<X.length:=by omega
 have c:(X++nn k).length=X.length+k:=by simp
 have r:aY A=true/\bI A=true:=by rcases hA with rfl|⟨b,_,rfl,_⟩<;>exact⟨rfl,rfl⟩
 have o:(X++nn k).take X.length=X:=by simp
 have e1:∀(V:AV)(T:aF)(S:Sh),(V=hV X e.kids/\T=hT e.kids\/e.kids=[]/\V=.dr []/\T=[])->S=hS X e.kids->after (cl AP g145L0) (cl AP g145B0 (norm (restrict [1,3,4] ⟨[(1,.au 1 0),(3,V),(4,.pv (vI 0))],[(1,e.QY A)],S,T⟩)))=
     some (.exit 0,⟨[(1,.au 1 0),(3,hV (X++nn k) e.ch),(4,.pv (vI e.aB.length)),(12,.pv (.bool false))],[(1,e.QY A)],hS (X++nn k) e.ch,hT e.ch⟩):=by
   rintro V T S q rfl
   rw[<-h2,g145L0e];rcases q with⟨rfl,rfl⟩|⟨h0,rfl,rfl⟩
   .rfl
   .simp only[hV,hS,hT,h0,zbc];rcases hA with rfl|⟨b,_,rfl,_⟩<;>simp[a]
 clear h2;by_cases hc:e.ch=[]
 .have h0:e.kids=[]:=by have:=hc;simp only[Ex.ch,List.append_eq_nil_iff]at this;exact this.1
  have f:=e1 (.dr []) [] X (.inr ⟨h0,rfl,rfl⟩) (by simp[hS,h0]);simp only[hc,hV,hS,hT,zbc]at f⊢;rcases hA with rfl|⟨b,_,rfl,_⟩<;>simp[a,h0]at f<;>simp[g145,h0,a,n,g145L0e,f,c,o]
 .by_cases h0:e.kids=[]
  .have f:=e1 (.dr []) [] X (.inr ⟨h0,rfl,rfl⟩) (by simp[hS,h0]);simp only[hV,hS,hT,zai hc,zaP,c]at f⊢;generalize X++(nn k++[some (aI Ex.cells e.ch)])=t at*;rcases hA with rfl|⟨b,_,rfl,_⟩<;>simp[a,h0]at f<;>simp[g145,h0,a,d,g145L0e,f,j]
  .have f:=e1 (.aP X.length 11 e.kids.length true) [] (X++[some (aI Ex.cells e.kids)]) (.inl ⟨by simp[hV,h0],by simp[hT,h0]⟩) (by simp[hS,h0]);simp only[hV,hS,hT,zai hc,zaP,c]at f⊢;generalize X++(nn k++[some (aI Ex.cells e.ch)])=t at*;have p:e.kids.length*152<=140737488355328:=(by omega);generalize aI Ex.cells e.kids=F at*;rcases hA with rfl|⟨b,_,rfl,_⟩<;>simp[a,g,h0]at f<;>simp[g145,h0,p,hm,a,g,d,g145L0e,f,j]
def c145{e:Ex}(h:e.Ok):(az AP).p 145 [e.pv]=some [.aq (e.ch.map Ex.pv)]:=by
 have m:=h.k;have i:=h.a;obtain⟨k,h2⟩:=Si (A:=.pv (.aq (e.aB.map Ar.pv))) i _ 0 rfl (by omega) [] e.kids (by intro cs h;simp at h) (.inl rfl) (by omega);rw[zaj]at h2
 change cl AP g145L0 _=some (.exit 0,⟨[(1,.au 1 0),(3,hV ([]++nn k) e.ch),(4,.pv (vI e.aB.length)),(12,.pv (.bool false))],[(1,e.QY (.pv (.aq (e.aB.map Ar.pv))))],hS ([]++nn k) e.ch,hT e.ch⟩)at h2
 have f:e.kids.length*152<=140737488355328:=by omega
 have hm:=rX (l:=e.kids);have hl:=mE (l:=e.ch);have b:(aI Ex.cells e.ch).length=e.ch.length*11:=a_ bo;have d:∀aH ts,bg aH ts ([some (aI Ex.cells e.kids)])=([some (aI Ex.cells e.kids)],aH,ts):=(aG.one aN).norm;rw[aw g145];by_cases hc:e.ch=[]
 .have h0:e.kids=[]/\e.aB=[]:=by have:=hc;simpa[Ex.ch]using this
  simp only[hc,hV,hS,hT,zbc,h0.1]at h2⊢;rw[g145L0e]at h2;simp[h0.1,h0.2]at h2;simp[g145,h0.1,h0.2,g145L0e,h2]
 .have g:∀Z:Option (List AV),([]++nn k++[Z])[k]?=some Z:=fun Z=>by simp
  by_cases h0:e.kids=[]
  .simp only[hV,hS,hT,zai hc,h0,zbc]at h2⊢;have c:=g (some (aI Ex.cells e.ch));generalize []++nn k++[some (aI Ex.cells e.ch)]=j at*;generalize aI Ex.cells e.ch=F at*;rw[g145L0e]at h2;simp[h0]at h2;simp at hl;simp[-getElem?_pos,g145,h0,g145L0e,h2,c,b,hl]
  .simp only[hV,hS,hT,zai hc,zai h0]at h2⊢;have c:=g (some (aI Ex.cells e.ch));generalize []++nn k++[some (aI Ex.cells e.ch)]=j at*;generalize aI Ex.cells e.ch=F at*;generalize aI Ex.cells e.kids=n at*;rw[g145L0e]at h2;simp[d]at h2 hl;simp[-getElem?_pos,g145,h0,f,hm,d,g145L0e,h2,c,b,hl]
def Sj{e:Ex}(q:e.aB.length<=1000):∀(n i:Nat),e.aB.length-i=n->i<=e.aB.length->∀(X:Sh)(acc:List Ex),aG X->acc.length+n<=1000000->∃k,
   cl AP g414L0 ⟨[(3,hV X acc),(10,.pv (.aq (e.aB.map Ar.pv))),(11,.pv (vI e.aB.length)),(12,.pv (vI i))],[],hS X acc,hT acc⟩=
     some (.exit 0,⟨[(3,hV (X++nn k) (acc++(e.aB.drop i).map cX.body)),(10,.pv (.aq (e.aB.map Ar.pv))),(11,.pv (vI e.aB.length)),(12,.pv (vI e.aB.length)),(13,.pv (.bool false))],[],hS (X++nn k) (acc++(e.aB.drop i).map cX.body),hT (acc++(e.aB.drop i).map cX.body)⟩)
 |0,i,hn,hi,X,acc,d,hl=>by
  have:i=e.aB.length:=by omega
  subst this;refine⟨0,?_⟩;rw[zaO,zaJ,zax,show nn 0=[] from rfl,zax];have hn:=(Db d acc).norm
  have vc:(hV X acc=.own [] 0/\hT acc=[0])\/(∃b z k g,hV X acc=.aP b z k g/\hT acc=[]):=by
   unfold hV hT;by_cases h0:acc=[]
   .left;simp[h0]
   .right;exact⟨X.length,11,acc.length,true,by simp[h0],by simp[h0]⟩
  rw[g414L0e];rcases vc with⟨p,t1⟩|⟨b1,z1,k1,f1,p,t1⟩<;>rw[p,t1]<;>generalize hS X acc=A at hn⊢<;>simp[g414B0,hn]
 |n+1,i,hn,hi,X,acc,d,hl=>by
  have hi:i<e.aB.length:=(by omega);obtain⟨x,hx⟩:=aQ hi;have l:=d.norm;have s:=Ex.aX x.body;rw[aR hx,zal]
  have step:∃k,cl AP g414L0 ⟨[(3,hV (if acc=[]then X else X++[none]) (acc++[x.body])),(10,.pv (.aq (e.aB.map Ar.pv))),(11,.pv (vI e.aB.length)),(12,.pv (vI (i+1:Nat)))],[],hS (if acc=[]then X else X++[none]) (acc++[x.body]),hT (acc++[x.body])⟩=
    some (.exit 0,⟨[(3,hV (X++nn k) (acc++(x.body::(e.aB.drop (i+1)).map cX.body))),(10,.pv (.aq (e.aB.map Ar.pv))),(11,.pv (vI e.aB.length)),(12,.pv (vI e.aB.length)),(13,.pv (.bool false))],[],hS (X++nn k) (acc++(x.body::(e.aB.drop (i+1)).map cX.body)),hT (acc++(x.body::(e.aB.drop (i+1)).map cX.body))⟩):=by
    by_cases h0:acc=[]
    .rw[zan h0];obtain⟨k,c⟩:=Sj q n (i+1) (by omega) (by omega) X (acc++[x.body]) d (by simp;omega);refine⟨k,?_⟩;rw[c];simp only[zaP,zcn]
    .rw[zai h0];obtain⟨k,c⟩:=Sj q n (i+1) (by omega) (by omega) (X++[none]) (acc++[x.body]) (d.app (bn 1)) (by simp;omega);refine⟨k+1,?_⟩;have e1:X++[none]++nn k=X++nn (k+1):=by simp[nn,zbK]
     rw[c,e1];simp only[zaP,zcn]
  obtain⟨k,c⟩:=step;refine⟨k,?_⟩;generalize hV (X++nn k) (acc++(x.body::(e.aB.drop (i+1)).map cX.body))=V2 at c⊢;generalize hS (X++nn k) (acc++(x.body::(e.aB.drop (i+1)).map cX.body))=y at c⊢;generalize hT (acc++(x.body::(e.aB.drop (i+1)).map cX.body))=v at c⊢;have f:acc++[x.body]≠[]:=by simp
  have j:∀Y,aG Y->∀aH ts,bg aH ts (Y++[some (aI Ex.cells (acc++[x.body]))])=(Y++[some (aI Ex.cells (acc++[x.body]))],aH,ts):=fun Y t=>(t.app (aG.one aN)).norm;have h:aI Ex.cells (acc++[x.body])=aI Ex.cells acc++x.body.cl:=by rw[oC,<-Ex.hU];simp[aI]
  by_cases h0:acc=[]
  .subst h0;rw[zan rfl]at c;have a:=j X d;simp only[zaE]at f a h c;simp only[hV,hS,hT,zai f,zbc]at c⊢;rw[h]at a c;simp only[Ap,zaE]at a c;simp only[Ex.cl]at a;rw[g414L0e]at c⊢;simp[a]at c;simp(disch:=omega)[-getElem?_pos,g414B0,hx,hi,ae,l];rw[g414L0e];simp[a,c]
  .rw[zai h0]at c;have a:=j (X++[none]) (d.app (bn 1));have m:∀aH ts,bg aH ts (X++[some (aI Ex.cells acc)])=(X++[some (aI Ex.cells acc)],aH,ts):=(d.app (aG.one aN)).norm;simp only[hV,hS,hT,zai f,zai h0]at c⊢;have r1:(aI Ex.cells acc).length=acc.length*11:=a_ bo;have r2:bW (aI Ex.cells acc)=false:=bw aN;have r3:(aI Ex.cells acc).take (acc.length*11)=aI Ex.cells acc:=zaf (by omega);have o:(acc.length+1)*152<=140737488355328:=by omega
   rw[h]at a c;rw[zad,zbq,zad,zbq]at c;have s1:∀u w:Option (List AV),(X++[u]).set X.length w=X++[w]:=fun u w=>by simp
   have r:∀u:Option (List AV),(X++[u])[X.length]?=some u:=fun u=>by simp
   simp only[Ex.cl]at a;rw[g414L0e]at c⊢;generalize aI Ex.cells acc=F at*;simp[a]at c;simp(disch:=omega)[-getElem?_pos,g414B0,hx,hi,ae,m,r1,r2,r3,s1,r,o];rw[g414L0e];simp[a,c]
def c414{e:Ex}(h:e.Ok):(az AP).p 414 [e.pv]=some [.aq (e.ch.map Ex.pv)]:=by
 have m:=h.k;have i:=h.a;obtain⟨k,h2⟩:=Sj i _ 0 rfl (by omega) [] e.kids (by intro cs h;simp at h) (by omega);rw[zaj]at h2
 change cl AP g414L0 _=some (.exit 0,⟨[(3,hV ([]++nn k) e.ch),(10,.pv (.aq (e.aB.map Ar.pv))),(11,.pv (vI e.aB.length)),(12,.pv (vI e.aB.length)),(13,.pv (.bool false))],[],hS ([]++nn k) e.ch,hT e.ch⟩)at h2
 have f:e.kids.length*152<=140737488355328:=by omega
 have hm:=rX (l:=e.kids);have hl:=mE (l:=e.ch);have b:(aI Ex.cells e.ch).length=e.ch.length*11:=a_ bo;have d:∀aH ts,bg aH ts ([some (aI Ex.cells e.kids)])=([some (aI Ex.cells e.kids)],aH,ts):=(aG.one aN).norm;rw[aw g414];by_cases hc:e.ch=[]
 .have h0:e.kids=[]/\e.aB=[]:=by have:=hc;simpa[Ex.ch]using this
  simp only[hc,hV,hS,hT,zbc,h0.1]at h2⊢;rw[g414L0e]at h2;simp[h0.1,h0.2]at h2;simp[g414,h0.1,h0.2,g414L0e,h2]
 .have g:∀Z:Option (List AV),([]++nn k++[Z])[k]?=some Z:=fun Z=>by simp
  by_cases h0:e.kids=[]
  .simp only[hV,hS,hT,zai hc,h0,zbc]at h2⊢;have c:=g (some (aI Ex.cells e.ch));generalize []++nn k++[some (aI Ex.cells e.ch)]=j at*;generalize aI Ex.cells e.ch=F at*;rw[g414L0e]at h2;simp[h0]at h2;simp at hl;simp[-getElem?_pos,g414,h0,g414L0e,h2,c,b,hl]
  .simp only[hV,hS,hT,zai hc,zai h0]at h2⊢;have c:=g (some (aI Ex.cells e.ch));generalize []++nn k++[some (aI Ex.cells e.ch)]=j at*;generalize aI Ex.cells e.ch=F at*;generalize aI Ex.cells e.kids=n at*;rw[g414L0e]at h2;simp[d]at h2 hl;simp[-getElem?_pos,g414,h0,f,hm,d,g414L0e,h2,c,b,hl]
def Wq:Ex:=⟨0,0,[],0,[],[],bF⟩
def Ex.at:Ex->List Int->Option Ex
 |e,[]=>some e
 |e,i::r=>if 0<=i/\i<e.ch.length then match e.ch[i.toNat]? with|some x=>x.at r|none=>none else none
def zO:List AV:=[.pv (vI 0),.pv (vI 0),.pv (.str []),.pv (vI 0),.own [] 0,.own [] 1,.pv (vI 0),.pv (.str []),.pv (vI 0),.pv (vI 0),.own [] 2]
def zK:List AV:=[.pv (vI 0),.pv (vI 0),.pv (.str []),.pv (vI 0),.dr [],.dr [],.pv (vI 0),.pv (.str []),.pv (vI 0),.pv (vI 0),.dr []]
def atR:Option Ex->List PV
 |some x=>[x.pv,.bool true]
 |none=>[Wq.pv,.bool false]
def Mm(p:List Int):Option Ex->Option (bh×St)
 |some x=>some (.exit 0,⟨[(1,.pv (.aq (p.map vI))),(2,.au 2 0),(4,.au 4 0),(6,.pv (vI p.length)),(11,.pv (.bool false))],[(2,x.cl),(4,zO)],[],[0,0,0]⟩)
 |none=>some (.ret,⟨[(4,.au 4 0),(5,.pv (.bool false))],[(4,zK)],[],[0,0,0]⟩)
def Za{p:List Int}(hp:Sm p):∀(n i:Nat),p.length-i=n->i<=p.length->∀e:Ex,e.Ok->
   cl AP g439L0 ⟨[(1,.pv (.aq (p.map vI))),(2,.au 2 0),(4,.au 4 0),(6,.pv (vI i))],[(2,e.cl),(4,zO)],[],[0,0,0]⟩=Mm p (e.at (p.drop i))
 |0,i,hn,hi,e,f=>by
  have:i=p.length:=by omega
  subst this;rw[g439L0e];simp[g439B0,Ex.at,Mm,zO]
 |n+1,i,hn,hi,e,f=>by
  have hi:i<p.length:=(by omega);obtain⟨k,b⟩:=aQ hi;unfold Sm at hp;have c:=c145 f;simp at c;rw[aR b,g439L0e];simp only[Ex.at];by_cases h1:0<=k/\k<e.ch.length
  .rw[zan h1];obtain⟨m,rfl,hm⟩:=mY h1.1 h1.2;obtain⟨x,hx⟩:=aQ hm;have g:=Za hp n (i+1) (by omega) (by omega) x (f.c x (aK hx));have d:¬e.ch.length<=m:=by omega
   simp[hx,zO]at g⊢;generalize e.ch=C at*;simp(disch:=omega)[-getElem?_pos,g439B0,b,hi,ae,c,hx,hm,d,g]
  .rw[zai h1];by_cases h2:0<=k
   .have h3:¬k<e.ch.length:=fun h=>h1 ⟨h2,h⟩;have a:¬k<0:=by omega
    have h4:(e.ch.length:Int)<=k:=(by omega);generalize e.ch=C at*;simp(disch:=omega)[-getElem?_pos,g439B0,b,hi,ae,c,Mm,zO,zK,h3,a,h4]
   .have a:k<0:=(by omega);generalize e.ch=C at*;simp(disch:=omega)[-getElem?_pos,g439B0,b,hi,ae,c,Mm,zO,zK,a]
def c439{e:Ex}(h:e.Ok){p:List Int}(hp:Sm p):(az AP).p 439 [e.pv,.aq (p.map vI)]=some (atR (e.at p)):=by
 have h2:=Za hp _ 0 rfl (by omega) e h;simp at h2;rw[aw g439];rw[g439L0e]at h2;cases hx:e.at p with
 |none=>rw[hx]at h2;simp[Mm,zO,zK]at h2;simp[g439,g439L0e,h2,atR,Wq,bF]
 |some x=>rw[hx]at h2;simp[Mm,zO,zK]at h2;simp[g439,g439L0e,h2,atR,Wq,bF]
def Mn(p:List Int):Option Ex->Option (bh×St)
 |some x=>some (.exit 0,⟨[(2,.au 2 0),(4,.au 4 0),(9,.pv (.aq (p.map vI))),(10,.pv (vI p.length)),(11,.pv (vI p.length)),(12,.pv (.bool false))],[(2,x.cl),(4,zO)],[],[0,0,0]⟩)
 |none=>some (.ret,⟨[(4,.au 4 0),(5,.pv (.bool false))],[(4,zK)],[],[0,0,0]⟩)
def Zb{p:List Int}(hp:Sm p):∀(n i:Nat),p.length-i=n->i<=p.length->∀e:Ex,e.Ok->
   cl AP g410L0 ⟨[(2,.au 2 0),(4,.au 4 0),(9,.pv (.aq (p.map vI))),(10,.pv (vI p.length)),(11,.pv (vI i))],[(2,e.cl),(4,zO)],[],[0,0,0]⟩=Mn p (e.at (p.drop i))
 |0,i,hn,hi,e,f=>by
  have:i=p.length:=by omega
  subst this;rw[g410L0e];simp[g410B0,Ex.at,Mn,zO]
 |n+1,i,hn,hi,e,f=>by
  have hi:i<p.length:=(by omega);obtain⟨k,b⟩:=aQ hi;unfold Sm at hp;have c:=c414 f;simp at c;rw[aR b,g410L0e];simp only[Ex.at];by_cases h1:0<=k/\k<e.ch.length
  .rw[zan h1];obtain⟨m,rfl,hm⟩:=mY h1.1 h1.2;obtain⟨x,hx⟩:=aQ hm;have g:=Zb hp n (i+1) (by omega) (by omega) x (f.c x (aK hx));have d:¬e.ch.length<=m:=by omega
   simp[hx,zO]at g⊢;generalize e.ch=C at*;simp(disch:=omega)[-getElem?_pos,g410B0,b,hi,ae,c,hx,hm,d,g]
  .rw[zai h1];by_cases h2:0<=k
   .have h3:¬k<e.ch.length:=fun h=>h1 ⟨h2,h⟩;have a:¬k<0:=by omega
    have h4:(e.ch.length:Int)<=k:=(by omega);generalize e.ch=C at*;simp(disch:=omega)[-getElem?_pos,g410B0,b,hi,ae,c,Mn,zO,zK,h3,a,h4]
   .have a:k<0:=(by omega);generalize e.ch=C at*;simp(disch:=omega)[-getElem?_pos,g410B0,b,hi,ae,c,Mn,zO,zK,a]
def c410{e:Ex}(h:e.Ok){p:List Int}(hp:Sm p):(az AP).p 410 [e.pv,.aq (p.map vI)]=some (atR (e.at p)):=by
 have h2:=Zb hp _ 0 rfl (by omega) e h;simp at h2;rw[aw g410];rw[g410L0e]at h2;cases hx:e.at p with
 |none=>rw[hx]at h2;simp[Mn,zO,zK]at h2;simp[g410,g410L0e,h2,atR,Wq,bF]
 |some x=>rw[hx]at h2;simp[Mn,zO,zK]at h2;simp[g410,g410L0e,h2,atR,Wq,bF]
def dv(e:Ex)(i:Nat):List (List UInt8):=
 if e.kind=4\/e.kind=7\/(e.kind=6/\i=1)then[e.name]
 else if e.kind=8/\0<i then match e.aB[i-1]? with|some a=>a.vars|none=>[]
 else []
def c380{e:Ex}{i:Nat}(hi:i<e.ch.length)(h8:e.kind=8->e.kids.length=1)(g:e.Ok):(az AP).p 380 [e.pv,vI i]=some [.aq ((dv e i).map .str)]:=by
 have j:=g.a;rw[Ex.cM]at hi;rw[aw g380];unfold dv;by_cases h1:e.kind=4
 .simp[g380,h1]
 .by_cases h2:e.kind=7
  .simp[g380,h1,h2]
  .by_cases h3:e.kind=6
   .by_cases h4:i=1
    .simp[g380,h1,h2,h3,h4]
    .have f:¬(i:Int)=1:=(by omega);simp[g380,h1,h2,h3,h4,f]
   .by_cases h5:e.kind=8
    .by_cases h6:0<i
     .have d:(0:Int)<i:=(by omega);have h:=h8 h5;obtain⟨a,hx⟩:=aQ (l:=e.aB) (i:=i-1) (by omega);obtain⟨m,rfl⟩:∃m:Nat,i=m+1:=⟨i-1,by omega⟩;have hm:((m+1:Nat):Int)-1=m:=(by omega);have b:((m:Int)+1)-1=m:=(by omega);simp at hx hi;have c:m<e.aB.length:=(by omega);simp(disch:=omega)[-getElem?_pos,g380,h1,h2,h3,h5,h6,d,ae,hm,b,hx,c]
     .have:i=0:=by omega
      subst this;simp[g380,h1,h2,h3,h5]
    .simp[g380,h1,h2,h3,h5]
def c411{e:Ex}{i:Nat}(hi:i<e.ch.length)(h8:e.kind=8->e.kids.length=1)(j:e.Ok):(az AP).p 411 [e.pv,vI i]=some [.aq ((dv e i).map .str)]:=by
 have k:=j.a;rw[Ex.cM]at hi;rw[aw g411];unfold dv;by_cases h1:e.kind=4
 .simp[g411,h1]
 .by_cases h2:e.kind=7
  .simp[g411,h1,h2]
  .by_cases h3:e.kind=6
   .by_cases h4:i=1
    .simp[g411,h1,h2,h3,h4]
    .have g:¬(i:Int)=1:=(by omega);simp[g411,h1,h2,h3,h4,g]
   .by_cases h5:e.kind=8
    .have h:=h8 h5;by_cases h6:0<i
     .have f:(1:Int)<=i:=(by omega);obtain⟨a,hx⟩:=aQ (l:=e.aB) (i:=i-1) (by omega);obtain⟨m,rfl⟩:∃m:Nat,i=m+1:=⟨i-1,by omega⟩;have hm:((m+1:Nat):Int)-1=m:=(by omega);have c:((m:Int)+1)-1=m:=(by omega);simp at hx hi;have d:m<e.aB.length:=(by omega);have b:(1:Int)<=(m:Int)+1:=(by omega);simp(disch:=omega)[-getElem?_pos,g411,h1,h2,h3,h5,h,h6,f,b,ae,hm,c,hx,d]
     .have:i=0:=by omega
      subst this;simp[g411,h1,h2,h3,h5,h]
    .simp[g411,h1,h2,h3,h5]
def Mo(l:List Ty)(t:Ty):Option Ty:=if t.kind=2/\0<=t.id/\t.id<l.length then l[t.id.toNat]? else none
def kj{l:List Ty}{t u:Ty}(h:Mo l t=some u):t.kind=2/\0<=t.id/\t.id<l.length/\l[t.id.toNat]?=some u:=by
 unfold Mo at h;split at h
 .rename_i c;exact⟨c.1,c.2.1,c.2.2,h⟩
 .cases h
def Dc{l:List Ty}{t:Ty}(h:Mo l t=none):¬(t.kind=2/\0<=t.id/\t.id<l.length):=by
 intro c;unfold Mo at h;rw[zan c]at h;rw[List.getElem?_eq_none_iff]at h;omega
mutual
def Ty.ly(l:List Ty):Ty->Ty
 |⟨k,n,i,h,as⟩=>(Mo l ⟨k,n,i,h,as⟩).getD ⟨k,n,i,h,Ty.Pw l as⟩
def Ty.Pw(l:List Ty):List Ty->List Ty
 |[]=>[]
 |a::r=>a.ly l::Ty.Pw l r
end
def Ty.Dd(l:List Ty):∀as:List Ty,Ty.Pw l as=as.map (Ty.ly l)
 |[]=>by simp[Ty.Pw]
 |a::r=>by simp[Ty.Pw,Ty.Dd l r]
def Ty.lz(l:List Ty)(t:Ty):t.ly l=(Mo l t).getD ⟨t.kind,t.name,t.id,t.home,t.args.map (Ty.ly l)⟩:=by
 cases t;simp only[Ty.ly,Ty.Dd]
def L48{s:List Ty}{t:Ty}(hS:Sm t.args)(h:∀x∈t.args,(az AP).p 48 [x.pv,.aq (s.map Ty.pv)]=some [(x.ly s).pv]):∀(n i:Nat),t.args.length-i=n->i<=t.args.length->∀acc:List Ty,acc=(t.args.take i).map (Ty.ly s)->
   cl AP g48L0 ⟨[(1,.pv (.aq (s.map Ty.pv))),(2,.au 2 0),(4,.au 4 0),(5,.au 5 0),(6,.pv (vI i))],
     [(2,[.pv (vI t.kind),.pv (.str t.name),.pv (vI t.id),.pv (vI t.home),.pv (.aq (t.args.map Ty.pv))]),(4,[.pv (vI 0),.pv (.str []),.pv (vI 0),.pv (vI 0),.own [] 0]),
       (5,[.pv (vI t.kind),.pv (.str t.name),.pv (vI t.id),.pv (vI t.home),.own (acc.map Ty.pv) 1])],[],[0,acc.length]⟩=
     some (.exit 0,⟨[(1,.pv (.aq (s.map Ty.pv))),(2,.au 2 0),(4,.au 4 0),(5,.au 5 0),(6,.pv (vI t.args.length)),(33,.pv (.bool false))],
     [(2,[.pv (vI t.kind),.pv (.str t.name),.pv (vI t.id),.pv (vI t.home),.pv (.aq (t.args.map Ty.pv))]),(4,[.pv (vI 0),.pv (.str []),.pv (vI 0),.pv (vI 0),.own [] 0]),
       (5,[.pv (vI t.kind),.pv (.str t.name),.pv (vI t.id),.pv (vI t.home),.own ((t.args.map (Ty.ly s)).map Ty.pv) 1])],[],[0,t.args.length]⟩)
 |0,i,hn,hi,acc,a=>by
  have:i=t.args.length:=by omega
  subst this;subst a;rw[g48L0e];simp[g48B0]
 |n+1,i,hn,hi,acc,a=>by
  have hi:i<t.args.length:=(by omega);obtain⟨x,hx⟩:=aQ hi;unfold Sm at hS;have c:(acc.length+1)*64<=140737488355328:=by subst a;simp;omega
  have hc:=h x (aK hx);have b:=L48 hS h n (i+1) (by omega) (by omega) (acc++[x.ly s]) (by rw[zaU,hx,a];simp);rw[g48L0e]at b⊢;simp at b hc;simp(disch:=omega)[-getElem?_pos,g48B0,hx,hi,hc,c,ae];rw[g48L0e];simp[b]
def c48{s:List Ty}(hs:Sm s){t:Ty}(e:t.Ok):(az AP).p 48 [t.pv,.aq (s.map Ty.pv)]=some [(t.ly s).pv]:=by
 revert e
 refine Ty.cD (p:=fun t=>t.Ok->(az AP).p 48 [t.pv,.aq (s.map Ty.pv)]=some [(t.ly s).pv]) ?_ t;intro t f e;rw[aw g48];unfold Sm at hs;have h:=L48 (s:=s) e.sm (fun x hx=>f x hx (e.d6 x hx)) _ 0 rfl (by omega) [] (by simp);rw[g48L0e]at h;simp at h;cases hp:Mo s t with
 |some u=>
  obtain⟨a,b,c,d⟩:=kj hp;have b1:¬t.id<0:=by omega
  simp (disch:=omega) [-getElem?_pos,g48,a,b,b1,c,d,Ty.lz s t,hp]
 |none=>
  have q:=Dc hp;by_cases a:t.kind=2
  .by_cases b:0<=t.id
   .have c:¬t.id<s.length:=fun c=>q ⟨a,b,c⟩;simp[a]at h;simp(disch:=omega)[-getElem?_pos,g48,a,b,c,g48L0e,h,Ty.lz s t,hp]
   .simp[a]at h;simp(disch:=omega)[-getElem?_pos,g48,a,b,g48L0e,h,Ty.lz s t,hp]
  .simp(disch:=omega)[-getElem?_pos,g48,a,g48L0e,h,Ty.lz s t,hp]
def Px{s:List Ty}(hs:∀a∈s,a.Ok){t:Ty}(h:t.Ok):(t.ly s).Ok:=by
 revert h
 refine Ty.cD (p:=fun t=>t.Ok->(t.ly s).Ok) ?_ t;intro t b h;rw[Ty.lz];cases hp:Mo s t with
 |some u=>exact hs u (aK (kj hp).2.2.2)
 |none=>
  refine⟨?_,?_⟩
  .have:=h.sm;unfold Sm at this⊢;simpa using this
  .intro x hx;simp at hx;obtain⟨y,hy,rfl⟩:=hx;exact b y hy (h.d6 y hy)
structure Good(S:List Ty)(t:Ty):Prop where
 ok:t.Ok
 wf:t.Wf
 sub:∀x∈t.fm 1,x∈S
def yp{t:Ty}(a:t.Wf):∀x∈t.nodes,x.kind=1->x∈t.fm 1:=by
 revert a
 refine Ty.cD (p:=fun t=>t.Wf->∀x∈t.nodes,x.kind=1->x∈t.fm 1) ?_ t;intro t c a x hx b;rw[Ty.aL]at hx;rw[Ty.nH];simp only[zau,zaC]at hx;rcases hx with rfl|⟨y,hy,hx⟩
 .have d:=a.var b;simp[b,d]
 .have:¬(t.kind=1/\t.args.length=0):=by
   rintro⟨_,h⟩
   have:t.args=[]:=by simpa using h
   rw[this]at hy;simp at hy
  rw[zai this];simp only[zaC];exact⟨y,hy,c y hy (a.d6 y hy) x hx b⟩
def Hi{S:List Ty}(hf:S.length<1099511627776)(b:∀x∈S,x.Ok){l:List Ty}(hS:Sm l)(a:∀t∈l,Good S t):(az AP).p 56 [.aq (l.map Ty.pv)]=some [.aq ((vars l).map vI)]:=by
 rw[<-wj (fun t ht=>(a t ht).wf)];refine c56 hf b hS (fun t ht=>(a t ht).ok) ?_;intro x hx;simp only[zaC]at hx;obtain⟨t,ht,hx⟩:=hx;exact(a t ht).sub x hx
theorem Wr{l:List En}(hS:Sm l):∀(n i:Nat),l.length-i=n->i<=l.length->∀acc:List En,acc.length<=i->
   cl AP g201L0 ⟨[(0,.pv (.aq (l.map En.pv))),(3,.own (acc.map En.pv) 0),(4,.pv (vI i))],[],[],[acc.length]⟩=
     some (.exit 0,⟨[(0,.pv (.aq (l.map En.pv))),(3,.own ((acc++dD (l.drop i)).map En.pv) 0),(4,.pv (vI l.length)),(10,.pv (.bool false))],[],[],[(acc++dD (l.drop i)).length]⟩)
 |0,i,hn,hi,acc,g=>by
  have:i=l.length:=by omega
  subst this;rw[g201L0e];simp[g201B0,dD]
 |n+1,i,hn,hi,acc,g=>by
  have hi:i<l.length:=(by omega);obtain⟨x,hx⟩:=aQ hi;have k:=c181 (l:=l.drop (i+1)) (s:=x.name) (by unfold Sm at hS⊢;simp;omega);unfold Sm at hS;have f:(acc.length+1)*88<=140737488355328:=(by omega);have b:=aaN (sz:=7) (l:=l.map En.pv) (k:=.i64) (h:=(i:Int)+1) (by omega) (by simp;omega) (by simp);have hd:((i:Int)+1).toNat=i+1:=(by omega);rw[hd]at b;rw[aR hx];simp only[Sa]at k;cases e:Is (l.drop (i+1)) x.name with
  |some c=>
   have d:(l.drop (i+1)).any (fun y=>decide (y.name=x.name))=true:=any_none.2 ⟨c,e⟩;have es:dD (x::l.drop (i+1))=dD (l.drop (i+1)):=(by simp only[dD,d,zbc]);have a:=Wr hS n (i+1) (by omega) (by omega) acc (by omega);rw[g201L0e]at a⊢;rw[e]at k;simp at a k;simp(disch:=omega)[-getElem?_pos,g201B0,hx,hi,ae,b,k,es];rw[g201L0e];simp[a]
  |none=>
   have d:(l.drop (i+1)).any (fun y=>decide (y.name=x.name))=false:=by
    cases h:(l.drop (i+1)).any (fun y=>decide (y.name=x.name))with
    |false=>rfl
    |true=>obtain⟨c,hc⟩:=any_none.1 h;rw[e]at hc;cases hc
   have es:dD (x::l.drop (i+1))=x::dD (l.drop (i+1)):=(by simp only[dD,d];simp);have a:=Wr hS n (i+1) (by omega) (by omega) (acc++[x]) (by simp;omega);rw[g201L0e]at a⊢;rw[e]at k;simp at a k;simp(disch:=omega)[-getElem?_pos,g201B0,hx,hi,ae,b,k,es,f];rw[g201L0e];simp[a]
def c201{l:List En}(hS:Sm l):(az AP).p 201 [.aq (l.map En.pv)]=some [.aq ((dD l).map En.pv)]:=by
 have h:=Wr hS _ 0 rfl (by omega) [] (by simp);rw[aw g201];rw[g201L0e]at h;simp at h;simp[g201,g201L0e,h]
inductive Ty.Kn (K:Int->Prop):Ty->Prop
 |mk {t:Ty}:(t.kind≠4->K t.kind/\t.args=[])->t.name.length<=100->(∀x∈t.args,x.Kn K)->t.Kn K
def Ty.Kn.hd{K:Int->Prop}{t:Ty}(h:t.Kn K):t.kind≠4->K t.kind/\t.args=[]:=by cases h;assumption
def Ty.Kn.nm{K:Int->Prop}{t:Ty}(h:t.Kn K):t.name.length<=100:=by cases h;assumption
def Ty.Kn.kd{K:Int->Prop}{t:Ty}(h:t.Kn K):∀x∈t.args,x.Kn K:=by cases h;assumption
def Ty.Kn.imp{K K':Int->Prop}(hK:∀k,K k->K' k){t:Ty}(h:t.Kn K):t.Kn K':=by
 induction h with
 |mk h1 hn _ a=>exact .mk (fun q=>⟨hK _ (h1 q).1,(h1 q).2⟩) hn a
def Ty.Kn.wf{K:Int->Prop}{t:Ty}(h:t.Kn K):t.Wf:=by
 induction h with
 |mk h1 _ _ a=>exact⟨fun q=>(h1 (by rw[q];decide)).2,a⟩
def Ty.Kn.cw{K:Int->Prop}{t:Ty}(h:t.Kn K):t.Cw:=by
 induction h with
 |mk h1 _ _ a=>exact⟨fun q=>(h1 q).2,a⟩
def Ty.Kn.bare{K:Int->Prop}{t:Ty}(h:t.args=[])(a:t.kind≠4->K t.kind)(hn:t.name.length<=100):t.Kn K:=.mk (fun q=>⟨a q,h⟩) hn (by rw[h];simp)
def Ty.Kn.nodes{K:Int->Prop}{t:Ty}(h:t.Kn K):∀y∈t.nodes,y.kind≠4->K y.kind/\y.args=[]:=by
 induction h with
 | @mk t h1 _ _ b=>
  intro y hy;rw[Ty.aL]at hy;simp only[zau,zaC]at hy;rcases hy with rfl|⟨a,c,hy⟩
  .exact h1
  .exact b a c y hy
@[simp] def KS(k:Int):Prop:=k=0\/k=1\/k=3
abbrev Ty.Kw(t:Ty):Prop:=t.Kn KS
def Ty.Kw.var{t:Ty}(h:t.Kw):t.kind=1->t.args=[]:=fun q=>(Ty.Kn.hd h (by rw[q];decide)).2
def Ty.Kw.d6{t:Ty}(h:t.Kw):∀x∈t.args,x.Kw:=Ty.Kn.kd h
@[simp] def KG(k:Int):Prop:=k=0\/k=3
@[simp] def KC(k:Int):Prop:=k=0\/k=2\/k=3
@[simp] def KV(k:Int):Prop:=k=0\/k=1\/k=2\/k=3
def Ud:∀k,KG k->KS k:=by intro k h;simp at h⊢;omega
def Zc:∀k,KG k->KC k:=by intro k h;simp at h⊢;omega
def Zd:∀k,KC k->KV k:=by intro k h;simp at h⊢;omega
def Hj{K K':Int->Prop}{s:List As}{t:Ty}(h:t.Kn K)(hK:∀k,K k->k≠1->K' k)(hs:∀i x,ll s i=some x->x.Kn K')(h1:K' 1\/∀y∈t.nodes,y.kind=1->∃x,ll s y.id=some x):(t.sub s).Kn K':=by
 induction h with
 | @mk t c hn _ f=>
  have b:t∈t.nodes:=(by rw[Ty.aL];simp);rw[Ty.sub_eq];by_cases q:t.kind=1
  .rw[zan q];cases e:ll s t.id with
   |some x=>simpa using hs _ _ e
   |none=>
    rcases h1 with h1|h1
    .have:=c (by rw[q];decide);exact .mk (fun _=>⟨by simp only[zbO];rw[q];exact h1,by simpa using this.2⟩) (by simpa using hn) (by rw[zbO,this.2];simp)
    .obtain⟨x,hx⟩:=h1 t b q;rw[hx]at e;cases e
  .rw[zai q];refine .mk (fun r=>?_) hn ?_
   .have:=c r;exact⟨hK _ this.1 q,by simp[this.2]⟩
   .intro x hx;simp only[zat]at hx;obtain⟨a,d,rfl⟩:=hx;refine f a d ?_;rcases h1 with h1|h1
    .exact .inl h1
    .right;intro y hy;refine h1 y ?_;rw[Ty.aL];simp only[zau,zaC];exact .inr ⟨a,d,hy⟩
def Py{K K':Int->Prop}{l:List Ty}{t:Ty}(h:t.Kn K)(hK:∀k,K k->k≠2->K' k)(hs:∀x∈l,x.Kn K')(h1:∀y∈t.nodes,y.kind=2->0<=y.id/\y.id<l.length):(t.ly l).Kn K':=by
 induction h with
 | @mk t f hn _ d=>
  have b:t∈t.nodes:=(by rw[Ty.aL];simp);rw[Ty.lz];cases e:Mo l t with
  |some x=>
   obtain⟨_,_,_,hx⟩:=kj e;simpa using hs _ (aK hx)
  |none=>
   have q:t.kind≠2:=fun q=>Dc e ⟨q,(h1 t b q).1,(h1 t b q).2⟩;simp only[zbO];refine .mk (fun r=>?_) hn ?_
   .have:=f r;exact⟨hK _ this.1 q,by simp[this.2]⟩
   .intro x hx;simp only[zat]at hx;obtain⟨a,c,rfl⟩:=hx;refine d a c ?_;intro y hy;refine h1 y ?_;rw[Ty.aL];simp only[zau,zaC];exact .inr ⟨a,c,hy⟩
def Ex.kU{e x:Ex}(h:x∈e.ch):SizeOf.sizeOf x<SizeOf.sizeOf e:=by
 rw[Ex.ch,zaz,zat]at h;cases e;rcases h with h|⟨a,b,rfl⟩
 .have:=_root_.List.sizeOf_lt_of_mem h;simp at*;omega
 .have:=_root_.List.sizeOf_lt_of_mem b;have:=cX.rW a;simp at*;omega
def Ex.sz(e:Ex):Nat:=1+(e.ch.attach.map fun x=>x.1.sz).sum
termination_by SizeOf.sizeOf e
decreasing_by exact Ex.kU x.2
def Ex.jd(e:Ex):e.sz=1+(e.ch.map Ex.sz).sum:=by
 rw[Ex.sz,zbh,zbA]
def Ex.ko(e:Ex):1<=e.sz:=by rw[Ex.jd];omega
def wt{α:Type}{l:List α}{f:α->Nat}{M:Nat}(h:∀x∈l,f x<=M):(l.map f).sum<=l.length*M:=by
 induction l with
 |nil=>simp
 |cons a r b=>
  have h1:=h a (by simp);have h2:=b fun x hx=>h x (by simp[hx])
  simp only[zal,zbj,zae,zaI];omega
def kr{α:Type}{l:List α}{f:α->Nat}{x:α}(h:x∈l):f x<=(l.map f).sum:=by
 induction l with
 |nil=>cases h
 |cons a r b=>
  simp only[zal,zbj];rcases zau.1 h with rfl|h
  .omega
  .have:=b h;omega
def Ex.lA{e x:Ex}(h:x∈e.ch):x.sz<e.sz:=by
 have:=kr (f:=Ex.sz) h;rw[e.jd];omega
@[simp] def KT(k:Int):Prop:=k=0\/k=5
inductive kH:Ex->Prop
 |leaf {e:Ex}:(e.kind=1\/e.kind=2)/\e.name.length<=100\/e.kind=3/\0<=e.num/\e.num<1000000000\/e.kind=10/\e.name=[]/\e.num=0/\e.ty=bF->e.kids=[]->e.aB=[]->kH e
 |lam {e a:Ex}:e.kind=4->e.name.length<=100->e.kids=[a]->e.aB=[]->kH a->kH e
 |app {e a b:Ex}:e.kind=5->e.kids=[a,b]->e.aB=[]->kH a->kH b->kH e
 |rY {e a b:Ex}:e.kind=6\/e.kind=7->e.name.length<=100->e.kids=[a,b]->e.aB=[]->kH a->kH b->kH e
 |mT {e a:Ex}:e.kind=8->e.kids=[a]->kH a->e.aB.length<=100->
     (∀x∈e.aB,x.cv.length<=100/\x.vars.length<=10/\∀v∈x.vars,v.length<=100)->(∀x∈e.aB,kH x.body)->kH e
 |Mp {e a:Ex}:e.kind=9->e.kids=[a]->e.aB=[]->e.ty.Kn KT->e.ty.nodes.length<=10000->kH a->kH e
 |held {e a:Ex}:e.kind=11->e.kids=[a]->e.aB=[]->kH a->kH e
def kH.c{e:Ex}(h:kH e):∀x∈e.ch,kH x:=by
 intro x hx;rw[Ex.ch,zaz,zat]at hx;cases h with
 |leaf _ h2 h3=>rw[h2,h3]at hx;simp at hx
 |lam _ _ h2 h3 h=>rw[h2,h3]at hx;simp at hx;subst hx;exact h
 |app _ h2 h3 h h'=>rw[h2,h3]at hx;simp at hx;rcases hx with rfl|rfl<;>assumption
 |rY _ _ h2 h3 h h'=>rw[h2,h3]at hx;simp at hx;rcases hx with rfl|rfl<;>assumption
 |Mp _ h2 h3 _ _ h=>rw[h2,h3]at hx;simp at hx;subst hx;exact h
 |held _ h2 h3 h=>rw[h2,h3]at hx;simp at hx;subst hx;exact h
 |mT _ h2 h _ _ h6=>
  rw[h2]at hx;simp at hx;rcases hx with rfl|⟨a,b,rfl⟩
  .exact h
  .exact h6 a b
def wN(n:Nat):Nat:=5 ^ (n / 4)*(n % 4+1)+(if n<4 then 0 else n % 4)
def Ze{n m:Nat}(h:n<=m):wN n<=wN m:=by
 have step:∀n,wN n<=wN (n+1):=by
  intro n;unfold wN;by_cases q:n % 4=3
  .have h1:(n+1) / 4=n / 4+1:=(by omega);have h2:(n+1) % 4=0:=(by omega);rw[h1,h2,q,zcj];by_cases z:n<4
   .have:n / 4=0:=by omega
    rw[this];split<;>split<;>omega
   .obtain⟨k,b⟩:∃k,n / 4=k+1:=⟨n / 4-1,by omega⟩;have:=zcL k 5 (by decide);rw[b,zcj];generalize 5 ^ k=P at*;split<;>split<;>omega
  .have h1:(n+1) / 4=n / 4:=(by omega);have h2:(n+1) % 4=n % 4+1:=(by omega);rw[h1,h2];have:5 ^ (n / 4)*(n % 4+1)<=5 ^ (n / 4)*(n % 4+1+1):=Nat.mul_le_mul_left _ (by omega);split<;>split<;>omega
 induction h with
 |refl=>exact zas _
 |step _ a=>exact za9 a (step _)
def Hk(m:Nat):wN (4*m)=5 ^ m:=by
 unfold wN;have h1:4*m / 4=m:=by omega
 have h2:4*m % 4=0:=by omega
 rw[h1,h2];split<;>omega
def xl{α:Type}{l:List α}{i:Nat}{x:α}(h:i<l.length):(l.set i x).take (i+1)=l.take i++[x]:=by
 rw[zaw,zan h,zaV,zaf (by simp;omega)];have:i+1-(l.take i).length=1:=by simp;omega
 rw[this];rfl
def De{α:Type}{l:List α}{i j:Nat}{x:α}(h:i<j):(l.set i x).drop j=l.drop j:=by
 rw[za7 h]
def Ws{X:Sh}(k:aG X){t:List UInt8}{N:Nat}(hN:N<1099511627776):∀(n j:Nat),N-j=n->j<=N->∀(a:List (List UInt8))(i:Nat),a.length=N->i<j->∃(d:List (List UInt8))(f:Nat),
   cl AP g412L0 ⟨[(0,.aP X.length 1 N false),(1,.fn 413 [.aV (X.length+1) 0]),(5,.pv (vI i)),(6,.pv (vI j))],[],SA X a t,[]⟩=
     some (.exit 0,⟨[(0,.aP X.length 1 N false),(1,.fn 413 [.aV (X.length+1) 0]),(5,.pv (vI f)),(6,.pv (vI N)),(19,.pv (.bool false))],[],SA X d t,[]⟩)/\
     d.length=N/\f<=N/\d.take f=a.take i++(a.drop j).filter (fun x=>!decide (x=t))
 |0,j,w,hj,a,i,p,hi=>by
  have:j=N:=by omega
  subst this;have hn:=(fZ k (l:=a) (t:=t)).norm;refine⟨a,i,?_,p,by omega,by rw[List.drop_of_length_le (by omega)];simp⟩;generalize SA X a t=SH at hn⊢;rw[g412L0e];simp[g412B0,hn]
 |n+1,j,w,hj,a,i,p,hi=>by
  have hj:j<N:=(by omega);obtain⟨x,hx⟩:=aQ (l:=a) (i:=j) (by omega);have hn:=(fZ k (l:=a) (t:=t)).norm;have hs:=(fZ k (l:=a) (t:=t)).shift;have u:=Pu hx;have v:bW (tx a)=false:=bw nI;have o:j+1<=(tx a).length:=(by rw[pL];omega);have m:i+1<=(tx a).length:=(by rw[pL];omega);have hA:=Hh (X:=X) (l:=a) (t:=t);have q:=Pv hn hs Ps (by rw[Ao];omega) (x:=x) (t:=t) (c:=X.length+1);by_cases e:x=t
  .obtain⟨d,f,e1,e2,e3,e4⟩:=Ws k (t:=t) hN n (j+1) (by omega) (by omega) a i p (by omega);refine⟨d,f,?_,e2,e3,by rw[e4,aR hx];simp[e]⟩;rw[za2 e]at q;generalize SA X d t=y at e1⊢;generalize SA X a t=SH at hn hs hA q e1⊢;rw[g412L0e]at e1⊢;simp[hn]at e1;simp(disch:=omega)[-getElem?_pos,-eZ,g412B0,hj,hn,hA,u,v,o,q,ae];rw[g412L0e];simp[hn,e1]
  .obtain⟨d,f,e1,e2,e3,e4⟩:=Ws k (t:=t) hN n (j+1) (by omega) (by omega) (a.set i x) (i+1) (by simpa using p) (by omega);refine⟨d,f,?_,e2,e3,by rw[e4,aR hx,xl (by omega),De (by omega)];simp[e]⟩;rw[zaY e]at q;have r:i<N:=by omega
   have g:=Wo (l:=a) (i:=i) (by omega) (s:=x);have b:=Pt (X:=X) (l:=a) (l':=a.set i x) (t:=t);have h:=(fZ k (l:=a.set i x) (t:=t)).norm;generalize SA X d t=y at e1⊢;generalize SA X (a.set i x) t=A at b h e1;generalize SA X a t=SH at hn hs hA q b⊢;generalize tx (a.set i x)=z at g b;rw[g412L0e]at e1⊢;simp[h]at e1 g;simp(disch:=omega)[-getElem?_pos,-eZ,g412B0,hj,hn,hA,u,v,o,m,r,q,ae,g,b];rw[g412L0e];simp[h,e1]
def c421{SH:Sh}(hn:∀aH ts,bg aH ts SH=(SH,aH,ts))(hs:∀n,dU n SH=SH){b c:Nat}{t:List UInt8}{l:List (List UInt8)}(hS:Sm l)(d:SH[b]?=some (some (tx l)))(a:SH[c]?=some (some [.pv (.str t)]))(hc:c<SH.length):
   (az AP).i 421 [.aP b 1 l.length false,.fn 413 [.aV c 0]] SH []=some ([.pv (vI (lr (bS (fun x=>decide (x=t)) l)))],SH,[]):=by
 have h:=Y_ hn hs hS d a hc _ 0 rfl (by omega);simp at h;rw[gV (af:=tT 1 false) rfl (by simp[tT])];cases hi:bS (fun x=>decide (x=t)) l with
 |none=>rw[hi]at h;simp at h;simp[tT,h,hn,lr]
 |some k=>rw[hi]at h;simp at h;simp[tT,h,hn,lr]
theorem IA{α:Type}{p:α->Bool}:∀{l:List α},bS p l=none->l.filter (fun x=>!p x)=l
 |[],_=>rfl
 |x::r,h=>by
  simp only[bS]at h;split at h
  .simp at h
  .rename_i e;cases h':bS p r with
   |none=>simp[e,IA h']
   |some k=>rw[h']at h;simp at h
def IB{α:Type}{p:α->Bool}:∀{l:List α}{k:Nat},bS p l=some k->k<l.length/\l.filter (fun x=>!p x)=l.take k++(l.drop (k+1)).filter (fun x=>!p x)
 |[],_,h=>by simp[bS]at h
 |x::r,k,h=>by
  simp only[bS]at h;split at h
  .rename_i e;simp at h;subst h;simp[e]
  .rename_i e;cases h':bS p r with
   |none=>rw[h']at h;simp at h
   |some k'=>
    rw[h']at h;simp at h;subst h;obtain⟨h1,h2⟩:=IB h';exact⟨by simpa using h1,by simp[e,h2]⟩
theorem Pz{a:List (List UInt8)}{i N:Nat}(hN:a.length=N)(h:i<=N):aS (tx a) i ((List.replicate (N-i) [AV.pv (.str [])]).flatten)=tx (a.take i++List.replicate (N-i) []):=by
 have e:∀k,(List.replicate k [AV.pv (.str [])]).flatten=List.replicate k (AV.pv (.str [])):=by
  intro k;induction k with
  |zero=>rfl
  |succ k b=>simp only[zbK,zbY,b];rfl
 rw[e,aU,zaM (by rw[pL];simp;omega)];simp[tx,zbr]
def c412{X:Sh}(q:aG X){t:List UInt8}{l:List (List UInt8)}(hS:Sm l):∃a:List (List UInt8),a.length=l.length/\a.take (l.filter fun x=>!decide (x=t)).length=l.filter (fun x=>!decide (x=t))/\
   (az AP).i 412 [.aP X.length 1 l.length false,.fn 413 [.aV (X.length+1) 0]] (SA X l t) []=some ([.aP X.length 1 (l.filter fun x=>!decide (x=t)).length false],SA X a t,[]):=by
 have w:=hS;unfold Sm at w;have hn:=(fZ q (l:=l) (t:=t)).norm;have hs:=(fZ q (l:=l) (t:=t)).shift;have k:=c421 hn hs (b:=X.length) (c:=X.length+1) hS Hh Ps (by rw[Ao];omega);have d:=Ao (X:=X) (l:=l) (t:=t);cases hi:bS (fun x=>decide (x=t)) l with
 |none=>
  rw[hi]at k;have hf:=IA hi;refine⟨l,rfl,by rw[hf];simp,?_⟩;rw[hf,aM g412];generalize SA X l t=SH at hn hs k d⊢;simp[lr]at k;have ht:SH.take SH.length=SH:=zbo;simp[-getElem?_pos,g412,hn,hs,k,lr,d];rw[<-d,ht];simp[hn]
 |some i0=>
  rw[hi]at k;obtain⟨h0,hf⟩:=IB hi;obtain⟨g,e,e1,e2,e3,e4⟩:=Ws q (t:=t) (N:=l.length) (by omega) _ (i0+1) rfl (by omega) l i0 rfl (by omega);rw[<-hf]at e4;have p:(l.filter fun x=>!decide (x=t)).length=e:=by rw[<-e4];simp;omega
  refine⟨g.take e++List.replicate (l.length-e) [],by simp;omega,?_,?_⟩
  .rw[p,<-e4,zbD (by simp;omega),List.take_take];simp
  .rw[p,aM g412];have u:=(fZ q (l:=g) (t:=t)).norm;have j:=(fZ q (l:=g.take e++List.replicate (l.length-e) []) (t:=t)).norm;have y:bW (tx g)=false:=bw nI;have hA:=Hh (X:=X) (l:=g) (t:=t);have n:(tx g).length=l.length:=by rw[pL,e2]
   have h:=Pz e2 e3;have f:=Pt (X:=X) (l:=g) (l':=g.take e++List.replicate (l.length-e) []) (t:=t);have m:=Ao (X:=X) (l:=g.take e++List.replicate (l.length-e) []) (t:=t);generalize SA X (g.take e++List.replicate (l.length-e) []) t=S2 at j f m⊢;generalize SA X g t=A at u hA f e1;generalize SA X l t=SH at hn hs k d e1⊢;generalize tx (g.take e++List.replicate (l.length-e) [])=z at h f;have ht:S2.take S2.length=S2:=zbo;rw[g412L0e]at e1;simp[hn]at e1;have o:¬((i0:Int)=-1):=(by omega);have v:e+(l.length-e)<=l.length:=(by omega);rcases Nat.eq_zero_or_pos e with hz|hz
   .subst hz;simp at h;simp(disch:=omega)[-getElem?_pos,g412,hn,hs,k,lr,o,ae,g412L0e,e1,lI,dw,hA,y,n,h,f,d];rw[<-m,ht];simp[j]
   .have s:¬((e:Int)=0):=(by omega);have r:¬e=0:=(by omega);simp[e3]at h;simp(disch:=omega)[-getElem?_pos,g412,hn,hs,k,lr,o,ae,g412L0e,e1,lI,dw,s,r,e3,hA,y,n,v,h,f,d];rw[<-m,ht];simp[j]
def oF(l:List (List UInt8))(t:List UInt8):List (List UInt8):=(l.filter fun x=>!decide (x=t))++[t]
def c412e{SH:Sh}(hn:∀aH ts,bg aH ts SH=(SH,aH,ts))(hs:∀n,dU n SH=SH){c:Nat}:
   (az AP).i 412 [.own [] 0,.fn 413 [.aV c 0]] SH [0]=some ([.own [] 0],SH,[0]):=by
 have k:(az AP).i 421 [.pv (.aq []),.fn 413 [.aV c 0]] SH []=some ([.pv (vI (-1))],SH,[]):=by
  rw[gV (af:=tT 1 false) rfl (by simp[tT])];simp[tT,hn,qF,Ah]
 rw[aM g412];have ht:SH.take SH.length=SH:=zbo;simp[-getElem?_pos,g412,hn,hs,k,ht]
def D6(X:Sh)(l:List (List UInt8)):AV:=if l=[]then .own [] 0 else .aP X.length 1 l.length false
def A6(X:Sh)(l:List (List UInt8)):Sh:=if l=[]then X else X++[some (tx l)]
def D7(l:List (List UInt8)):aF:=if l=[]then[0]else[]
def PA{e:List AV}(D:∀v∈e,∃p,v=AV.pv p){i9 i22:Int}{p20:PV}{n21:Int}{V:List (List UInt8)}(hV:V.length<1000000):∀(n j:Nat),V.length-j=n->j<=V.length->∀(X:Sh)(l:List (List UInt8)),aG X->l.length+n<1000000000->∃X',aG X' /\
   cl AP g404L1 ⟨[(2,.au 2 0),(7,D6 X l),(9,.pv (vI i9)),(20,.pv p20),(21,.pv (vI n21)),(22,.pv (vI i22)),(28,.pv (.aq (V.map .str))),(29,.pv (vI V.length)),(30,.pv (vI j))],[(2,e)],A6 X l,D7 l⟩=
     some (.exit 2,⟨[(2,.au 2 0),(7,D6 X' ((V.drop j).foldl oF l)),(9,.pv (vI i9)),(20,.pv p20),(21,.pv (vI n21)),(22,.pv (vI i22)),(28,.pv (.aq (V.map .str))),(29,.pv (vI V.length)),(30,.pv (vI V.length)),(31,.pv (.bool false))],[(2,e)],A6 X' ((V.drop j).foldl oF l),D7 ((V.drop j).foldl oF l)⟩)
 |0,j,L,hj,X,l,i,hl=>by
  have:j=V.length:=by omega
  subst this;refine⟨X,i,?_⟩;rw[zaO];simp only[List.foldl_nil];have hn:=i.norm;have b:∀aH ts,br aH ts e=(e,aH,ts):=fun aH ts=>nF D
  by_cases h0:l=[]
  .rw[g404L1e];simp[g404B1,D6,A6,D7,h0,hn,b]
  .have d:∀aH ts,bg aH ts (X++[some (tx l)])=(X++[some (tx l)],aH,ts):=(i.app (aG.one nI)).norm;rw[g404L1e];simp only[D6,A6,D7,zai h0];generalize X++[some (tx l)]=Y at d;simp[g404B1,d,b]
 |n+1,j,L,hj,X,l,i,hl=>by
  have hj:j<V.length:=(by omega);obtain⟨t,ht⟩:=aQ hj;have b:∀aH ts,br aH ts e=(e,aH,ts):=fun aH ts=>nF D
  have hn:=i.norm;have hs:=i.shift;have o:(l.filter fun x=>!decide (x=t)).length<=l.length:=List.length_filter_le _ _;have J:(oF l t).length<=l.length+1:=(by simp[oF,o]);rw[aR ht,zaS];by_cases h0:l=[]
  .subst h0;have h:aG (X++[some [.pv (.str t)]]):=i.app (aG.one (by intro v hv;simp at hv;exact⟨_,hv⟩));have k:=c412e h.norm h.shift (c:=X.length);obtain⟨X',y,f⟩:=PA D (i9:=i9) (i22:=i22) (p20:=p20) (n21:=n21) hV n (j+1) (by omega) (by omega) (X++[some [.pv (.str t)]]) [t] h (by simp at hl⊢;omega);refine⟨X',y,?_⟩;have N:oF [] t=[t]:=by simp[oF]
   rw[N]
   have g:∀aH ts,bg aH ts (X++[some [.pv (.str t)],some [.pv (.str t)]])=(X++[some [.pv (.str t)],some [.pv (.str t)]],aH,ts):=by
    have:=(h.app (aG.one (cs:=[AV.pv (.str t)]) (by intro v hv;simp at hv;exact⟨_,hv⟩))).norm;simpa using this
   have d:=h.norm;have F:=h.shift;generalize (V.drop (j+1)).foldl oF [t]=r at f⊢;rw[g404L1e]at f⊢;simp[D6,A6,D7,b,tx,g]at f⊢;simp(disch:=omega)[-getElem?_pos,g404B1,ht,hj,hn,d,F,b,k,ae];rw[g404L1e];simp[b,g,f]
  .obtain⟨a,P,O,k⟩:=c412 i (t:=t) (l:=l) (by unfold Sm;omega);have C:aG (X++[none,some [.pv (.str t)]]):=i.app (by intro cs hc v hv;simp at hc;subst hc;simp at hv;exact⟨_,hv⟩);obtain⟨X',y,f⟩:=PA D (i9:=i9) (i22:=i22) (p20:=p20) (n21:=n21) hV n (j+1) (by omega) (by omega) (X++[none,some [.pv (.str t)]]) (oF l t) C (by omega);refine⟨X',y,?_⟩;have E:oF l t≠[]:=by simp[oF]
   have B:∀aH ts,bg aH ts (X++[some (tx l)])=(X++[some (tx l)],aH,ts):=(i.app (aG.one nI)).norm;have d:=(fZ i (l:=l) (t:=t)).norm;have g:=(fZ i (l:=a) (t:=t)).norm;have q:=(fZ i (l:=a) (t:=t)).shift
   have s:∀aH ts,bg aH ts (X++[none,some [.pv (.str t)],some (tx (oF l t))])=(X++[none,some [.pv (.str t)],some (tx (oF l t))],aH,ts):=by
    have:=(C.app (aG.one (cs:=tx (oF l t)) nI)).norm;simpa using this
   have I:bW (tx a)=false:=bw nI;have A:(tx a).length=l.length:=(by rw[pL,P]);have z:(oF l t).length=(l.filter fun x=>!decide (x=t)).length+1:=by simp[oF]
   have m:tx (oF l t)=(tx a).take (l.filter fun x=>!decide (x=t)).length++[.pv (.str t)]:=by
    have:(tx a).take (l.filter fun x=>!decide (x=t)).length=tx (l.filter fun x=>!decide (x=t)):=by
     conv=>rhs;rw[<-O]
     simp[tx,zbr]
    rw[this];simp[tx,oF]
   have M:∀u v:Option (List AV),(X++[u,v])[X.length]?=some u:=fun u v=>by simp
   have g1:∀u v:Option (List AV),(X++[u,v])[X.length+1]?=some v:=fun u v=>by simp
   have s0:∀u v w:Option (List AV),(X++[u,v]).set X.length w=X++[w,v]:=fun u v w=>by simp
   have s1:∀u v w:Option (List AV),(X++[u,v]).set (X.length+1) w=X++[u,w]:=fun u v w=>by simp
   unfold SA at k d g q;simp only[D6,A6,D7,zai h0,zai E]at f⊢;generalize (V.drop (j+1)).foldl oF (oF l t)=r at f⊢;rw[z]at f;generalize (l.filter fun x=>!decide (x=t)).length=K at k m f o;have H:(K+1)*16<=140737488355328:=by omega
   have G:K<=l.length:=o;generalize tx (oF l t)=R at m s f;generalize tx a=U at k g q I A m;generalize tx l=T at k B d⊢;generalize (if r=[]then AV.own [] 0 else AV.aP X'.length 1 r.length false)=Q at f⊢;generalize (if r=[]then X' else X'++[some (tx r)])=W at f⊢;generalize (if r=[]then([0]:aF)else[])=S at f⊢;rw[g404L1e]at f⊢;simp[b,s]at f;simp(disch:=omega)[-getElem?_pos,g404B1,ht,hj,B,d,g,q,b,k,ae,I,A,H,G,M,g1,s0,s1,<-m];rw[g404L1e];simp[b,s,f]
def Zf{s:List bj}(hS:Sm s){y:bj}:∀(n i:Nat),s.length-i=n->i<=s.length->
   cl AP g364L0 ⟨[(0,.pv (.aq (s.map .str))),(1,.pv (.str y)),(5,.pv (vI i))],[],[],[]⟩=
     if y∈s.drop i then some (.ret,⟨[(4,.pv (.bool true))],[],[],[]⟩)
     else some (.exit 0,⟨[(0,.pv (.aq (s.map .str))),(1,.pv (.str y)),(5,.pv (vI s.length)),(9,.pv (.bool false))],[],[],[]⟩)
 |0,i,hn,hi=>by
  have:i=s.length:=by omega
  subst this;rw[g364L0e];simp[g364B0]
 |n+1,i,hn,hi=>by
  have hi:i<s.length:=(by omega);obtain⟨x,hx⟩:=aQ hi;unfold Sm at hS;have a:=Zf hS (y:=y) n (i+1) (by omega) (by omega);simp at a;rw[g364L0e,aR hx];by_cases e:x=y
  .subst e;simp(disch:=omega)[-getElem?_pos,g364B0,hx,hi]
  .have b:¬y=x:=fun h=>e h.symm;simp(disch:=omega)[-getElem?_pos,g364B0,hx,hi,e,b,ae,a]
def c364{s:List bj}(hS:Sm s){y:bj}:(az AP).p 364 [.aq (s.map .str),.str y]=some [.bool (decide (y∈s))]:=by
 have h:=Zf hS (y:=y) _ 0 rfl (by omega);simp at h;rw[aw g364];by_cases e:y∈s<;>simp[e]at h<;>simp[g364,h,e]
noncomputable def dE:List bj->List bj
 |[]=>[]
 |x::r=>if x∈r then dE r else x::dE r
def Wt{s:List bj}(hS:s.length<1000000000):∀(n i:Nat),s.length-i=n->i<=s.length->∀acc:List bj,acc.length<=i->
   cl AP g440L0 ⟨[(0,.pv (.aq (s.map .str))),(3,.own (acc.map .str) 0),(4,.pv (vI i))],[],[],[acc.length]⟩=
     some (.exit 0,⟨[(0,.pv (.aq (s.map .str))),(3,.own ((acc++dE (s.drop i)).map .str) 0),(4,.pv (vI s.length)),(8,.pv (.bool false))],[],[],[(acc++dE (s.drop i)).length]⟩)
 |0,i,hn,hi,acc,hl=>by
  have:i=s.length:=by omega
  subst this;rw[g440L0e];simp[g440B0,dE]
 |n+1,i,hn,hi,acc,hl=>by
  have hi:i<s.length:=(by omega);obtain⟨x,hx⟩:=aQ hi;have c:=c364 (s:=s.drop (i+1)) (by unfold Sm;simp;omega) (y:=x);rw[zcu]at c;have f:(acc.length+1)*16<=140737488355328:=(by omega);have d:(i:Int)+1<=s.length:=by omega
  have b:cx false 1 true false false [.pv (.aq (s.map .str)),.pv (.int .i64 ((i:Int)+1))]=some (.pv (.aq ((s.map PV.str).drop (i+1)))):=by
   have h0:(0:Int)<=(i:Int)+1:=(by omega);have h1:((i:Int)+1).toNat=i+1:=(by omega);have h2:bl 1 (s.map PV.str)=true:=mB.head s;simp[cx,dw,cG,d,h0,h1,h2];rw[zaf (by simp)]
  rw[aR hx,g440L0e];by_cases e:x∈s.drop (i+1)
  .have a:=Wt hS n (i+1) (by omega) (by omega) acc (by omega);simp only[dE,zan e];rw[za2 e]at c;simp at a;simp(disch:=omega)[-getElem?_pos,g440B0,hx,hi,ae,b,c,a]
  .have a:=Wt hS n (i+1) (by omega) (by omega) (acc++[x]) (by simp;omega);simp only[dE,zai e];rw[zaY e]at c;simp at a;simp(disch:=omega)[-getElem?_pos,g440B0,hx,hi,ae,b,c,f,a]
def c440{s:List bj}(hS:s.length<1000000000):(az AP).p 440 [.aq (s.map .str)]=some [.aq ((dE s).map .str)]:=by
 have h:=Wt hS _ 0 rfl (by omega) [] (by simp);simp at h;rw[aw g440];rw[g440L0e]at h;simp at h;simp[g440,g440L0e,h]
inductive Ex.One:Ex->Prop
 |mk {e:Ex}:(e.kind=8->e.kids.length=1)->(∀x∈e.ch,x.One)->e.One
def Ex.One.h{e:Ex}(h:e.One):e.kind=8->e.kids.length=1:=by cases h;assumption
def Ex.One.c{e:Ex}(h:e.One):∀x∈e.ch,x.One:=by cases h;assumption
def Ex.wu:Ex->List Int->List bj
 |_,[]=>[]
 |e,i::r=>dv e i.toNat++match e.ch[i.toNat]? with|some x=>x.wu r|none=>[]
def ku{e:Ex}{i:Nat}(h:e.Ok):(dv e i).length<=1000:=by
 unfold dv;split
 .simp
 .split
  .cases hx:e.aB[i-1]? with
   |none=>simp
   |some a=>exact h.v a (aK hx)
  .simp
def Aq{e:Ex}{k:Int}{r:List Int}{y:Ex}(h:e.at (k::r)=some y):∃(m:Nat)(x:Ex),k=m/\m<e.ch.length/\e.ch[m]?=some x/\x.at r=some y:=by
 simp only[Ex.at]at h;split at h
 .rename_i h1;obtain⟨m,rfl,hm⟩:=mY h1.1 h1.2;obtain⟨x,hx⟩:=aQ hm;simp[hx]at h;exact⟨m,x,rfl,hm,hx,h⟩
 .cases h
def Zg{p:List Int}(hp:p.length<1000000){y:Ex}:∀(n i:Nat),p.length-i=n->i<=p.length->∀(e:Ex)(acc:List bj),e.Ok->e.One->e.at (p.drop i)=some y->acc.length<=i*1000->∃q:List AV,
   cl AP g432L0 ⟨[(1,.pv (.aq (p.map vI))),(2,.au 2 0),(7,.own (acc.map .str) 0),(8,.pv (vI i))],[(2,e.cl)],[],[acc.length]⟩=
     some (.exit 0,⟨[(1,.pv (.aq (p.map vI))),(2,.au 2 0),(7,.own ((acc++e.wu (p.drop i)).map .str) 0),(8,.pv (vI p.length)),(20,.pv (.bool false))],[(2,q)],[],[(acc++e.wu (p.drop i)).length]⟩)
 |0,i,hn,hi,e,acc,a,h1,g,hl=>by
  have:i=p.length:=by omega
  subst this;refine⟨e.cl,?_⟩;rw[g432L0e];simp[g432B0,Ex.wu]
 |n+1,i,hn,hi,e,acc,a,h1,g,hl=>by
  have hi:i<p.length:=(by omega);obtain⟨k,d⟩:=aQ hi;rw[aR d]at g⊢;obtain⟨m,x,rfl,hm,hx,hy⟩:=Aq g;have j:=ku a (i:=m);obtain⟨q,b⟩:=Zg hp n (i+1) (by omega) (by omega) x (acc++dv e m) (a.c x (aK hx)) (h1.c x (aK hx)) hy (by simp;omega);refine⟨q,?_⟩;have c:=c145 a;have c2:=c380 hm h1.h a;simp at c c2;rw[g432L0e];simp only[Ex.wu,zbx,hx];simp at b;have l:(acc.length+(dv e m).length)*16<=140737488355328:=(by omega);have f:acc.length*16<=140737488355328:=(by omega);generalize e.ch=C at*;generalize o:dv e m=B at*;by_cases h0:B=[]
  .subst h0;simp at b;simp(disch:=omega)[-getElem?_pos,g432B0,d,hi,ae,c,c2,hx,hm,f,b]
  .simp(disch:=omega)[-getElem?_pos,g432B0,d,hi,ae,c,c2,hx,hm,l,h0,b]
def Au{y:Ex}:∀{p:List Int}{e:Ex},e.Ok->e.at p=some y->(e.wu p).length<=p.length*1000
 |[],_,_,_=>by simp[Ex.wu]
 |k::r,e,h,a=>by
  obtain⟨m,x,rfl,hm,hx,hy⟩:=Aq a;have:=Au (h.c x (aK hx)) hy;have:=ku h (i:=m);simp only[Ex.wu,zbx,hx,zad,zae];omega
noncomputable def Av(e:Ex)(p:List Int):List bj:=match e.at p with|some _=>dE (e.wu p)|none=>[]
def c432{e:Ex}(a:e.Ok)(h1:e.One){p:List Int}(hp:p.length<1000000):(az AP).p 432 [e.pv,.aq (p.map vI)]=some [.aq ((Av e p).map .str)]:=by
 have c:=c439 a (p:=p) (by unfold Sm;omega);rw[aw g432];unfold Av;cases hx:e.at p with
 |none=>
  rw[hx]at c;simp[atR,Wq,bF]at c;simp[g432,c]
 |some y=>
  rw[hx]at c;simp[atR]at c;obtain⟨q,h⟩:=Zg hp _ 0 rfl (by omega) e [] a h1 hx (by simp);have hl:=Au a hx;have c2:=c440 (s:=e.wu p) (by omega);simp at h c2;rw[g432L0e]at h;simp at h;simp[g432,c,g432L0e,h,c2]
def Ue{p:List Int}(hp:p.length<100000){y:Ex}:∀(n i:Nat),p.length-i=n->i<=p.length->∀(e:Ex)(X:Sh)(l:List bj),e.Ok->e.One->aG X->e.at (p.drop i)=some y->l.length<=i*1000->∃(s:Sh)(q:List AV),aG s /\
   cl AP g404L0 ⟨[(2,.au 2 0),(7,D6 X l),(20,.pv (.aq (p.map vI))),(21,.pv (vI p.length)),(22,.pv (vI i))],[(2,e.cl)],A6 X l,D7 l⟩=
     some (.exit 0,⟨[(2,.au 2 0),(7,D6 s ((e.wu (p.drop i)).foldl oF l)),(20,.pv (.aq (p.map vI))),(21,.pv (vI p.length)),(22,.pv (vI p.length)),(23,.pv (.bool false))],[(2,q)],A6 s ((e.wu (p.drop i)).foldl oF l),D7 ((e.wu (p.drop i)).foldl oF l)⟩)
 |0,i,hn,hi,e,X,l,w,h1,f,H,hl=>by
  have:i=p.length:=by omega
  subst this;refine⟨X,e.cl,f,?_⟩;have E:=f.norm;have d:∀aH ts,bg aH ts (X++[some (tx l)])=(X++[some (tx l)],aH,ts):=(f.app (aG.one nI)).norm;rw[g404L0e];by_cases h0:l=[]
  .subst h0;simp[g404B0,Ex.wu,D6,A6,D7,E]
  .simp only[zaO,Ex.wu,List.foldl_nil,D6,A6,D7,zai h0];generalize X++[some (tx l)]=O at*;simp[g404B0,d]
 |n+1,i,hn,hi,e,X,l,w,h1,f,H,hl=>by
  have hi:i<p.length:=(by omega);obtain⟨k,M⟩:=aQ hi;rw[aR M]at H⊢;obtain⟨m,x,rfl,hm,hx,hy⟩:=Aq H;have N:=ku w (i:=m);have G:∀v∈e.cl,∃p,v=AV.pv p:=by intro v hv;simp at hv;rcases hv with rfl|rfl|rfl|rfl|rfl|rfl|rfl|rfl|rfl|rfl|rfl<;>exact⟨_,rfl⟩
  obtain⟨J,A,e1⟩:=PA G (i9:=m) (i22:=i) (p20:=.aq (p.map vI)) (n21:=p.length) (V:=dv e m) (by omega) _ 0 rfl (by omega) X l f (by omega)
  have D:∀(V l:List bj),(V.foldl oF l).length<=l.length+V.length:=by
   intro V;induction V with
   |nil=>intro l;simp
   |cons t r j=>
    intro l;have:=j (oF l t);have hf:(l.filter fun x=>!decide (x=t)).length<=l.length:=List.length_filter_le _ _;have:(oF l t).length<=l.length+1:=by simp[oF,hf]
    simp only[zaS,zae];omega
  have F:=D (dv e m) l;obtain⟨s,q,I,j⟩:=Ue hp n (i+1) (by omega) (by omega) x J ((dv e m).foldl oF l) (w.c x (aK hx)) (h1.c x (aK hx)) A hy (by omega);refine⟨s,q,I,?_⟩;have c:=c414 w;have c2:=c411 hm h1.h w;simp only[Ex.wu,zbx,hx,zck];rw[zaj]at e1;generalize P:(x.wu (p.drop (i+1))).foldl oF ((dv e m).foldl oF l)=r at j⊢;generalize (dv e m).foldl oF l=l1 at e1 j F
  have u:∀{X:Sh}{l:List bj},aG X->∀aH ts,bg aH ts (A6 X l)=(A6 X l,aH,ts):=by
   intro X l f aH ts;unfold A6;by_cases h0:l=[]
   .rw[zan h0];exact f.norm aH ts
   .rw[zai h0];exact(f.app (aG.one nI)).norm aH ts
  have d:=u f (l:=l);have o:=u A (l:=l1)
  have a:∀(X:Sh)(l:List bj),(D6 X l=.own [] 0/\D7 l=[0])\/(∃b z k g,D6 X l=.aP b z k g/\D7 l=[]):=by
   intro X l;unfold D6 D7;by_cases h0:l=[]
   .left;simp[h0]
   .right;exact⟨X.length,1,l.length,false,by simp[h0],by simp[h0]⟩
  rw[g404L0e]at j⊢;rw[g404L1e]at e1;generalize e.ch=C at*;generalize dv e m=B at*;simp at c c2
  rcases a X l with⟨L,t1⟩|⟨b1,z1,k1,f1,L,t1⟩<;>rcases a J l1 with⟨K,t2⟩|⟨b2,z2,k2,f2,K,t2⟩<;>simp only[L,t1,K,t2]at e1 j⊢<;>generalize A6 X l=S at*<;> generalize A6 J l1=O at*<;> generalize A6 s r=R at*<;> generalize D6 s r=V2 at*<;> generalize D7 r=Q at*<;>
    simp[d,o]at e1 j⊢ <;>
    simp (disch:=omega) [-getElem?_pos,g404B0,M,hi,ae,c,c2,hx,hm,d,o,g404L1e,e1]<;>rw[g404L0e]<;>simp[o,j]
def mF(t:bj):∀l:List bj,dE (l++[t])=(dE l).filter (fun x=>!decide (x=t))++[t]
 |[]=>by simp[dE]
 |x::r=>by
  simp only[zbb,dE,zaz,zb6];by_cases e:x∈r
  .simp[e,mF t r]
  .by_cases e2:x=t
   .subst e2;simp[e,mF x r]
   .simp[e,e2,mF t r]
def Mq(l:List bj):l.foldl oF []=dE l:=by
 have:∀k,∀l:List bj,l.length=k->l.foldl oF []=dE l:=by
  intro k;induction k with
  |zero=>intro l h;have:=zaR.1 h;subst this;simp[dE]
  |succ k b=>
   intro l h;have a:l≠[]:=by intro e;subst e;simp at h
   obtain⟨r,t,rfl⟩:∃r t,l=r++[t]:=⟨l.dropLast,l.getLast a,(List.dropLast_concat_getLast a).symm⟩;rw[zck,b r (by simpa using h),mF];rfl
 exact this _ l rfl
theorem PB:∀r:List bj,eX (tx r)=some (r.map .str)
 |[]=>rfl
 |t::r=>by
  have a:=PB r;unfold tx at a⊢;simp only[zal,eX,l6,a]
def c404{e:Ex}(f:e.Ok)(h1:e.One){p:List Int}(hp:p.length<100000):(az AP).p 404 [e.pv,.aq (p.map vI)]=some [.aq ((Av e p).map .str)]:=by
 have c:=c410 f (p:=p) (by unfold Sm;omega);rw[aw g404];unfold Av;cases hx:e.at p with
 |none=>
  rw[hx]at c;simp[atR,Wq,bF]at c;simp[g404,c]
 |some y=>
  rw[hx]at c;simp[atR]at c;obtain⟨X',q,b,h⟩:=Ue hp _ 0 rfl (by omega) e [] [] f h1 (by intro cs h;simp at h) hx (by simp);rw[zaj,Mq]at h;generalize dE (e.wu p)=r at*;have hn:=b.norm;have g:∀aH ts,bg aH ts (X'++[some (tx r)])=(X'++[some (tx r)],aH,ts):=(b.app (aG.one nI)).norm;have d:=PB r;have a:=pL (l:=r);rw[g404L0e]at h;by_cases h0:r=[]
  .subst h0;simp[D6,A6,D7]at h;simp[g404,c,g404L0e,h]
  .simp[D6,A6,D7,h0]at h;generalize tx r=T at*;simp[g404,c,g404L0e,h,d,a,d9]
def qK:Nat->List Nat->Nat
 |m,[]=>m
 |m,d::r=>qK (max m (1+d)) r
def Aw{B:Nat}:∀{l:List Nat}{m:Nat},m<=B->(∀d∈l,1+d<=B)->qK m l<=B
 |[],_,h,_=>h
 |d::r,m,h,hl=>Aw (l:=r) (m:=max m (1+d)) (Nat.max_le.2 ⟨h,hl d (by simp)⟩) fun x hx=>hl x (by simp[hx])
def Ex.dp(e:Ex):Nat:=qK 0 (e.ch.attach.map fun x=>x.1.dp)
termination_by SizeOf.sizeOf e
decreasing_by exact Ex.kU x.2
def Ex.nJ(e:Ex):e.dp=qK 0 (e.ch.map Ex.dp):=by
 rw[Ex.dp,zbh,zbA]
def Ex.Df(e:Ex):e.dp<e.sz:=by
 refine Ex.recC (p:=fun e=>e.dp<e.sz) ?_ e;intro e a;rw[Ex.nJ];have hp:=e.ko
 have:qK 0 (e.ch.map Ex.dp)<=e.sz-1:=Aw (by omega) (by
  intro d hd;rw[zat]at hd;obtain⟨x,hx,rfl⟩:=hd;have h1:=a x hx;have h2:=Ex.lA hx;omega)
 omega
def Zh{ch:List Ex}(hN:ch.length<=1000000)(c:∀x∈ch,x.dp<=100000000)(b:∀x∈ch,(az AP).p 547 [x.pv]=some [vI x.dp]):∀(n i:Nat),ch.length-i=n->i<=ch.length->∀m:Nat,m<=100000001->
   cl AP g547L0 ⟨[(3,.pv (vI m)),(7,.pv (.aq (ch.map Ex.pv))),(8,.pv (vI ch.length)),(9,.pv (vI i))],[],[],[]⟩=
     some (.exit 0,⟨[(3,.pv (vI (qK m ((ch.drop i).map Ex.dp):Nat))),(7,.pv (.aq (ch.map Ex.pv))),(8,.pv (vI ch.length)),(9,.pv (vI ch.length)),(10,.pv (.bool false))],[],[],[]⟩)
 |0,i,hn,hi,m,hm=>by
  have:i=ch.length:=by omega
  subst this;rw[g547L0e];simp[g547B0,qK]
 |n+1,i,hn,hi,m,hm=>by
  have hi:i<ch.length:=(by omega);obtain⟨x,hx⟩:=aQ hi;have k:=b x (aK hx);have f:=c x (aK hx);have e:=Zh hN c b n (i+1) (by omega) (by omega) (max m (1+x.dp)) (by omega);rw[aR hx,zal];simp only[qK];generalize qK (max m (1+x.dp)) ((ch.drop (i+1)).map Ex.dp)=M at*;generalize hd:x.dp=d at*;rw[g547L0e]at e⊢;simp at k e;by_cases q:m<1+d
  .have a:(m:Int)<1+d:=(by omega);rw[zcr (by omega)]at e;simp at e;simp(disch:=omega)[-getElem?_pos,g547B0,hx,hi,k,ae,a];rw[g547L0e];simp[e]
  .have a:¬(m:Int)<1+d:=(by omega);rw[zcx (by omega)]at e;simp(disch:=omega)[-getElem?_pos,g547B0,hx,hi,k,ae,a];rw[g547L0e];simp[e]
def c547(e:Ex):e.Ok->e.sz<=100000000->(az AP).p 547 [e.pv]=some [vI e.dp]:=by
 refine Ex.recC (p:=fun e=>e.Ok->e.sz<=100000000->(az AP).p 547 [e.pv]=some [vI e.dp]) ?_ e;intro e d b hs;have k:=c414 b;have hN:e.ch.length<=1000000:=by rw[Ex.cM];have:=b.k;have:=b.a;omega
 rw[aw g547];rw[Ex.nJ];have e1:=Zh hN (fun x hx=>by have:=x.Df;have:=Ex.lA hx;omega) (fun x hx=>d x hx (b.c x hx) (by have:=Ex.lA hx;omega)) _ 0 rfl (by omega) 0 (by omega);rw[zaj]at e1;generalize qK 0 (e.ch.map Ex.dp)=M at*;rw[g547L0e]at e1;simp at k e1;simp[g547,k,g547L0e,e1]
def Zi{ch:List Ex}(hN:ch.length<=1000000)(c:∀x∈ch,x.dp<=100000000)(b:∀x∈ch,(az AP).p 143 [x.pv]=some [vI x.dp]):∀(n i:Nat),ch.length-i=n->i<=ch.length->∀m:Nat,m<=100000001->
   cl AP g143L0 ⟨[(3,.pv (vI m)),(4,.pv (.aq (ch.map Ex.pv))),(5,.pv (vI i))],[],[],[]⟩=
     some (.exit 0,⟨[(3,.pv (vI (qK m ((ch.drop i).map Ex.dp):Nat))),(4,.pv (.aq (ch.map Ex.pv))),(5,.pv (vI ch.length)),(11,.pv (.bool false))],[],[],[]⟩)
 |0,i,hn,hi,m,hm=>by
  have:i=ch.length:=by omega
  subst this;rw[g143L0e];simp[g143B0,qK]
 |n+1,i,hn,hi,m,hm=>by
  have hi:i<ch.length:=(by omega);obtain⟨x,hx⟩:=aQ hi;have k:=b x (aK hx);have f:=c x (aK hx);have e:=Zi hN c b n (i+1) (by omega) (by omega) (max m (1+x.dp)) (by omega);rw[aR hx,zal];simp only[qK];generalize qK (max m (1+x.dp)) ((ch.drop (i+1)).map Ex.dp)=M at*;generalize hd:x.dp=d at*;rw[g143L0e]at e⊢;simp at k e;by_cases q:m<1+d
  .have a:(m:Int)<1+d:=(by omega);rw[zcr (by omega)]at e;simp at e;simp(disch:=omega)[-getElem?_pos,g143B0,hx,hi,k,ae,a];rw[g143L0e];simp[e]
  .have a:¬(m:Int)<1+d:=(by omega);rw[zcx (by omega)]at e;simp(disch:=omega)[-getElem?_pos,g143B0,hx,hi,k,ae,a];rw[g143L0e];simp[e]
def c143(e:Ex):e.Ok->e.sz<=100000000->(az AP).p 143 [e.pv]=some [vI e.dp]:=by
 refine Ex.recC (p:=fun e=>e.Ok->e.sz<=100000000->(az AP).p 143 [e.pv]=some [vI e.dp]) ?_ e;intro e d b hs;have k:=c145 b;have hN:e.ch.length<=1000000:=by rw[Ex.cM];have:=b.k;have:=b.a;omega
 rw[aw g143];rw[Ex.nJ];have e1:=Zi hN (fun x hx=>by have:=x.Df;have:=Ex.lA hx;omega) (fun x hx=>d x hx (b.c x hx) (by have:=Ex.lA hx;omega)) _ 0 rfl (by omega) 0 (by omega);rw[zaj]at e1;generalize qK 0 (e.ch.map Ex.dp)=M at*;rw[g143L0e]at e1;simp at k e1;simp[g143,k,g143L0e,e1]
def Ty.dp(t:Ty):Nat:=qK 0 (t.args.attach.map fun x=>x.1.dp)
termination_by SizeOf.sizeOf t
decreasing_by
 have:=_root_.List.sizeOf_lt_of_mem x.2;cases t;simp at*;omega
def Ty.nJ(t:Ty):t.dp=qK 0 (t.args.map Ty.dp):=by
 rw[Ty.dp,zbh,zbA]
def L51{ch:List Ty}(hN:ch.length<=1000000000000000000)(c:∀x∈ch,x.dp<=100000000)(b:∀x∈ch,(az AP).p 51 [x.pv]=some [vI x.dp]):∀(n i:Nat),ch.length-i=n->i<=ch.length->∀m:Nat,m<=100000001->
   cl AP g51L0 ⟨[(3,.pv (vI m)),(7,.pv (.aq (ch.map Ty.pv))),(8,.pv (vI ch.length)),(9,.pv (vI i))],[],[],[]⟩=
     some (.exit 0,⟨[(3,.pv (vI (qK m ((ch.drop i).map Ty.dp):Nat))),(7,.pv (.aq (ch.map Ty.pv))),(8,.pv (vI ch.length)),(9,.pv (vI ch.length)),(10,.pv (.bool false))],[],[],[]⟩)
 |0,i,hn,hi,m,hm=>by
  have:i=ch.length:=by omega
  subst this;rw[g51L0e];simp[g51B0,qK]
 |n+1,i,hn,hi,m,hm=>by
  have hi:i<ch.length:=(by omega);obtain⟨x,hx⟩:=aQ hi;have k:=b x (aK hx);have f:=c x (aK hx);have e:=L51 hN c b n (i+1) (by omega) (by omega) (max m (1+x.dp)) (by omega);rw[aR hx,zal];simp only[qK];generalize qK (max m (1+x.dp)) ((ch.drop (i+1)).map Ty.dp)=M at*;generalize hd:x.dp=d at*;rw[g51L0e]at e⊢;simp at k e;by_cases q:m<1+d
  .have a:(m:Int)<1+d:=(by omega);rw[zcr (by omega)]at e;simp at e;simp(disch:=omega)[-getElem?_pos,g51B0,hx,hi,k,ae,a];rw[g51L0e];simp[e]
  .have a:¬(m:Int)<1+d:=(by omega);rw[zcx (by omega)]at e;simp(disch:=omega)[-getElem?_pos,g51B0,hx,hi,k,ae,a];rw[g51L0e];simp[e]
def lR{t x:Ty}(h:x∈t.args):x.nodes.length<t.nodes.length:=by
 have:=kr (f:=fun y:Ty=>y.nodes.length) h
 have h2:t.nodes.length=1+(t.args.map fun y=>y.nodes.length).sum:=by
  rw[Ty.aL,zae,zcg];omega
 omega
def Ty.Df(t:Ty):t.dp<t.nodes.length:=by
 refine Ty.cD (p:=fun t=>t.dp<t.nodes.length) ?_ t;intro t a;rw[Ty.nJ];have hp:1<=t.nodes.length:=by cases t;rw[Ty.nodes];simp
 have:qK 0 (t.args.map Ty.dp)<=t.nodes.length-1:=Aw (by omega) (by
  intro d hd;rw[zat]at hd;obtain⟨x,hx,rfl⟩:=hd;have h1:=a x hx;have h2:=lR hx;omega)
 omega
def c51(t:Ty):t.Ok->t.nodes.length<=100000000->(az AP).p 51 [t.pv]=some [vI t.dp]:=by
 refine Ty.cD (p:=fun t=>t.Ok->t.nodes.length<=100000000->(az AP).p 51 [t.pv]=some [vI t.dp]) ?_ t;intro t b a hs;have hN:t.args.length<=1000000000000000000:=by have:=a.sm;unfold Sm at this;omega
 rw[aw g51];rw[Ty.nJ];have e1:=L51 hN (fun x hx=>by have:=x.Df;have:=lR hx;omega) (fun x hx=>b x hx (a.d6 x hx) (by have:=lR hx;omega)) _ 0 rfl (by omega) 0 (by omega);rw[zaj]at e1;generalize qK 0 (t.args.map Ty.dp)=M at*;rw[g51L0e]at e1;simp at e1;simp[g51,g51L0e,e1]
def Dg(t:Ty):List AV:=[.pv (vI t.kind),.pv (.str t.name),.pv (vI t.id),.pv (vI t.home),.pv (.aq (t.args.map Ty.pv))]
def L52{t:Ty}{ch:List Ty}(a:ch=t.args)(hN:ch.length<=1000000000000000000)(f:∀x∈ch,x.dp<=100000000)(c:∀x∈ch,(az AP).p 52 [x.pv]=some [vI x.dp]):∀(n i:Nat),ch.length-i=n->i<=ch.length->∀m:Nat,m<=100000001->
   cl AP g52L0 ⟨[(1,.au 1 0),(3,.pv (vI m)),(4,.pv (vI i))],[(1,Dg t)],[],[]⟩=
     some (.exit 0,⟨[(1,.au 1 0),(3,.pv (vI (qK m ((ch.drop i).map Ty.dp):Nat))),(4,.pv (vI ch.length)),(9,.pv (.bool false))],[(1,Dg t)],[],[]⟩)
 |0,i,hn,hi,m,hm=>by
  have:i=ch.length:=by omega
  subst this;rw[g52L0e];simp[g52B0,qK,Dg,a]
 |n+1,i,hn,hi,m,hm=>by
  have hi:i<ch.length:=(by omega);obtain⟨x,hx⟩:=aQ hi;have k:=c x (aK hx);have g:=f x (aK hx);have e:=L52 a hN f c n (i+1) (by omega) (by omega) (max m (1+x.dp)) (by omega);rw[aR hx,zal];simp only[qK];generalize qK (max m (1+x.dp)) ((ch.drop (i+1)).map Ty.dp)=M at*;generalize hd:x.dp=d at*;subst a;rw[g52L0e]at e⊢;simp[Dg]at k e;by_cases q:m<1+d
  .have b:(m:Int)<1+d:=(by omega);rw[zcr (by omega)]at e;simp[Dg]at e;simp(disch:=omega)[-getElem?_pos,g52B0,Dg,hx,hi,k,ae,b];rw[g52L0e];simp[e]
  .have b:¬(m:Int)<1+d:=(by omega);rw[zcx (by omega)]at e;simp(disch:=omega)[-getElem?_pos,g52B0,Dg,hx,hi,k,ae,b];rw[g52L0e];simp[e]
def c52(t:Ty):t.Ok->t.nodes.length<=100000000->(az AP).p 52 [t.pv]=some [vI t.dp]:=by
 refine Ty.cD (p:=fun t=>t.Ok->t.nodes.length<=100000000->(az AP).p 52 [t.pv]=some [vI t.dp]) ?_ t;intro t b a hs;have hN:t.args.length<=1000000000000000000:=by have:=a.sm;unfold Sm at this;omega
 rw[aw g52];rw[Ty.nJ];have e1:=L52 (t:=t) rfl hN (fun x hx=>by have:=x.Df;have:=lR hx;omega) (fun x hx=>b x hx (a.d6 x hx) (by have:=lR hx;omega)) _ 0 rfl (by omega) 0 (by omega);rw[zaj]at e1;generalize qK 0 (t.args.map Ty.dp)=M at*;rw[g52L0e]at e1;simp[Dg]at e1;simp[g52,g52L0e,e1]
def Ex.yq(e:Ex):Bool:=decide (40<e.ty.dp)|| (e.ch.attach.map fun x=>x.1.yq).any id
termination_by SizeOf.sizeOf e
decreasing_by exact Ex.kU x.2
def Ex.Hl(e:Ex):e.yq=(decide (40<e.ty.dp)|| e.ch.any Ex.yq):=by
 rw[Ex.yq,zbh,zbA,List.any_map];rfl
inductive Ex.Tn:Ex->Prop
 |mk {e:Ex}:e.ty.nodes.length<=100000000->(∀x∈e.ch,x.Tn)->e.Tn
def Ex.Tn.t{e:Ex}(h:e.Tn):e.ty.nodes.length<=100000000:=by cases h;assumption
def Ex.Tn.c{e:Ex}(h:e.Tn):∀x∈e.ch,x.Tn:=by cases h;assumption
def c548i(e:Ex):e.Ok->e.Tn->∀sh,aG sh->(az AP).i 548 [.pv e.pv] sh []=some ([.pv (.bool e.yq)],sh,[]):=by
 refine Ex.recC (p:=fun e=>e.Ok->e.Tn->∀sh,aG sh->(az AP).i 548 [.pv e.pv] sh []=some ([.pv (.bool e.yq)],sh,[])) ?_ e;intro e j g ht sh f;have k1:=c51 e.ty g.t ht.t;have k2:=c414 g;have hN:e.ch.length<=2000:=by rw[Ex.cM];have:=g.k;have:=g.a;omega
 have hS:Sm e.ch:=by unfold Sm;omega
 have hA:Ai (.fn 548 []) sh Ex.pv Ex.yq e.ch:=by
  intro x hx;have:=j x hx (g.c x hx) (ht.c x hx) sh f;have hn:=f.norm;have hs:=f.shift;simp at this;simp[this,hn,hs]
 have k3:=Pc yn (m:=500) (k:=516) rfl rfl hS f rfl rfl (fun _ _=>rfl) hA;have hn:=f.norm;have hs:=f.shift;rw[Ex.Hl];rw[aM g548];generalize e.ch.any Ex.yq=b at*;generalize e.ty.dp=d at*;simp at k1 k2 k3;by_cases h:40<d
 .have h':40<(d:Int):=(by omega);simp[g548,k1,h,h',hn,hs]
 .have h':¬40<(d:Int):=(by omega);simp[g548,k1,k2,k3,h,h',hn,hs]
def c548{e:Ex}(f:e.Ok)(ht:e.Tn):(az AP).p 548 [e.pv]=some [.bool e.yq]:=by
 have k1:=c51 e.ty f.t ht.t;have k2:=c414 f;have hN:e.ch.length<=2000:=by rw[Ex.cM];have:=f.k;have:=f.a;omega
 have hS:Sm e.ch:=by unfold Sm;omega
 have hA:Ai (.fn 548 []) [] Ex.pv Ex.yq e.ch:=by
  intro x hx;have:=c548i x (f.c x hx) (ht.c x hx) [] (by intro cs h;simp at h);simp at this;simp[this]
 have k3:=Pc yn (m:=500) (k:=516) rfl rfl hS (sh:=[]) (by intro cs h;simp at h) rfl rfl (fun _ _=>rfl) hA;rw[Ex.Hl];rw[aw g548];generalize e.ch.any Ex.yq=b at*;generalize e.ty.dp=d at*;simp at k1 k2 k3;by_cases h:40<d
 .have h':40<(d:Int):=(by omega);simp[g548,k1,h,h']
 .have h':¬40<(d:Int):=(by omega);simp[g548,k1,k2,k3,h,h']
def Dh(s:bj):Bool:=ck ⟨4,s,0,0,[]⟩
def tU(s:bj):Bool:=ck ⟨5,s,0,0,[]⟩
def Ty.wr(t:Ty):Bool:=(decide (t.kind=4)|| decide (t.kind=5)) && (t.args.attach.map fun x=>x.1.wr).all fun b=>b
termination_by SizeOf.sizeOf t
decreasing_by
 have:=_root_.List.sizeOf_lt_of_mem x.2;cases t;simp at*;omega
def Ty.IC(t:Ty):t.wr=((decide (t.kind=4)|| decide (t.kind=5)) && t.args.all Ty.wr):=by
 rw[Ty.wr,zbh,zbA,zcZ];rfl
def Mr(a:Ar):Bool:=!decide (a.pos<0) && (Dh a.cv && (!decide (4<a.vars.length) && a.vars.all tU))
def bV(k:Int):Option (Bool×Nat):=
 if k=1\/k=2 then some (true,0)else if k=3\/k=10 then some (false,0)else if k=4 then some (true,1)else if k=5 then some (false,2)
 else if k=6\/k=7 then some (true,2)else if k=8\/k=9\/k=11 then some (false,1)else none
noncomputable def Ex.Ax(e:Ex)(nm:Bool)(kd:Nat):Bool:=
 !decide (e.pos<0) && (decide (e.kids.length=kd) && ((decide (0<e.aB.length)== decide (e.kind=8)) && (!decide (e.num<0) && (!decide (999999999<e.num) && ((decide (e.num=0)|| decide (e.kind=3)) &&
   ((nm || decide (e.name=[])) && ((!decide (e.kind=2)|| Dh e.name) && ((!nm || (decide (e.kind=2)|| tU e.name)) && ((!decide (e.kind=9)|| (ck e.ty && e.ty.wr)) && (decide (e.kind=9)|| decide (e.ty=bF)))))))))))
noncomputable def Ex.lH(e:Ex):Bool:=(match bV e.kind with|some (nm,kd)=>e.Ax nm kd|none=>false) && (e.aB.all Mr && (e.ch.attach.map fun x=>x.1.lH).all id)
termination_by SizeOf.sizeOf e
decreasing_by exact Ex.kU x.2
def Ex.rZ(e:Ex):e.lH=((match bV e.kind with|some (nm,kd)=>e.Ax nm kd|none=>false) && (e.aB.all Mr && e.ch.all Ex.lH)):=by
 rw[Ex.lH,zbh,zbA,zcZ];rfl
def c495{s:bj}(h:nE s):(az AP).p 495 [.str s]=some [.bool (Dh s)]:=by
 have c:=c29 (t:=⟨4,s,0,0,[]⟩) (.mk (by unfold Sm;simp) (by simp)) (.mk h (by simp));rw[aw g495];simp at c;simp[g495,c,Dh]
def c496{s:bj}(h:nE s):(az AP).p 496 [.str s]=some [.bool (tU s)]:=by
 have c:=c29 (t:=⟨5,s,0,0,[]⟩) (.mk (by unfold Sm;simp) (by simp)) (.mk h (by simp));rw[aw g496];simp at c;simp[g496,c,tU]
def c497(t:Ty):t.Ok->(az AP).p 497 [t.pv]=some [.bool t.wr]:=by
 refine Ty.cD (p:=fun t=>t.Ok->(az AP).p 497 [t.pv]=some [.bool t.wr]) ?_ t;intro t c a
 have hA:Ai (.fn 515 []) [] Ty.pv (fun x=>!x.wr) t.args:=by
  intro x hx;have k:=c x hx (a.d6 x hx)
  have:(az AP).i 515 [.pv x.pv] [] []=some ([.pv (.bool (!x.wr))],[],[]):=by
   rw[aM g515];simp at k;simp[g515,k]
  simp at this;simp[this]
 have k3:=Pc C7 (m:=75) (k:=107) rfl rfl a.sm (sh:=[]) (by intro cs h;simp at h) rfl rfl (fun _ _=>rfl) hA;have e:(!(t.args.any fun x=>!x.wr))=t.args.all Ty.wr:=ui;rw[Ty.IC,<-e];rw[aw g497];generalize t.args.any (fun x=>!x.wr)=b at*
 try simp at k3
 by_cases h4:t.kind=4
 .simp[g497,h4,k3]
 .by_cases h5:t.kind=5
  .simp[g497,h5,k3]
  .simp[g497,h4,h5]
structure Zj(a:Ar):Prop where
 c:nE a.cv
 l:a.vars.length<=1000
 v:∀s∈a.vars,nE s
def Wu{s:List bj}(h:∀x∈s,nE x):Ai (.fn 499 []) [] PV.str (fun x=>!tU x) s:=by
 intro x hx;have k:=c496 (h x hx)
 have:(az AP).i 499 [.pv (.str x)] [] []=some ([.pv (.bool (!tU x))],[],[]):=by
  rw[aM g499];simp[g499,k]
 simp[this]
def Zk{e:Ex}(hN:e.aB.length<=1000)(hn:∀a∈e.aB,Zj a):∀(n i:Nat),e.aB.length-i=n->i<=e.aB.length->∃p:Int,
   cl AP g483L0 ⟨[(1,.au 1 0),(127,.pv (.aq (e.aB.map Ar.pv))),(128,.pv (vI e.aB.length)),(129,.pv (vI i))],[(1,e.cl)],[],[]⟩=
     some (if(e.aB.drop i).all Mr then(.exit 2,⟨[(1,.au 1 0),(127,.pv (.aq (e.aB.map Ar.pv))),(128,.pv (vI e.aB.length)),(129,.pv (vI e.aB.length)),(130,.pv (.bool false))],[(1,e.cl)],[],[]⟩)
       else (.ret,⟨[(2,.pv (.bool false))],[],[],[]⟩))
 |0,i,o,hi=>by
  have:i=e.aB.length:=by omega
  subst this;refine⟨0,?_⟩;rw[zaO,g483L0e];simp[g483B0]
 |n+1,i,o,hi=>by
  have hi:i<e.aB.length:=(by omega);obtain⟨x,hx⟩:=aQ hi;obtain⟨l,n2,j⟩:=hn x (aK hx);obtain⟨_,g⟩:=Zk hN hn n (i+1) (by omega) (by omega);refine⟨0,?_⟩;have k1:=c495 l;have k3:=Pc mB (m:=498) (k:=421) rfl rfl (s:=x.vars) (by unfold Sm;omega) (sh:=[]) (by intro cs h;simp at h) rfl rfl (fun _ _=>rfl) (Wu j);have e1:(!(x.vars.any fun x=>!tU x))=x.vars.all tU:=ui;rw[aR hx,zaQ];have hv:Mr x=(!decide (x.pos<0) && (Dh x.cv && (!decide (4<x.vars.length) && !(x.vars.any fun x=>!tU x)))):=(by rw[e1];rfl);rw[hv];generalize x.vars.any (fun x=>!tU x)=b at*;generalize Dh x.cv=u at*;rw[g483L0e]at g⊢;simp at k3 g;by_cases d:x.pos<0
  .simp(disch:=omega)[-getElem?_pos,g483B0,hx,hi,d]
  .cases u with
   |false=>simp(disch:=omega)[-getElem?_pos,g483B0,hx,hi,d,k1]
   |true=>
    by_cases f:4<x.vars.length
    .have c:4<(x.vars.length:Int):=(by omega);simp(disch:=omega)[-getElem?_pos,g483B0,hx,hi,d,k1,f,c]
    .have c:¬4<(x.vars.length:Int):=(by omega);cases b with
     |true=>simp(disch:=omega)[-getElem?_pos,g483B0,hx,hi,d,k1,f,c,k3]
     |false=>
      simp (disch:=omega) [-getElem?_pos,g483B0,hx,hi,d,k1,f,c,k3,ae];rw[g483L0e];simp[g]
def bA:ah->ah
 | .seq a _=>a
 |c=>c
def bp:ah->ah
 | .seq _ b=>b
 |c=>c
def qL:ah:=bA (bp (bp g483.body))
def eI:ah:=bA (bp (bp (bp g483.body)))
def Wv:ah:=bp (bp (bp (bp g483.body)))
def Sn{e:Ex}:∃X:List (Nat×AV),(X=[]\/∃c8 d,X=[(8,c8),(12,d)])/\cl AP qL ⟨[(1,.au 1 0),(3,.pv (.bool false)),(4,.pv (vI 0))],[(1,e.cl)],[],[]⟩=
   some (match bV e.kind with
    |some (nm,kd)=>(.normal,⟨(1,.au 1 0)::(3,.pv (.bool nm))::(4,.pv (vI kd))::X,[(1,e.cl)],[],[]⟩)
    |none=>(.ret,⟨[(2,.pv (.bool false))],[],[],[]⟩)):=by
 generalize a:e.kind=k;by_cases h3:k=3
 .subst h3;exact⟨[(8,.pv (vI 3)),(12,.pv (.bool true))],Or.inr ⟨_,_,rfl⟩,by simp[qL,bA,bp,g483,a,bV]⟩
 by_cases c:k=10
 .subst c;exact⟨[(8,.pv (vI 10)),(12,.pv (.bool true))],Or.inr ⟨_,_,rfl⟩,by simp[qL,bA,bp,g483,a,bV]⟩
 refine⟨[],Or.inl rfl,?_⟩;by_cases h1:k=1
 .subst h1;simp[qL,bA,bp,g483,a,bV]
 by_cases h2:k=2
 .subst h2;simp[qL,bA,bp,g483,a,bV]
 by_cases h4:k=4
 .subst h4;simp[qL,bA,bp,g483,a,bV]
 by_cases h5:k=5
 .subst h5;simp[qL,bA,bp,g483,a,bV]
 by_cases h6:k=6
 .subst h6;simp[qL,bA,bp,g483,a,bV]
 by_cases h7:k=7
 .subst h7;simp[qL,bA,bp,g483,a,bV]
 by_cases h8:k=8
 .subst h8;simp[qL,bA,bp,g483,a,bV]
 by_cases f:k=9
 .subst f;simp[qL,bA,bp,g483,a,bV]
 by_cases b:k=11
 .subst b;simp[qL,bA,bp,g483,a,bV]
 simp[qL,bA,bp,g483,a,bV,h1,h2,h3,h4,h5,h6,h7,h8,f,c,b]
inductive Ex.pW:Ex->Prop
 |mk {e:Ex}:nE e.name->e.ty.Nm->(∀a∈e.aB,Zj a)->(∀x∈e.ch,x.pW)->e.pW
def Ex.pW.n{e:Ex}(h:e.pW):nE e.name:=by cases h;assumption
def Ex.pW.t{e:Ex}(h:e.pW):e.ty.Nm:=by cases h;assumption
def Ex.pW.a{e:Ex}(h:e.pW):∀a∈e.aB,Zj a:=by cases h;assumption
def Ex.pW.c{e:Ex}(h:e.pW):∀x∈e.ch,x.pW:=by cases h;assumption
def So{e:Ex}(r:e.Ok)(hn:e.pW){nm:Bool}{kd:Nat}(s:kd<=2){X:List (Nat×AV)}(x:X=[]\/∃c8 p,X=[(8,c8),(12,p)]):cl AP eI ⟨(1,.au 1 0)::(3,.pv (.bool nm))::(4,.pv (vI kd))::X,[(1,e.cl)],[],[]⟩=
   some (if e.Ax nm kd=true then(.normal,⟨[(1,.au 1 0),(115,.pv (.bool false))],[(1,e.cl)],[],[]⟩)else(.ret,⟨[(2,.pv (.bool false))],[],[],[]⟩)):=by
 rcases x with rfl|⟨c8,p,rfl⟩
 all_goals
   have k1:=c495 hn.n;have k2:=c496 hn.n;have k3:=c29 r.t hn.t;have k4:=c497 e.ty r.t;have k5:=c33e (a:=e.ty) (b:=bF) r.t;unfold Ex.Ax;generalize Dh e.name=u at*;generalize tU e.name=l at*;generalize ck e.ty=v at*;generalize e.ty.wr=w at*;generalize decide (e.ty=bF)=z at*;simp[bF]at k3 k4 k5;by_cases d:e.pos<0
   .simp[eI,bA,bp,g483,d]
   by_cases f:e.kids.length=kd
   rotate_left
   .have c:¬(e.kids.length:Int)=kd:=(by omega);simp[eI,bA,bp,g483,d,f,c]
   have c:(e.kids.length:Int)=kd:=(by omega);by_cases a:0<e.aB.length
   .by_cases b:e.kind=8
    rotate_left
    .simp[eI,bA,bp,g483,d,f,c,a,b]
    by_cases h:e.num<0
    .simp[eI,bA,bp,g483,d,f,c,a,b,h]
    by_cases i:999999999<e.num
    .simp[eI,bA,bp,g483,d,f,c,a,b,h,i]
    by_cases g:e.num=0
    .have q:=g;cases nm with
     |false=>
      by_cases m:e.name=[]
      rotate_left
      .simp[eI,bA,bp,g483,d,f,c,a,b,h,i,g,m]
      cases z with
      |false=>simp[eI,bA,bp,g483,d,f,c,a,b,h,i,g,m,k1,k2,k3,k4,k5]
      |true=>
       simp[eI,bA,bp,g483,d,f,c,a,b,h,i,g,m,k1,k2,k3,k4,k5]
     |true=>
      cases l with
      |false=>simp[eI,bA,bp,g483,d,f,c,a,b,h,i,g,k1,k2,k3,k4,k5]
      |true=>
       cases z with
       |false=>simp[eI,bA,bp,g483,d,f,c,a,b,h,i,g,k1,k2,k3,k4,k5]
       |true=>
        simp[eI,bA,bp,g483,d,f,c,a,b,h,i,g,k1,k2,k3,k4,k5]
    .have q:=g;simp[eI,bA,bp,g483,d,f,c,a,b,h,i,g]
   .by_cases b:e.kind=8
    .simp[eI,bA,bp,g483,d,f,c,a,b]
    by_cases h:e.num<0
    .simp[eI,bA,bp,g483,d,f,c,a,b,h]
    by_cases i:999999999<e.num
    .simp[eI,bA,bp,g483,d,f,c,a,b,h,i]
    by_cases g:e.num=0
    .have q:=g;cases nm with
     |false=>
      by_cases m:e.name=[]
      rotate_left
      .simp[eI,bA,bp,g483,d,f,c,a,b,h,i,g,m]
      by_cases k:e.kind=2
      .have r2:=k;rw[m]at k1 k2;cases u with
       |false=>simp[eI,bA,bp,g483,d,f,c,a,b,h,i,g,m,k,k1,k2,k3,k4,k5]
       |true=>
        cases z with
        |false=>simp[eI,bA,bp,g483,d,f,c,a,b,h,i,g,m,k,k1,k2,k3,k4,k5]
        |true=>
         simp[eI,bA,bp,g483,d,f,c,a,b,h,i,g,m,k,k1,k2,k3,k4,k5]
      .have r2:=k;by_cases j:e.kind=9
       .have r9:=j;cases v with
        |false=>simp[eI,bA,bp,g483,d,f,c,a,b,h,i,g,m,k,j,k1,k2,k3,k4,k5]
        |true=>
         cases w with
         |false=>simp[eI,bA,bp,g483,d,f,c,a,b,h,i,g,m,k,j,k1,k2,k3,k4,k5]
         |true=>
          simp[eI,bA,bp,g483,d,f,c,a,b,h,i,g,m,k,j,k1,k2,k3,k4,k5]
       .have r9:=j;cases z with
        |false=>simp[eI,bA,bp,g483,d,f,c,a,b,h,i,g,m,k,j,k1,k2,k3,k4,k5]
        |true=>
         simp[eI,bA,bp,g483,d,f,c,a,b,h,i,g,m,k,j,k1,k2,k3,k4,k5]
     |true=>
      by_cases k:e.kind=2
      .have r2:=k;cases u with
       |false=>simp[eI,bA,bp,g483,d,f,c,a,b,h,i,g,k,k1,k2,k3,k4,k5]
       |true=>
        cases z with
        |false=>simp[eI,bA,bp,g483,d,f,c,a,b,h,i,g,k,k1,k2,k3,k4,k5]
        |true=>
         simp[eI,bA,bp,g483,d,f,c,a,b,h,i,g,k,k1,k2,k3,k4,k5]
      .have r2:=k;cases l with
       |false=>simp[eI,bA,bp,g483,d,f,c,a,b,h,i,g,k,k1,k2,k3,k4,k5]
       |true=>
        by_cases j:e.kind=9
        .have r9:=j;cases v with
         |false=>simp[eI,bA,bp,g483,d,f,c,a,b,h,i,g,k,j,k1,k2,k3,k4,k5]
         |true=>
          cases w with
          |false=>simp[eI,bA,bp,g483,d,f,c,a,b,h,i,g,k,j,k1,k2,k3,k4,k5]
          |true=>
           simp[eI,bA,bp,g483,d,f,c,a,b,h,i,g,k,j,k1,k2,k3,k4,k5]
        .have r9:=j;cases z with
         |false=>simp[eI,bA,bp,g483,d,f,c,a,b,h,i,g,k,j,k1,k2,k3,k4,k5]
         |true=>
          simp[eI,bA,bp,g483,d,f,c,a,b,h,i,g,k,j,k1,k2,k3,k4,k5]
    .have q:=g;by_cases o:e.kind=3
     rotate_left
     .simp[eI,bA,bp,g483,d,f,c,a,b,h,i,g,o]
     cases nm with
     |false=>
      by_cases m:e.name=[]
      rotate_left
      .simp[eI,bA,bp,g483,d,f,c,a,b,h,i,g,o,m]
      cases z with
      |false=>simp[eI,bA,bp,g483,d,f,c,a,b,h,i,g,o,m,k1,k2,k3,k4,k5]
      |true=>
       simp[eI,bA,bp,g483,d,f,c,a,b,h,i,g,o,m,k1,k2,k3,k4,k5]
     |true=>
      cases l with
      |false=>simp[eI,bA,bp,g483,d,f,c,a,b,h,i,g,o,k1,k2,k3,k4,k5]
      |true=>
       cases z with
       |false=>simp[eI,bA,bp,g483,d,f,c,a,b,h,i,g,o,k1,k2,k3,k4,k5]
       |true=>
        simp[eI,bA,bp,g483,d,f,c,a,b,h,i,g,o,k1,k2,k3,k4,k5]
def Di{k:Int}{nm:Bool}{kd:Nat}(h:bV k=some (nm,kd)):kd<=2:=by
 unfold bV at h
 repeat' split at h
 all_goals first|(simp at h;omega)|simp at h
def c483(e:Ex):e.Ok->e.pW->(az AP).p 483 [e.pv]=some [.bool e.lH]:=by
 refine Ex.recC (p:=fun e=>e.Ok->e.pW->(az AP).p 483 [e.pv]=some [.bool e.lH]) ?_ e;intro e q j hn;obtain⟨X,s,d⟩:=Sn (e:=e);have o:e.aB.length<=1000:=j.a;obtain⟨_,g⟩:=Zk (e:=e) o hn.a _ 0 rfl (by omega);have k2:=c414 j;have hN:e.ch.length<=2000:=by rw[Ex.cM];have:=j.k;have:=j.a;omega
 have hS:Sm e.ch:=by unfold Sm;omega
 have hA:Ai (.fn 501 []) [] Ex.pv (fun x=>!x.lH) e.ch:=by
  intro x hx;have k:=q x hx (j.c x hx) (hn.c x hx)
  have:(az AP).i 501 [.pv x.pv] [] []=some ([.pv (.bool (!x.lH))],[],[]):=by
   rw[aM g501];simp at k;simp[g501,k]
  simp at this;simp[this]
 have k3:=Pc yn (m:=500) (k:=516) rfl rfl hS (sh:=[]) (by intro cs h;simp at h) rfl rfl (fun _ _=>rfl) hA;have e1:(!(e.ch.any fun x=>!x.lH))=e.ch.all Ex.lH:=ui;rw[Ex.rZ,<-e1];have r:g483.body=.seq (bA g483.body) (.seq (bA (bp g483.body)) (.seq qL (.seq eI Wv))):=rfl;rw[aw g483,r];generalize (e.ch.any fun x=>!x.lH)=b at*;rw[zaj,g483L0e]at g;cases n:bV e.kind with
 |none=>
  rw[n]at d;simp at d;simp[bA,bp,g483,d]
 |some p=>
  obtain⟨nm,kd⟩:=p;rw[n]at d;have f:=So j hn (nm:=nm) (Di n) s;simp only at d;by_cases hv:e.Ax nm kd=true
  .rw[zan hv]at f;by_cases l:e.aB.all Mr=true
   .rw[zan l]at g;simp only[hv,l,zcv];simp at d f g k2 k3;simp[bA,bp,g483,Wv,d,f,g483L0e,g,k2,k3]
   .rw[zai l]at g;simp only[hv,l,zcv];simp at d f g;simp[bA,bp,g483,Wv,d,f,g483L0e,g]
  .rw[zai hv]at f;simp only[hv];simp at d f;simp[bA,bp,g483,d,f]
def Dj{S:List Ty}(hf:S.length<1099511627776){l:List Ty}(a:∀t∈l,Good S t):Sm (vars l):=by
 have c0:lO (S.map Ty.id) []:=wi (by simpa using hf);refine(c0.fold (l:=l.flatMap Ty.nodes) ?_).len;intro x hx b;simp only[zaC]at hx;obtain⟨t,ht,hx⟩:=hx;exact zcf ((a t ht).sub x (yp (a t ht).wf x hx b))
mutual
def Ty.ee(k:Int):Ty->Bool
 |⟨q,_,_,_,as⟩=>decide (q=k)|| Ty.Dk k as
def Ty.Dk(k:Int):List Ty->Bool
 |[]=>false
 |a::r=>a.ee k || Ty.Dk k r
end
def Ty.yr(k:Int):∀l:List Ty,Ty.Dk k l=l.any (Ty.ee k)
 |[]=>by simp[Ty.Dk]
 |a::r=>by simp[Ty.Dk,Ty.yr k r]
def Ty.mG(k:Int)(t:Ty):t.ee k=(decide (t.kind=k)|| t.args.any (Ty.ee k)):=by
 cases t;simp only[Ty.ee,Ty.yr]
def Zl{t:Ty}{k:Int}(hS:Sm t.args)(h:∀x∈t.args,(az AP).p 351 [x.pv,vI k]=some [.bool (x.ee k)]):∀(n i:Nat),t.args.length-i=n->i<=t.args.length->
   cl AP g351L0 ⟨[(1,.pv (vI k)),(2,.au 2 0),(5,.pv (vI i))],[(2,[.pv (vI t.kind),.pv (.str t.name),.pv (vI t.id),.pv (vI t.home),.pv (.aq (t.args.map Ty.pv))])],[],[]⟩=
     if (t.args.drop i).any (Ty.ee k)=true then some (.ret,⟨[(4,.pv (.bool true))],[],[],[]⟩)
     else some (.exit 0,⟨[(1,.pv (vI k)),(2,.au 2 0),(5,.pv (vI t.args.length)),(14,.pv (.bool false))],[(2,[.pv (vI t.kind),.pv (.str t.name),.pv (vI t.id),.pv (vI t.home),.pv (.aq (t.args.map Ty.pv))])],[],[]⟩)
 |0,i,hn,hi=>by
  have:i=t.args.length:=by omega
  subst this;rw[g351L0e];simp[g351B0]
 |n+1,i,hn,hi=>by
  have hi:i<t.args.length:=(by omega);obtain⟨x,hx⟩:=aQ hi;unfold Sm at hS;have c:=h x (aK hx);have a:=Zl hS h n (i+1) (by omega) (by omega);rw[g351L0e]at a⊢;rw[aR hx,zbC];cases e:x.ee k with
  |true=>
   rw[e]at c;simp at c;simp(disch:=omega)[-getElem?_pos,g351B0,hx,hi,c]
  |false=>
   rw[e]at c;simp at c;rw[Bool.false_or,<-a];simp(disch:=omega)[-getElem?_pos,g351B0,hx,hi,c,ae];rw[g351L0e];simp[g351B0]
def c351{t:Ty}{k:Int}(a:t.Ok):(az AP).p 351 [t.pv,vI k]=some [.bool (t.ee k)]:=by
 revert a
 refine Ty.cD (p:=fun t=>t.Ok->(az AP).p 351 [t.pv,vI k]=some [.bool (t.ee k)]) ?_ t;intro t c a;have h:=Zl (k:=k) a.sm (fun x hx=>c x hx (a.d6 x hx)) _ 0 rfl (by omega);rw[aw g351,Ty.mG];rw[g351L0e]at h;by_cases e:t.kind=k
 .simp[g351,e]
 .cases b:t.args.any (Ty.ee k)with
  |true=>simp only[zaj,b]at h;simp at h;simp[g351,e,g351L0e,h]
  |false=>simp only[zaj,b]at h;simp at h;simp[g351,e,g351L0e,h]
def PC(s:bj):Dh s=dY s 65 90:=by
 unfold Dh;rw[gh];simp only[jD];by_cases h1:s=[45,62]
 .subst h1;decide
 .by_cases h2:s=[73,110,116]
  .subst h2;decide
  .simp[h1,h2,jD]
def PD(s:bj):tU s=dY s 97 122:=by
 unfold tU;rw[gh];simp
def Ww(t:Ty):ck t=true->t.wr=(!t.ee 1 && (!t.ee 2 && !t.ee 3)):=by
 refine Ty.cD (p:=fun t=>ck t=true->t.wr=(!t.ee 1 && (!t.ee 2 && !t.ee 3))) ?_ t;intro t c h;rw[Ty.IC,Ty.mG,Ty.mG,Ty.mG];rw[gh]at h;by_cases h1:t.kind=1\/t.kind=2
 .rcases h1 with h1|h1<;>simp[h1]
 rw[zai h1]at h;by_cases h3:t.kind=3
 .simp[h3]
 rw[zai h3]at h;have g:¬t.kind=1:=fun e=>h1 (.inl e)
 have f:¬t.kind=2:=fun e=>h1 (.inr e);by_cases h5:t.kind=5
 .rw[zan h5]at h;have d:t.args=[]:=by simp at h;exact h.1.1.1
  simp[h5,d]
 rw[zai h5]at h;by_cases h4:t.kind=4
 rotate_left
 .simp[h4]at h
 rw[zan h4]at h;simp only[zah]at h;have hv:∀x∈t.args,ck x=true:=by simpa[pJ]using h.2
 have key:∀l:List Ty,(∀x∈l,x.wr=(!x.ee 1 && (!x.ee 2 && !x.ee 3)))->l.all Ty.wr=(!l.any (Ty.ee 1) && (!l.any (Ty.ee 2) && !l.any (Ty.ee 3))):=by
  intro l;induction l with
  |nil=>intro _;rfl
  |cons a r b=>
   intro hl;rw[zaQ,zbC,zbC,zbC,b fun x hx=>hl x (by simp[hx]),hl a (by simp)];cases a.ee 1<;>cases a.ee 2<;>cases a.ee 3<;>cases r.any (Ty.ee 1)<;>cases r.any (Ty.ee 2)<;>cases r.any (Ty.ee 3)<;>rfl
 rw[key t.args fun x hx=>c x hx (hv x hx)];simp[h4]
def c557{t:Ty}(a:t.Ok)(hN:t.Nm):(az AP).p 557 [t.pv]=some [.bool (ck t && t.wr)]:=by
 have k1:=c30 a hN;have k2:=c351 (k:=1) a;have k3:=c351 (k:=2) a;have k4:=c351 (k:=3) a;rw[aw g557];simp at k1 k2 k3 k4;cases hv:ck t with
 |false=>rw[hv]at k1;simp[g557,k1]
 |true=>
  rw[hv]at k1;rw[Ww t hv];cases h1:t.ee 1<;>rw[h1]at k2
  rotate_left
  .simp[g557,k1,k2]
  cases h2:t.ee 2<;>rw[h2]at k3
  rotate_left
  .simp[g557,k1,k2,k3]
  cases h3:t.ee 3<;>rw[h3]at k4<;>simp[g557,k1,k2,k3,k4]
def Dl(k:Int):bj:=if k=2 then[117,112,112,101,114]else if k=1\/k=4\/k=6\/k=7 then[108,111,119,101,114]else[]
def Uf(e:Ex):Bool:=if e.kind=8 then decide (e.aB.length=0)else decide (0<e.aB.length)
def qM:ah:=bA (bp (bp g549.body))
def xm:ah:=bA (bp (bp (bp g549.body)))
def Ms:ah:=bA (bp (bp (bp (bp g549.body))))
def Sq:ah:=bA (bp (bp (bp (bp (bp g549.body)))))
def Wx:ah:=bp (bp (bp (bp (bp (bp g549.body)))))
def Sr{e:Ex}:∃X:List (Nat×AV),(X=[]\/∃c8 d,X=[(16,c8),(21,d)])/\cl AP qM ⟨[(1,.au 1 0),(3,.pv (vI 0)),(4,.pv (.str [])),(5,.pv (.bool (decide (0<e.aB.length))))],[(1,e.cl)],[],[]⟩=
   some (match bV e.kind with
    |some (_,kd)=>(.normal,⟨(1,.au 1 0)::(3,.pv (vI kd))::(4,.pv (.str (Dl e.kind)))::(5,.pv (.bool (Uf e)))::X,[(1,e.cl)],[],[]⟩)
    |none=>(.ret,⟨[(2,.pv (.bool false))],[],[],[]⟩)):=by
 generalize a:e.kind=k;unfold Uf;rw[a];generalize h:decide (0<e.aB.length)=A;have g:((e.aB.length:Int)== 0)=decide (e.aB=[]):=by rw[za0];simp
 by_cases h3:k=3
 .subst h3;exact⟨[(16,.pv (vI 3)),(21,.pv (.bool true))],Or.inr ⟨_,_,rfl⟩,by simp[qM,bA,bp,g549,a,bV,Dl]⟩
 by_cases c:k=10
 .subst c;exact⟨[(16,.pv (vI 10)),(21,.pv (.bool true))],Or.inr ⟨_,_,rfl⟩,by simp[qM,bA,bp,g549,a,bV,Dl]⟩
 refine⟨[],Or.inl rfl,?_⟩;by_cases h1:k=1
 .subst h1;simp[qM,bA,bp,g549,a,bV,Dl]
 by_cases h2:k=2
 .subst h2;simp[qM,bA,bp,g549,a,bV,Dl]
 by_cases h4:k=4
 .subst h4;simp[qM,bA,bp,g549,a,bV,Dl]
 by_cases h5:k=5
 .subst h5;simp[qM,bA,bp,g549,a,bV,Dl]
 by_cases h6:k=6
 .subst h6;simp[qM,bA,bp,g549,a,bV,Dl]
 by_cases h7:k=7
 .subst h7;simp[qM,bA,bp,g549,a,bV,Dl]
 by_cases h8:k=8
 .subst h8;simp[qM,bA,bp,g549,a,bV,Dl,g]
 by_cases f:k=9
 .subst f;simp[qM,bA,bp,g549,a,bV,Dl]
 by_cases b:k=11
 .subst b;simp[qM,bA,bp,g549,a,bV,Dl]
 simp[qM,bA,bp,g549,a,bV,Dl,h1,h2,h3,h4,h5,h6,h7,h8,f,c,b]
def Ex.nv(e:Ex)(kd:Nat):Bool:=!decide (e.pos<0) && (decide (e.kids.length=kd) && (!Uf e && (!decide (e.num<0) && (!decide (999999999<e.num) && (decide (e.num=0)|| decide (e.kind=3))))))
def Ex.xE(e:Ex):Bool:=if e.kind=2 then Dh e.name else if e.kind=1\/e.kind=4\/e.kind=6\/e.kind=7 then tU e.name else decide (e.name=[])
noncomputable def Ex.C3(e:Ex):Bool:=if e.kind=9 then ck e.ty && e.ty.wr else decide (e.ty=bF)
def Ss{e:Ex}{kd:Nat}(k:kd<=2){A:Bool}{W:bj}{X:List (Nat×AV)}(l:X=[]\/∃c8 g,X=[(16,c8),(21,g)])(hA:Uf e=A):cl AP xm ⟨(1,.au 1 0)::(3,.pv (vI kd))::(4,.pv (.str W))::(5,.pv (.bool A))::X,[(1,e.cl)],[],[]⟩=
   some (if e.nv kd=true then(.normal,⟨[(1,.au 1 0),(4,.pv (.str W)),(72,.pv (.bool false))],[(1,e.cl)],[],[]⟩)else(.ret,⟨[(2,.pv (.bool false))],[],[],[]⟩)):=by
 unfold Ex.nv;rw[hA];rcases l with rfl|⟨c8,g,rfl⟩
 all_goals
   by_cases b:e.pos<0
   .simp[xm,bA,bp,g549,b]
   by_cases c:e.kids.length=kd
   rotate_left
   .have a:¬(e.kids.length:Int)=kd:=(by omega);simp[xm,bA,bp,g549,b,c,a]
   have a:(e.kids.length:Int)=kd:=(by omega);cases A with
   |true=>simp[xm,bA,bp,g549,b,c,a]
   |false=>
   by_cases f:e.num<0
   .simp[xm,bA,bp,g549,b,c,a,f]
   by_cases h:999999999<e.num
   .simp[xm,bA,bp,g549,b,c,a,f,h]
   by_cases i:e.num=0
   .simp[xm,bA,bp,g549,b,c,a,f,h,i]
   .have d:0<e.num:=(by omega);by_cases j:e.kind=3
    .simp[xm,bA,bp,g549,b,c,a,f,h,i,d,j]
    .simp[xm,bA,bp,g549,b,c,a,f,h,i,d,j]
def Su{e:Ex}(hn:e.pW):cl AP Ms ⟨[(1,.au 1 0),(4,.pv (.str (Dl e.kind))),(72,.pv (.bool false))],[(1,e.cl)],[],[]⟩=
   some (if e.xE=true then(.normal,⟨[(1,.au 1 0),(99,.pv (.bool false))],[(1,e.cl)],[],[]⟩)else(.ret,⟨[(2,.pv (.bool false))],[],[],[]⟩)):=by
 have k1:=c77 hn.n;have k2:=c78 hn.n;unfold Ex.xE Dl;rw[PC,PD];generalize dY e.name 65 90=u at*;generalize dY e.name 97 122=l at*;by_cases h2:e.kind=2
 .cases u<;>simp[Ms,bA,bp,g549,h2,k2]
 by_cases h1:e.kind=1\/e.kind=4\/e.kind=6\/e.kind=7
 .cases l<;>simp[Ms,bA,bp,g549,h2,h1,k1]
 .by_cases hz:e.name=[]
  .simp[Ms,bA,bp,g549,h2,h1,hz]
  .simp[Ms,bA,bp,g549,h2,h1,hz]
def Sv{e:Ex}(c:e.Ok)(hn:e.pW):cl AP Sq ⟨[(1,.au 1 0),(99,.pv (.bool false))],[(1,e.cl)],[],[]⟩=
   some (if e.C3=true then(.normal,⟨[(1,.au 1 0),(120,.pv (.bool false))],[(1,e.cl)],[],[]⟩)else(.ret,⟨[(2,.pv (.bool false))],[],[],[]⟩)):=by
 have k1:=c557 c.t hn.t;have k2:=c20 (a:=e.ty) (b:=bF) c.t;unfold Ex.C3;generalize (ck e.ty && e.ty.wr)=v at*;generalize decide (e.ty=bF)=z at*;simp[bF]at k1 k2;by_cases h:e.kind=9
 .cases v<;>simp[Sq,bA,bp,g549,h,k1]
 .cases z<;>simp[Sq,bA,bp,g549,h,k2]
def Hm{e:Ex}{nm:Bool}{kd:Nat}(h:bV e.kind=some (nm,kd)):e.Ax nm kd=(e.nv kd && (e.xE && e.C3)):=by
 unfold Ex.Ax Ex.nv Ex.xE Ex.C3 Uf;unfold bV at h;generalize decide (e.pos<0)=g;generalize decide (e.kids.length=kd)=f;generalize decide (e.num<0)=d;generalize decide (999999999<e.num)=c;generalize decide (e.num=0)=a5;generalize Dh e.name=m;generalize tU e.name=j;generalize decide (e.name=[])=i;generalize (ck e.ty && e.ty.wr)=l;generalize decide (e.ty=bF)=b
 have hd:decide (e.aB.length=0)=!decide (0<e.aB.length):=by
  by_cases q:e.aB.length=0<;>simp[q];omega
 rw[hd];generalize decide (0<e.aB.length)=a;generalize e.kind=k at*;split at h
 .rename_i q;cases h;rcases q with rfl|rfl<;>simp<;>cases g<;>cases f<;>cases d<;>cases c<;>cases a5<;>cases m<;>cases j<;>cases b<;>cases a<;>rfl
 split at h
 .rename_i q;cases h;rcases q with rfl|rfl<;>simp<;>cases g<;>cases f<;>cases d<;>cases c<;>cases a5<;>cases i<;>cases b<;>cases a<;>rfl
 split at h
 .rename_i q;cases h;subst q;simp;cases g<;>cases f<;>cases d<;>cases c<;>cases a5<;>cases j<;>cases b<;>cases a<;>rfl
 split at h
 .rename_i q;cases h;subst q;simp;cases g<;>cases f<;>cases d<;>cases c<;>cases a5<;>cases i<;>cases b<;>cases a<;>rfl
 split at h
 .rename_i q;cases h;rcases q with rfl|rfl<;>simp<;>cases g<;>cases f<;>cases d<;>cases c<;>cases a5<;>cases j<;>cases b<;>cases a<;>rfl
 split at h
 .rename_i q;cases h;rcases q with rfl|rfl|rfl<;>simp<;>cases g<;>cases f<;>cases d<;>cases c<;>cases a5<;>cases i<;>cases l<;>cases b<;>cases a<;>rfl
 .cases h
def Ex.rh(e:Ex):Bool:=(decide (e.kind=9) && decide (40<e.ty.dp))|| (e.ch.attach.map fun x=>x.1.rh).any id
termination_by SizeOf.sizeOf e
decreasing_by exact Ex.kU x.2
def Ex.wv(e:Ex):e.rh=((decide (e.kind=9) && decide (40<e.ty.dp))|| e.ch.any Ex.rh):=by
 rw[Ex.rh,zbh,zbA,List.any_map];rfl
def Wy:bF.dp=0:=by rw[Ty.nJ];simp[bF,qK]
def Sw(e:Ex):e.lH=true->e.rh=e.yq:=by
 refine Ex.recC (p:=fun e=>e.lH=true->e.rh=e.yq) ?_ e;intro e f h;rw[Ex.rZ]at h;simp only[zah]at h;obtain⟨h1,_,h3⟩:=h;rw[zaq]at h3;rw[Ex.wv,Ex.Hl]
 have hc:e.ch.any Ex.rh=e.ch.any Ex.yq:=by
  have:∀l:List Ex,(∀x∈l,x.rh=x.yq)->l.any Ex.rh=l.any Ex.yq:=by
   intro l;induction l with
   |nil=>intro _;rfl
   |cons a r b=>intro hl;rw[zbC,zbC,hl a (by simp),b fun x hx=>hl x (by simp[hx])]
  exact this _ fun x hx=>f x hx (h3 x hx)
 rw[hc];by_cases d:e.kind=9
 .simp[d]
 .have hz:e.ty=bF:=by
   cases c:bV e.kind with
   |none=>rw[c]at h1;simp at h1
   |some p=>
    obtain⟨nm,kd⟩:=p;rw[c]at h1;simp only at h1;rw[Hm c]at h1;simp only[zah]at h1;have h4:=h1.2.2;unfold Ex.C3 at h4;simpa[d]using h4
  simp[d,hz,Wy]
def c144(e:Ex):e.Ok->e.Tn->(az AP).p 144 [e.pv]=some [.bool e.rh]:=by
 refine Ex.recC (p:=fun e=>e.Ok->e.Tn->(az AP).p 144 [e.pv]=some [.bool e.rh]) ?_ e;intro e j g ht;have k1:=c52 e.ty g.t ht.t;have c:=c145 g;have hl:e.ch.length<=2000:=by have h1:=g.k;have h2:=g.a;rw[Ex.cM];omega
 have key:∀(n i:Nat),e.ch.length-i=n->i<=e.ch.length->cl AP g144L0 ⟨[(3,.pv (.aq (e.ch.map Ex.pv))),(4,.pv (vI i))],[],[],[]⟩=
     some (if(e.ch.drop i).any Ex.rh then(.ret,⟨[(2,.pv (.bool true))],[],[],[]⟩)else(.exit 0,⟨[(3,.pv (.aq (e.ch.map Ex.pv))),(4,.pv (vI e.ch.length)),(19,.pv (.bool false))],[],[],[]⟩)):=by
   intro n;induction n with
   |zero=>
    intro i hn hi;have:i=e.ch.length:=by omega
    subst this;rw[zaO,g144L0e];simp[g144B0]
   |succ n d=>
    intro i hn hi;have hi:i<e.ch.length:=by omega
    obtain⟨x,hx⟩:=aQ hi;have k:=j x (aK hx) (g.c x (aK hx)) (ht.c x (aK hx));have d:=d (i+1) (by omega) (by omega);rw[aR hx,zbC];generalize e.ch=C at*;rw[g144L0e]at d⊢;simp at k d;cases hv:x.rh with
    |true=>
     rw[hv]at k;simp(disch:=omega)[-getElem?_pos,g144B0,hx,hi,k]
    |false=>
     rw[hv]at k;simp(disch:=omega)[-getElem?_pos,g144B0,hx,hi,k,ae];rw[g144L0e];simp[d]
 have h0:=key _ 0 rfl (by omega);rw[zaj]at h0;rw[Ex.wv];rw[aw g144];generalize e.ch.any Ex.rh=b at*;rw[g144L0e]at h0;simp at k1 c h0;by_cases h:e.kind=9
 .by_cases hd:40<e.ty.dp
  .have f:(40:Int)<e.ty.dp:=(by omega);simp[g144,h,k1,hd,f]
  .have f:¬(40:Int)<e.ty.dp:=(by omega);simp[h]at c;cases b<;>simp at h0<;>simp[g144,h,k1,hd,f,c,g144L0e,h0]
 .cases b<;>simp at h0<;>simp[g144,h,c,g144L0e,h0]
def c550{e:Ex}(a:e.Ok)(ht:e.Tn)(hs:e.sz<=100000000):(az AP).p 550 [e.pv]=some [.bool (decide (40<e.dp)|| e.rh)]:=by
 have k1:=c143 e a hs;have k2:=c144 e a ht
 have k3:(az AP).p 135 [e.pv]=some [.bool (decide (40<e.dp)|| e.rh)]:=by
  rw[aw g135];simp at k1 k2;by_cases h:(40:Int)<e.dp
  .have:40<e.dp:=by omega
   simp[g135,k1,k2,h,this]
  .have:¬40<e.dp:=by omega
   simp[g135,k1,k2,h,this]
 rw[aw g550];simp at k3;simp[g550,k3]
def Sx{sz:Nat}{l:List PV}{k:IntKind}{h:Int}(h0:0<=h)(h1:h<=l.length):cx false sz false true false [.pv (.aq l),.pv (.int k h)]=some (.pv (.aq (l.take h.toNat))):=by
 simp[cx,cG,dw,h0,h1]
def Zm{sz τ:Nat}{l:List PV}{k:IntKind}{h:Int}(h0:0<=h)(h1:h<=l.length):cx false sz false true false [.own l τ,.pv (.int k h)]=some (.pv (.aq (l.take h.toNat))):=by
 simp[cx,cG,dw,h0,h1]
def cN:List Ar->List Ex->List Ar
 |a::as,x::xs=>⟨a.pos,a.cv,a.vars,x⟩::cN as xs
 |as,_=>as
theorem gO:∀{as:List Ar}{xs:List Ex},(cN as xs).length=as.length
 |[],xs=>by cases xs<;>rfl
 |a::as,[]=>rfl
 |a::as,x::xs=>by simp[cN,gO (as:=as) (xs:=xs)]
def Ex.lS(e:Ex)(c:List Ex):Ex:=if c.length=e.kids.length+e.aB.length then⟨e.kind,e.pos,e.name,e.num,c.take e.kids.length,cN e.aB (c.drop e.kids.length),e.ty⟩else e
def wx{l:List Ar}:((eX (aI Ar.cells l)).bind (d9 14 true l.length)).map PV.aq=some (.aq (l.map Ar.pv)):=oD dZ
def Ay{l:List Ar}:((l.map Ar.pv).flatMap aZ).map AV.pv=aI Ar.cells l:=oE dZ
def Az{c:List Ex}{n:Nat}(h:n<=c.length):cx false 11 false true false [.pv (.aq (c.map Ex.pv)),.pv (.int .i64 (n:Int))]=some (.pv (.aq ((c.map Ex.pv).take n))):=by
 have:=Sx (sz:=11) (l:=c.map Ex.pv) (k:=.i64) (h:=n) (by omega) (by simp;omega);simpa using this
def ID{sz:Nat}{l:List PV}:cx false sz false true false [.pv (.aq l),.pv (.int .i64 0)]=some (.pv (.aq [])):=by
 simp[cx,cG,dw]
def Sy(e:Ex)(K:List Ex)(A:AV):List AV:=[.pv (vI e.kind),.pv (vI e.pos),.pv (.str e.name),.pv (vI e.num),.own (K.map Ex.pv) 3,A,.pv (vI e.ty.kind),.pv (.str e.ty.name),.pv (vI e.ty.id),.pv (vI e.ty.home),.pv (.aq (e.ty.args.map Ty.pv))]
def PE{e:Ex}{c K:List Ex}{n0 N B:Nat}(hN:N<=1000)(hc:c.length=n0+N)(q:n0<=1000){SA:List Ar->Sh}(h1:∀c,(SA c)[B]?=some (some (aI Ar.cells c)))(h2:∀c c',(SA c).set B (some (aI Ar.cells c'))=SA c')(h3:∀c,aG (SA c)):∀(n i:Nat),N-i=n->i<=N->∀as:List Ar,as.length=N->
   cl AP g374L0 ⟨[(1,.pv (.aq (c.map Ex.pv))),(4,.au 4 0),(5,.pv (vI n0)),(6,.au 6 0),(7,.pv (vI i))],[(4,zO),(6,Sy e K (.aP B 14 N true))],SA as,[0,0,0,K.length]⟩=
     some (.exit 0,⟨[(1,.pv (.aq (c.map Ex.pv))),(4,.au 4 0),(5,.pv (vI n0)),(6,.au 6 0),(7,.pv (vI N)),(34,.pv (.bool false))],[(4,zO),(6,Sy e K (.aP B 14 N true))],SA (as.take i++cN (as.drop i) (c.drop (n0+i))),[0,0,0,K.length]⟩)
 |0,i,hn,hi,as,u=>by
  have:i=N:=by omega
  subst this;have p:=(h3 as).norm;rw[jb (l:=as) (by omega),zaf (by omega)];simp only[cN,zax];generalize SA as=S at*;rw[g374L0e];simp[g374B0,Sy,zO,p]
 |n+1,i,hn,hi,as,u=>by
  have hi:i<N:=(by omega);obtain⟨a,hx⟩:=aQ (l:=as) (i:=i) (by omega);obtain⟨x,hy⟩:=aQ (l:=c) (i:=n0+i) (by omega);have t:n0+i<c.length:=(by omega);have j:=PE (e:=e) (K:=K) hN hc q h1 h2 h3 n (i+1) (by omega) (by omega) (as.set i ⟨a.pos,a.cv,a.vars,x⟩) (by simpa using u)
  have b:=gU dZ hx (y:=⟨a.pos,a.cv,a.vars,x⟩) (o:=3) (vs:=x.cells) (by rw[bo.len];omega) (by
   have h1:=bo.len a.body;have h2:=bo.len x;simp only[Ar.cells,zbl,za3,zbb,zaE,zbf,zaj,h2];rw[zaM (by simp[h1]),zax])
  rw[Ex.hU]at b
  have h:as.take i++cN (as.drop i) (c.drop (n0+i))=(as.set i ⟨a.pos,a.cv,a.vars,x⟩).take (i+1)++cN ((as.set i ⟨a.pos,a.cv,a.vars,x⟩).drop (i+1)) (c.drop (n0+(i+1))):=by
   have h1:(as.set i ⟨a.pos,a.cv,a.vars,x⟩).take (i+1)=as.take i++[⟨a.pos,a.cv,a.vars,x⟩]:=by
    rw[zaw,zan (by omega),zaV,zaf (by simp;omega)];have:i+1-(as.take i).length=1:=by simp;omega
    rw[this];rfl
   rw[h1,za7 (by omega),aR hx,aR hy];simp[cN,zbN]
  rw[h];generalize (as.set i ⟨a.pos,a.cv,a.vars,x⟩).take (i+1)++cN ((as.set i ⟨a.pos,a.cv,a.vars,x⟩).drop (i+1)) (c.drop (n0+(i+1)))=R at j⊢;have m:=h1 as;have k:=h2 as (as.set i ⟨a.pos,a.cv,a.vars,x⟩);have p:=(h3 as).norm;have d:=(h3 (as.set i ⟨a.pos,a.cv,a.vars,x⟩)).norm;have v:bW (aI Ar.cells as)=false:=bw aN;have g:(aI Ar.cells as).length=N*14:=by rw[a_ dZ,u]
  have r:i*14+3+11<=N*14:=(by omega);generalize SA (as.set i ⟨a.pos,a.cv,a.vars,x⟩)=A at*;generalize SA as=S at*;generalize SA R=z at*;generalize aI Ar.cells (as.set i ⟨a.pos,a.cv,a.vars,x⟩)=w at*;generalize aI Ar.cells as=T at*;have s:((n0:Int)+i).toNat=n0+i:=(by omega);have f:¬((n0:Int)+i<0):=(by omega);rw[g374L0e]at j⊢;simp[Sy,zO,d]at j b;simp(disch:=omega)[-getElem?_pos,g374B0,Sy,zO,p,hi,hy,t,m,v,g,r,b,k,ae,s,f];rw[g374L0e];simp[d,j]
def aaP{e:Ex}{c K:List Ex}{n0 N:Nat}(hN:N<=1000)(hc:c.length=n0+N)(a:n0<=1000):∀(n i:Nat),N-i=n->i<=N->∀as:List Ar,as.length=N->
   cl AP g374L0 ⟨[(1,.pv (.aq (c.map Ex.pv))),(4,.au 4 0),(5,.pv (vI n0)),(6,.au 6 0),(7,.pv (vI i))],[(4,zO),(6,Sy e K (.aP 0 14 N true))],[some (aI Ar.cells as)],[0,0,0,K.length]⟩=
     some (.exit 0,⟨[(1,.pv (.aq (c.map Ex.pv))),(4,.au 4 0),(5,.pv (vI n0)),(6,.au 6 0),(7,.pv (vI N)),(34,.pv (.bool false))],[(4,zO),(6,Sy e K (.aP 0 14 N true))],[some (aI Ar.cells (as.take i++cN (as.drop i) (c.drop (n0+i))))],[0,0,0,K.length]⟩):=
 PE (B:=0) (SA:=fun as=>[some (aI Ar.cells as)]) hN hc a (by simp) (by simp) fun _=>aG.one aN
def wy{xs:List Ex}:cN [] xs=[]:=by cases xs<;>rfl
def c374{e:Ex}(n:e.kids.length<=1000)(o:e.aB.length<=1000){c:List Ex}:(az AP).p 374 [e.pv,.aq (c.map Ex.pv)]=some [(e.lS c).pv]:=by
 rw[aw g374];unfold Ex.lS;have hw:((e.kids.length:Int)+e.aB.length).toNat=e.kids.length+e.aB.length:=by omega
 by_cases hc:c.length=e.kids.length+e.aB.length
 .rw[zan hc];have a:(c.length:Int)=(e.kids.length:Int)+e.aB.length:=by omega
  have m:e.kids.length<=c.length:=(by omega);have g:=Az m;have b:(c.take e.kids.length).length=e.kids.length:=(by simp;omega);have j:e.kids.length*152<=140737488355328:=(by omega);have i:e.aB.length*200<=140737488355328:=(by omega);have hz:e.kids.length=0<->c.take e.kids.length=[]:=(by rw[<-zaR,b]);rw[<-zbr]at g;by_cases hA:e.aB=[]
  .have hn:e.aB.length=0:=(by rw[hA];rfl);rw[hn]at a;simp at a;generalize hK:c.take e.kids.length=K at*;rw[hA,wy];by_cases d:K=[]
   .subst d;have h0:=hz.2 rfl;simp[h0]at a;simp(disch:=omega)[g374,g374L0e,g374B0,hA,a,ID,ae,h0]
   .simp(disch:=omega)[g374,g374L0e,g374B0,hA,a,g,ae,d,b,j]
  .have h:=aaP (e:=e) (c:=c) (K:=c.take e.kids.length) o hc n _ 0 rfl (by omega) e.aB rfl;simp only[za3,zaj,zaE,zba]at h;have hm:=Ay (l:=e.aB);have hl:=wx (l:=cN e.aB (c.drop e.kids.length));have f:(aI Ar.cells (cN e.aB (c.drop e.kids.length))).length=e.aB.length*14:=(by rw[a_ dZ,gO]);rw[gO]at hl;have k:∀aH ts,bg aH ts [some (aI Ar.cells e.aB)]=([some (aI Ar.cells e.aB)],aH,ts):=(aG.one aN).norm;generalize cN e.aB (c.drop e.kids.length)=R at*;generalize aI Ar.cells R=q at*;generalize hK:c.take e.kids.length=K at*;rw[g374L0e]at h;generalize aI Ar.cells e.aB=T at*;simp[Sy,zO,k]at h;simp at hl;by_cases d:K=[]
   .subst d;have h0:=hz.2 rfl;simp[h0]at h a;simp(disch:=omega)[-getElem?_pos,g374,hA,a,ID,ae,h0,i,hm,k,g374L0e,h,f,hl]
   .simp only[b]at h;simp(disch:=omega)[-getElem?_pos,g374,hA,a,g,ae,d,b,j,i,hm,k,g374L0e,h,f,hl]
 .rw[zai hc];have a:¬(c.length:Int)=(e.kids.length:Int)+e.aB.length:=by omega
  simp (disch:=omega) [g374,a,ae]
def lT:aG []:=by intro cs h;simp at h
def c414i{e:Ex}(h:e.Ok):∃k,(az AP).i 414 [.pv e.pv] [] []=some (if e.ch=[]then([.own [] 0],[],[0])else([.aP k 11 e.ch.length true],nn k++[some (aI Ex.cells e.ch)],[])):=by
 have n:=h.k;have j:=h.a;obtain⟨k,h2⟩:=Sj j _ 0 rfl (by omega) [] e.kids lT (by omega);rw[zaj]at h2
 change cl AP g414L0 _=some (.exit 0,⟨[(3,hV ([]++nn k) e.ch),(10,.pv (.aq (e.aB.map Ar.pv))),(11,.pv (vI e.aB.length)),(12,.pv (vI e.aB.length)),(13,.pv (.bool false))],[],hS ([]++nn k) e.ch,hT e.ch⟩)at h2
 rw[zaE]at h2;have g:e.kids.length*152<=140737488355328:=by omega
 have hm:=rX (l:=e.kids);have c:∀aH ts,bg aH ts ([some (aI Ex.cells e.kids)])=([some (aI Ex.cells e.kids)],aH,ts):=(aG.one aN).norm;have f:∀aH ts,bg aH ts (nn k)=(nn k,aH,ts):=(bn k).norm;have b:∀aH ts,bg aH ts (nn k++[some (aI Ex.cells e.ch)])=(nn k++[some (aI Ex.cells e.ch)],aH,ts):=((bn k).app (aG.one aN)).norm;have d:(nn k).length=k:=by simp
 refine⟨k,?_⟩;rw[aM g414];by_cases hc:e.ch=[]
 .have h0:e.kids=[]/\e.aB=[]:=by have:=hc;simpa[Ex.ch]using this
  simp only[hc,hV,hS,hT,zbc,h0.1]at h2⊢;rw[g414L0e]at h2;simp[h0.1,h0.2]at h2;simp[g414,h0.1,h0.2,g414L0e,h2,f]
 .by_cases h0:e.kids=[]
  .simp only[hV,hS,hT,zai hc,h0,zbc,d]at h2⊢;generalize nn k++[some (aI Ex.cells e.ch)]=m at*;generalize aI Ex.cells e.ch=F at*;rw[g414L0e]at h2;simp[h0]at h2;simp[-getElem?_pos,g414,h0,g414L0e,h2,b]
  .simp only[hV,hS,hT,zai hc,zai h0,d]at h2⊢;generalize nn k++[some (aI Ex.cells e.ch)]=m at*;generalize aI Ex.cells e.ch=F at*;generalize aI Ex.cells e.kids=o at*;rw[g414L0e]at h2;simp[c]at h2;simp[-getElem?_pos,g414,h0,g,hm,c,g414L0e,h2,b]
def Wz{e:Ex}{c:List Ex}{n0 N B0 B:Nat}(hN:N<=1000)(hc:c.length=n0+N)(q:n0<=1000){SA:List Ar->Sh}(h1:∀c,(SA c)[B]?=some (some (aI Ar.cells c)))(h2:∀c c',(SA c).set B (some (aI Ar.cells c'))=SA c')(h3:∀c,aG (SA c)):
   ∀(n i:Nat),N-i=n->i<=N->∀as:List Ar,as.length=N->
   cl AP g556L0 ⟨[(1,.pv (.aq (c.map Ex.pv))),(2,.au 2 0),(4,.au 4 0),(5,.pv (vI n0)),(6,.aP B0 11 n0 true),(7,.aP B 14 N true),(35,.pv (vI N)),(36,.pv (vI i))],[(2,e.cl),(4,zO)],SA as,[0,0,0]⟩=
     some (.exit 0,⟨[(1,.pv (.aq (c.map Ex.pv))),(2,.au 2 0),(4,.au 4 0),(5,.pv (vI n0)),(6,.aP B0 11 n0 true),(7,.aP B 14 N true),(35,.pv (vI N)),(36,.pv (vI N)),(37,.pv (.bool false))],[(2,e.cl),(4,zO)],SA (as.take i++cN (as.drop i) (c.drop (n0+i))),[0,0,0]⟩)
 |0,i,hn,hi,as,u=>by
  have:i=N:=by omega
  subst this;have p:=(h3 as).norm;rw[jb (l:=as) (by omega),zaf (by omega)];simp only[cN,zax];generalize SA as=S at*;rw[g556L0e];simp[g556B0,zO,p]
 |n+1,i,hn,hi,as,u=>by
  have hi:i<N:=(by omega);obtain⟨a,hx⟩:=aQ (l:=as) (i:=i) (by omega);obtain⟨x,hy⟩:=aQ (l:=c) (i:=n0+i) (by omega);have t:n0+i<c.length:=(by omega);have j:=Wz (e:=e) (B0:=B0) hN hc q h1 h2 h3 n (i+1) (by omega) (by omega) (as.set i ⟨a.pos,a.cv,a.vars,x⟩) (by simpa using u)
  have b:=gU dZ hx (y:=⟨a.pos,a.cv,a.vars,x⟩) (o:=3) (vs:=x.cells) (by rw[bo.len];omega) (by
   have h1:=bo.len a.body;have h2:=bo.len x;simp only[Ar.cells,zbl,za3,zbb,zaE,zbf,zaj,h2];rw[zaM (by simp[h1]),zax])
  rw[Ex.hU]at b
  have h:as.take i++cN (as.drop i) (c.drop (n0+i))=(as.set i ⟨a.pos,a.cv,a.vars,x⟩).take (i+1)++cN ((as.set i ⟨a.pos,a.cv,a.vars,x⟩).drop (i+1)) (c.drop (n0+(i+1))):=by
   have h1:(as.set i ⟨a.pos,a.cv,a.vars,x⟩).take (i+1)=as.take i++[⟨a.pos,a.cv,a.vars,x⟩]:=by
    rw[zaw,zan (by omega),zaV,zaf (by simp;omega)];have:i+1-(as.take i).length=1:=by simp;omega
    rw[this];rfl
   rw[h1,za7 (by omega),aR hx,aR hy];simp[cN,zbN]
  rw[h];generalize (as.set i ⟨a.pos,a.cv,a.vars,x⟩).take (i+1)++cN ((as.set i ⟨a.pos,a.cv,a.vars,x⟩).drop (i+1)) (c.drop (n0+(i+1)))=R at j⊢;have m:=h1 as;have k:=h2 as (as.set i ⟨a.pos,a.cv,a.vars,x⟩);have p:=(h3 as).norm;have d:=(h3 (as.set i ⟨a.pos,a.cv,a.vars,x⟩)).norm;have v:bW (aI Ar.cells as)=false:=bw aN;have g:(aI Ar.cells as).length=N*14:=by rw[a_ dZ,u]
  have r:i*14+3+11<=N*14:=(by omega);generalize SA (as.set i ⟨a.pos,a.cv,a.vars,x⟩)=A at*;generalize SA as=S at*;generalize SA R=z at*;generalize aI Ar.cells (as.set i ⟨a.pos,a.cv,a.vars,x⟩)=w at*;generalize aI Ar.cells as=T at*;have s:((n0:Int)+i).toNat=n0+i:=(by omega);have f:¬((n0:Int)+i<0):=(by omega);rw[g556L0e]at j⊢;simp[zO,d]at j b;simp(disch:=omega)[-getElem?_pos,g556B0,zO,p,hi,hy,t,m,v,g,r,b,k,ae,s,f];rw[g556L0e];simp[d,j]
def zE:List PV:=[.int .i64 0,.int .i64 0,.str [],.int .i64 0,.aq [],.aq [],.int .i64 0,.str [],.int .i64 0,.int .i64 0,.aq []]
def zA:List PV:=[.int .i64 0,.str [],.aq [],.int .i64 0,.int .i64 0,.str [],.int .i64 0,.aq [],.aq [],.int .i64 0,.str [],.int .i64 0,.int .i64 0,.aq []]
def WA{l:List AV}{n:Nat}:((List.replicate n l).flatten).length=n*l.length:=by
 induction n with
 |zero=>simp
 |succ n a=>rw[zbK,zbY,zad,a,zaI];omega
def PF{l:List AV}{n:Nat}{v:AV}(h:v∈(List.replicate n l).flatten):v∈l:=by
 rw[zb1]at h;obtain⟨m,h1,h2⟩:=h;rw[zbB]at h1;rw[<-h1.2];exact h2
def Ug{l:List PV}{n:Nat}:∀v∈(List.replicate n (l.map AV.pv)).flatten,∃p,v=AV.pv p:=by
 intro v hv;obtain⟨p,_,rfl⟩:=zat.1 (PF hv);exact⟨p,rfl⟩
def AA{l:List PV}{n:Nat}{f:AV->Bool}(h:(l.map AV.pv).all f=true):((List.replicate n (l.map AV.pv)).flatten).all f=true:=by
 rw[zaq]at h⊢;exact fun v hv=>h v (PF hv)
structure ZR(Z:List AV)(n sz:Nat):Prop where
 len:Z.length=n*sz
 mp:bW Z=false
 q:∀(X:Sh),aG X->aG (X++[some Z])
def IE{l:List PV}{n:Nat}:ZR ((List.replicate n (l.map AV.pv)).flatten) n l.length:=⟨by rw[WA,zak],bw Ug,fun X h=>h.app (aG.one Ug)⟩
def c556{e:Ex}(z:e.kids.length<=1000)(A:e.aB.length<=1000){c:List Ex}:(az AP).p 556 [e.pv,.aq (c.map Ex.pv)]=some [(e.lS c).pv]:=by
 rw[aw g556];unfold Ex.lS;by_cases hc:c.length=e.kids.length+e.aB.length
 .rw[zan hc];have a:(c.length:Int)=(e.kids.length:Int)+e.aB.length:=by omega
  have v:(e.kids.length:Int)*152<=140737488355328:=(by omega);have u:(e.aB.length:Int)*200<=140737488355328:=(by omega);have t:(e.kids.length:Int)<=9223372036854775807:=(by omega);have s:(e.aB.length:Int)<=9223372036854775807:=(by omega);have z1:=IE (l:=zE) (n:=e.kids.length);have z2:=IE (l:=zA) (n:=e.aB.length);have d:=AA (l:=zA) (n:=e.aB.length) (f:=da) (by rfl);have b:=AA (l:=zA) (n:=e.aB.length) (f:=aJ 2) (by rfl);have m:=(z1.q [] lT).norm;have k:=(z2.q _ (z1.q [] lT)).norm;have o:(c.take e.kids.length).length=e.kids.length:=(by simp;omega);have f1:(aI Ex.cells (c.take e.kids.length)).length=e.kids.length*11:=(by rw[a_ bo,o]);have f2:(aI Ar.cells e.aB).length=e.aB.length*14:=a_ dZ;have s1:List.drop (e.kids.length*11) (List.replicate e.kids.length (zE.map AV.pv)).flatten=[]:=zaM (by rw[z1.len];exact zas _);have w:List.drop (aI Ar.cells e.aB).length (List.replicate e.aB.length (zA.map AV.pv)).flatten=[]:=zaM (by rw[f2,z2.len];exact zas _);have y:=rX (l:=c.take e.kids.length);have m2:=Ay (l:=e.aB)
  have h:=Wz (e:=e) (c:=c) (n0:=e.kids.length) (N:=e.aB.length) (B0:=0) (B:=1) A hc z (SA:=fun as=>[some (aI Ex.cells (c.take e.kids.length)),some (aI Ar.cells as)]) (fun _=>rfl) (fun _ _=>rfl)
    (fun as=>(aG.one aN).app (aG.one aN)) _ 0 rfl (by omega) e.aB rfl
  simp only[za3,zaj,zaE,zba]at h;have l1:=mE (l:=c.take e.kids.length);have l2:=wx (l:=cN e.aB (c.drop e.kids.length));have f3:(aI Ar.cells (cN e.aB (c.drop e.kids.length))).length=e.aB.length*14:=by rw[a_ dZ,gO]
  rw[gO]at l2;rw[o]at l1;have x:∀aH ts,bg aH ts [some (aI Ex.cells (c.take e.kids.length)),some (aI Ar.cells e.aB)]=([some (aI Ex.cells (c.take e.kids.length)),some (aI Ar.cells e.aB)],aH,ts):=((aG.one aN).app (aG.one aN)).norm;generalize cN e.aB (c.drop e.kids.length)=R at*;generalize aI Ar.cells R=C at*;generalize aI Ar.cells e.aB=E at*;have hK:List.take e.kids.length (List.map Ex.pv c)=List.map Ex.pv (List.take e.kids.length c):=zbr.symm;have hA:List.take e.aB.length (List.map Ar.pv e.aB)=List.map Ar.pv e.aB:=zaf (by simp);generalize List.take e.kids.length c=K at*;generalize aI Ex.cells K=D at*;obtain⟨r,j,_⟩:=z1;obtain⟨i,g,_⟩:=z2;simp only[zE,zA,zal,zaJ]at r j i g d b m k s1 w;rw[g556L0e]at h;simp[zO,x]at h;simp at l1 l2 y;simp(disch:=omega)[-getElem?_pos,g556,a,ae,v,u,t,s,j,g,d,b,s1,w,m,k,y,m2,x,g556L0e,h,l1,l2,f1,f3,i,hK,hA]
 .rw[zai hc];have a:¬(c.length:Int)=(e.kids.length:Int)+e.aB.length:=by omega
  simp (disch:=omega) [g556,a,ae]
def Mu{X:Sh}(u v:Option (List AV)):(X++[u,v])[X.length+1]?=some v:=by rw[zaB (by omega)];simp
def Hn{X:Sh}(u v w:Option (List AV)):(X++[u,v]).set (X.length+1) w=X++[u,w]:=by rw[zco _ _ (by omega)];simp
def Ex.clW(e:Ex)(n:Nat):List AV:=[.pv (vI e.kind),.pv (vI e.pos),.pv (.str e.name),.pv (vI e.num),.aP n 11 e.kids.length true,.aP (n+1) 14 e.aB.length true,.pv (vI e.ty.kind),.pv (.str e.ty.name),.pv (vI e.ty.id),.pv (vI e.ty.home),.pv (.aq (e.ty.args.map Ty.pv))]
def c556i{e:Ex}(G:e.kids.length<=1000)(H:e.aB.length<=1000){c:List Ex}(hc:c.length=e.kids.length+e.aB.length){X:Sh}(a:aG X):
   (az AP).i 556 [.pv e.pv,.pv (.aq (c.map Ex.pv))] X []=some ([.agg (e.clW X.length)],X++[some (aI Ex.cells (c.take e.kids.length)),some (aI Ar.cells (cN e.aB (c.drop e.kids.length)))],[]):=by
 rw[aM g556];have s:(c.length:Int)=(e.kids.length:Int)+e.aB.length:=by omega
 have z:(e.kids.length:Int)*152<=140737488355328:=by omega
 have y:(e.aB.length:Int)*200<=140737488355328:=by omega
 have x:(e.kids.length:Int)<=9223372036854775807:=by omega
 have t:(e.aB.length:Int)<=9223372036854775807:=by omega
 have z1:=IE (l:=zE) (n:=e.kids.length);have z2:=IE (l:=zA) (n:=e.aB.length);have d:=AA (l:=zA) (n:=e.aB.length) (f:=da) (by rfl);have b:=AA (l:=zA) (n:=e.aB.length) (f:=aJ (X.length+2)) (by rfl);have o:=(z1.q X a).norm;have m:=(z2.q _ (z1.q X a)).norm;have p:(c.take e.kids.length).length=e.kids.length:=by simp;omega
 have f1:(aI Ex.cells (c.take e.kids.length)).length=e.kids.length*11:=by rw[a_ bo,p]
 have f2:(aI Ar.cells e.aB).length=e.aB.length*14:=a_ dZ;have s1:List.drop (e.kids.length*11) (List.replicate e.kids.length (zE.map AV.pv)).flatten=[]:=zaM (by rw[z1.len];exact zas _);have A:List.drop (aI Ar.cells e.aB).length (List.replicate e.aB.length (zA.map AV.pv)).flatten=[]:=zaM (by rw[f2,z2.len];exact zas _);have D:=rX (l:=c.take e.kids.length);have m2:=Ay (l:=e.aB)
 have h:=Wz (e:=e) (c:=c) (n0:=e.kids.length) (N:=e.aB.length) (B0:=X.length) (B:=X.length+1) H hc G (SA:=fun as=>X++[some (aI Ex.cells (c.take e.kids.length)),some (aI Ar.cells as)]) (fun _=>Mu _ _) (fun _ _=>Hn _ _ _)
   (fun as=>a.app ((aG.one aN).app (aG.one aN))) _ 0 rfl (by omega) e.aB rfl
 simp only[za3,zaj,zaE,zba]at h;have l1:=mE (l:=c.take e.kids.length);have l2:=wx (l:=cN e.aB (c.drop e.kids.length));have f3:(aI Ar.cells (cN e.aB (c.drop e.kids.length))).length=e.aB.length*14:=by rw[a_ dZ,gO]
 rw[gO]at l2;rw[p]at l1;have C:∀aH ts,bg aH ts (X++[some (aI Ex.cells (c.take e.kids.length)),some (aI Ar.cells e.aB)])=(X++[some (aI Ex.cells (c.take e.kids.length)),some (aI Ar.cells e.aB)],aH,ts):=(a.app ((aG.one aN).app (aG.one aN))).norm;have F:∀aH ts,bg aH ts (X++[some (aI Ex.cells (c.take e.kids.length)),some (aI Ar.cells (cN e.aB (c.drop e.kids.length)))])=(X++[some (aI Ex.cells (c.take e.kids.length)),some (aI Ar.cells (cN e.aB (c.drop e.kids.length)))],aH,ts):=(a.app ((aG.one aN).app (aG.one aN))).norm;have E:=a.norm;generalize cN e.aB (c.drop e.kids.length)=R at*;generalize aI Ar.cells R=J at*;generalize aI Ar.cells e.aB=M at*;have hK:List.take e.kids.length (List.map Ex.pv c)=List.map Ex.pv (List.take e.kids.length c):=zbr.symm;have hA:List.take e.aB.length (List.map Ar.pv e.aB)=List.map Ar.pv e.aB:=zaf (by simp);generalize List.take e.kids.length c=K at*;generalize aI Ex.cells K=L at*;obtain⟨r,k,_⟩:=z1;obtain⟨j,g,_⟩:=z2;simp only[zE,zA,zal,zaJ]at r k j g d b o m s1 A;rw[g556L0e]at h;simp[zO,C]at h;have g1:∀u,(X++[u])[X.length]?=some u:=fun u=>by simp
 have g2:∀u v,(X++[u,v])[X.length]?=some u:=fun u v=>by simp
 have I:∀u v,(X++[u,v])[X.length+1]?=some v:=Mu;have g4:∀u v w,(X++[u,v]).set X.length w=X++[w,v]:=fun u v w=>by simp
 have g5:∀u v w,(X++[u,v]).set (X.length+1) w=X++[u,w]:=Hn;simp at l1 l2 D;simp(disch:=omega)[-getElem?_pos,g556,s,ae,z,y,x,t,k,g,d,b,s1,A,o,m,D,m2,C,g556L0e,h,l1,l2,f1,f3,j,hK,hA,Ex.clW,E,F,g1,g2,I,g4,g5]
def Ar.p0(a:Ar):Ar:=⟨0,a.cv,a.vars,a.body⟩
def att{α a:Type}(l:List α)(f:α->a):(l.attach.map fun x=>f x.1)=l.map f:=by rw[zbh,zbA]
def Ex.strip(e:Ex):Ex:=⟨e.kind,0,e.name,e.num,e.kids.attach.map fun x=>x.1.strip,e.aB.attach.map fun a=>⟨0,a.1.cv,a.1.vars,a.1.body.strip⟩,e.ty⟩
termination_by SizeOf.sizeOf e
decreasing_by
 .exact Ex.kU (by rw[Ex.ch,zaz];exact .inl x.2)
 .exact Ex.kU (by rw[Ex.ch,zaz,zat];exact .inr ⟨a.1,a.2,rfl⟩)
def Ex.eo(e:Ex):e.strip=⟨e.kind,0,e.name,e.num,e.kids.map Ex.strip,e.aB.map fun a=>⟨0,a.cv,a.vars,a.body.strip⟩,e.ty⟩:=by
 have h1:=att e.kids Ex.strip;have h2:=att e.aB fun a=>(⟨0,a.cv,a.vars,a.body.strip⟩:Ar)
 rw[Ex.strip,h1,h2]
theorem Dm{g:Ex->Ex}:∀{as:List Ar},cN as (as.map fun a=>g a.body)=as.map fun a=>⟨a.pos,a.cv,a.vars,g a.body⟩
 |[]=>rfl
 |a::r=>by simp only[zal,cN,Dm (as:=r)]
def Dn(e:Ex):(e.ch.map Ex.strip).take e.kids.length=e.kids.map Ex.strip/\(cN e.aB ((e.ch.map Ex.strip).drop e.kids.length)).map Ar.p0=e.aB.map fun a=>⟨0,a.cv,a.vars,a.body.strip⟩:=by
 have h:e.ch.map Ex.strip=e.kids.map Ex.strip++e.aB.map fun a=>a.body.strip:=by simp[Ex.ch]
 have hl:(e.kids.map Ex.strip).length=e.kids.length:=by simp
 rw[h];constructor
 .rw[<-hl];exact List.take_left
 .rw[<-hl,List.drop_left,Dm,zbv];rfl
def Zn{e:Ex}{b m:Nat}(hm:m<=2000){SS:List Ex->Sh}(h1:∀c,(SS c)[b]?=some (some (aI Ex.cells c)))(h2:∀c c',(SS c).set b (some (aI Ex.cells c'))=SS c')(h3:∀c,aG (SS c)):
   ∀(n i:Nat),m-i=n->i<=m->∀c:List Ex,c.length=m->(∀x∈c.drop i,(az AP).p 546 [x.pv]=some [x.strip.pv])->
   cl AP g546L0 ⟨[(1,.au 1 0),(2,.au 2 0),(3,.aP b 11 m true),(9,.aP b 11 m true),(10,.pv (vI m)),(11,.pv (vI i))],[(1,e.cl),(2,zO)],SS c,[0,0,0]⟩=
     some (.exit 0,⟨[(1,.au 1 0),(2,.au 2 0),(3,.aP b 11 m true),(9,.aP b 11 m true),(10,.pv (vI m)),(11,.pv (vI m)),(12,.pv (.bool false))],[(1,e.cl),(2,zO)],SS (c.take i++(c.drop i).map Ex.strip),[0,0,0]⟩)
 |0,i,hn,hi,c,u,hc=>by
  have:i=m:=by omega
  subst this;have s:=(h3 c).norm;rw[jb (l:=c) (by omega),zaf (by omega),zaJ,zax];generalize SS c=S at*;rw[g546L0e];simp[g546B0,zO,s]
 |n+1,i,hn,hi,c,u,hc=>by
  have hi:i<m:=(by omega);obtain⟨x,hx⟩:=aQ (l:=c) (i:=i) (by omega);have k:=hc x (by rw[aR hx];simp)
  have j:=Zn (e:=e) hm h1 h2 h3 n (i+1) (by omega) (by omega) (c.set i x.strip) (by simpa using u) (by
   rw[za7 (by omega)];intro y hy;exact hc y (by rw[aR hx];exact zcc _ hy))
  have a:=gU bo hx (y:=x.strip) (o:=0) (vs:=x.strip.cells) (by rw[bo.len];omega) (by
   have h1:=bo.len x;have h2:=bo.len x.strip;simp[h1,h2])
  rw[Ex.hU,zba]at a;have d:=jE bo hx (o:=0) (k:=11) (by omega)
  have ht:(((x.cells.drop 0).take 11).map AV.pv)=x.cl:=by
   rw[zaj,zaf (by rw[bo.len];omega),Ex.hU]
  rw[ht,zba]at d
  have f:c.take i++(c.drop i).map Ex.strip=(c.set i x.strip).take (i+1)++((c.set i x.strip).drop (i+1)).map Ex.strip:=by
   have h1:(c.set i x.strip).take (i+1)=c.take i++[x.strip]:=by
    rw[zaw,zan (by omega),zaV,zaf (by simp;omega)];have:i+1-(c.take i).length=1:=by simp;omega
    rw[this];rfl
   rw[h1,za7 (by omega),aR hx];simp
  rw[f];generalize (c.set i x.strip).take (i+1)++((c.set i x.strip).drop (i+1)).map Ex.strip=R at j⊢;have r:=h1 c;have q:=h2 c (c.set i x.strip);have s:=(h3 c).norm;have g:=(h3 (c.set i x.strip)).norm;have v:bW (aI Ex.cells c)=false:=bw aN;have h:(aI Ex.cells c).length=m*11:=by rw[a_ bo,u]
  have t:i*11+11<=m*11:=(by omega);clear hc h1 h2 h3 f;generalize SS (c.set i x.strip)=A at*;generalize SS c=S at*;generalize SS R=z at*;generalize aI Ex.cells (c.set i x.strip)=w at*;generalize aI Ex.cells c=T at*;generalize x.strip=y at*;rw[g546L0e]at j⊢;simp at k;simp[zO,g]at j a d⊢;simp(disch:=omega)[-getElem?_pos,g546B0,s,hi,r,v,h,t,d,a,q,k,ae];rw[g546L0e];simp[g,j]
def Ex.XS(e:Ex)(n:Nat):List AV:=[.pv (vI e.kind),.pv (vI 0),.pv (.str e.name),.pv (vI e.num),.aP n 11 e.kids.length true,.aP (n+1) 14 e.aB.length true,.pv (vI e.ty.kind),.pv (.str e.ty.name),.pv (vI e.ty.id),.pv (vI e.ty.home),.pv (.aq (e.ty.args.map Ty.pv))]
def Uh{e:Ex}{B N:Nat}(hN:N<=1000)(t:e.aB.length=N){SA:List Ar->Sh}(h1:∀c,(SA c)[B+1]?=some (some (aI Ar.cells c)))(h2:∀c c',(SA c).set (B+1) (some (aI Ar.cells c'))=SA c')(h3:∀c,aG (SA c)):
   ∀(n i:Nat),N-i=n->i<=N->∀as:List Ar,as.length=N->
   cl AP g546L1 ⟨[(1,.au 1 0),(2,.au 2 0),(28,.pv (vI N)),(29,.pv (vI i))],[(1,e.XS B),(2,zO)],SA as,[0,0,0]⟩=
     some (.exit 2,⟨[(1,.au 1 0),(2,.au 2 0),(28,.pv (vI N)),(29,.pv (vI N)),(30,.pv (.bool false))],[(1,e.XS B),(2,zO)],SA (as.take i++(as.drop i).map Ar.p0),[0,0,0]⟩)
 |0,i,hn,hi,as,s=>by
  have:i=N:=by omega
  subst this;have m:=(h3 as).norm;rw[jb (l:=as) (by omega),zaf (by omega),zaJ,zax];generalize SA as=S at*;rw[g546L1e];simp[g546B1,Ex.XS,zO,m]
 |n+1,i,hn,hi,as,s=>by
  have hi:i<N:=(by omega);obtain⟨a,hx⟩:=aQ (l:=as) (i:=i) (by omega);have h:=Uh (e:=e) hN t h1 h2 h3 n (i+1) (by omega) (by omega) (as.set i a.p0) (by simpa using s);have b:=lQ dZ hx (y:=a.p0) (o:=0) (p:=vI 0) (by omega) (by simp[Ar.cells,Ar.p0])
  have d:as.take i++(as.drop i).map Ar.p0=(as.set i a.p0).take (i+1)++((as.set i a.p0).drop (i+1)).map Ar.p0:=by
   have h1:(as.set i a.p0).take (i+1)=as.take i++[a.p0]:=by
    rw[zaw,zan (by omega),zaV,zaf (by simp;omega)];have:i+1-(as.take i).length=1:=by simp;omega
    rw[this];rfl
   rw[h1,za7 (by omega),aR hx];simp
  rw[d];generalize (as.set i a.p0).take (i+1)++((as.set i a.p0).drop (i+1)).map Ar.p0=R at h⊢;have k:=h1 as;have j:=h2 as (as.set i a.p0);have m:=(h3 as).norm;have f:=(h3 (as.set i a.p0)).norm;have u:bW (aI Ar.cells as)=false:=bw aN;have g:(aI Ar.cells as).length=N*14:=by rw[a_ dZ,s]
  have q:i*14+1<=N*14:=(by omega);have r:i<e.aB.length:=(by omega);clear h1 h2 h3 d;generalize SA (as.set i a.p0)=x at*;generalize SA as=S at*;generalize SA R=w at*;generalize aI Ar.cells (as.set i a.p0)=v at*;generalize aI Ar.cells as=T at*;rw[g546L1e]at h⊢;simp[Ex.XS,zO,f]at h b;simp(disch:=omega)[-getElem?_pos,g546B1,Ex.XS,zO,m,hi,r,k,u,g,q,b,j,ae];rw[g546L1e];simp[f,h]
def c546(e:Ex):e.Ok->(az AP).p 546 [e.pv]=some [e.strip.pv]:=by
 refine Ex.recC (p:=fun e=>e.Ok->(az AP).p 546 [e.pv]=some [e.strip.pv]) ?_ e;intro e E h;have F:=h.k;have i:=h.a;obtain⟨k,c1⟩:=c414i h;have hl:=Ex.cM (e:=e);have⟨t1,t2⟩:=Dn e;rw[Ex.eo];rw[aw g546];by_cases hc:e.ch=[]
 .have h0:e.kids=[]/\e.aB=[]:=by have:=hc;simpa[Ex.ch]using this
  have c2:=c556i (e:=e) F i (c:=[]) (by simp[h0.1,h0.2]) (X:=[]) lT;rw[hc,zan rfl]at c1;simp[Ex.clW,h0.1,h0.2,wy]at c1 c2;simp[g546,Ap,d9,chunk,h0.1,h0.2,c1,g546L0e,g546B0,c2,g546L1e,g546B1]
 .have f:∀c,(nn k++[some (aI Ex.cells c)])[k]?=some (some (aI Ex.cells c)):=fun c=>by simp
  have l1:=Zn (e:=e) (b:=k) (m:=e.ch.length) (by omega) (SS:=fun c=>nn k++[some (aI Ex.cells c)]) f (fun c c'=>by simp) (fun c=>(bn k).app (aG.one aN)) _ 0 rfl (by omega) e.ch rfl (fun x hx=>E x (by simpa using hx) (h.c x (by simpa using hx)));rw[zaj,za3,zaE]at l1;have g:aG (nn k++[none]):=(bn k).app (bn 1);have d:(nn k++[none]).length=k+1:=(by simp);have c2:=c556i (e:=e) F i (c:=e.ch.map Ex.strip) (by rw[zak];exact hl) g;rw[d,t1]at c2
  have l2:=Uh (e:=e) (B:=k+1) i rfl (SA:=fun as=>nn k++[none]++[some (aI Ex.cells (e.kids.map Ex.strip)),some (aI Ar.cells as)]) (fun c=>by have:=Mu (X:=nn k++[none]) (some (aI Ex.cells (e.kids.map Ex.strip))) (some (aI Ar.cells c));rwa [d]at this)
    (fun c c'=>by have:=Hn (X:=nn k++[none]) (some (aI Ex.cells (e.kids.map Ex.strip))) (some (aI Ar.cells c)) (some (aI Ar.cells c'));rwa [d]at this) (fun c=>g.app ((aG.one aN).app (aG.one aN))) _ 0 rfl (by omega) (cN e.aB ((e.ch.map Ex.strip).drop e.kids.length)) gO
  rw[zaj,za3,zaE,t2]at l2;have z:=mE (l:=e.ch.map Ex.strip);have y:=mE (l:=e.kids.map Ex.strip);have w:=wx (l:=e.aB.map fun a=>(⟨0,a.cv,a.vars,a.body.strip⟩:Ar));have b1:(aI Ex.cells (e.ch.map Ex.strip)).length=e.ch.length*11:=by rw[a_ bo,zak]
  have b2:(aI Ex.cells (e.kids.map Ex.strip)).length=e.kids.length*11:=(by rw[a_ bo,zak]);have b3:(aI Ar.cells (e.aB.map fun a=>(⟨0,a.cv,a.vars,a.body.strip⟩:Ar))).length=e.aB.length*14:=(by rw[a_ dZ,zak]);have s1:(nn k++[some (aI Ex.cells (e.ch.map Ex.strip))]).set k none=nn k++[none]:=(by simp);have H:=f (e.ch.map Ex.strip);have I:∀aH ts,bg aH ts (nn k++[some (aI Ex.cells (e.ch.map Ex.strip))])=(nn k++[some (aI Ex.cells (e.ch.map Ex.strip))],aH,ts):=((bn k).app (aG.one aN)).norm;have D:∀aH ts,bg aH ts (nn k++[some (aI Ex.cells e.ch)])=(nn k++[some (aI Ex.cells e.ch)],aH,ts):=((bn k).app (aG.one aN)).norm;have A:∀aH ts,bg aH ts (nn k++[none]++[some (aI Ex.cells (e.kids.map Ex.strip)),some (aI Ar.cells (cN e.aB ((e.ch.map Ex.strip).drop e.kids.length)))])=(nn k++[none]++[some (aI Ex.cells (e.kids.map Ex.strip)),some (aI Ar.cells (cN e.aB ((e.ch.map Ex.strip).drop e.kids.length)))],aH,ts):=(g.app ((aG.one aN).app (aG.one aN))).norm;have r:∀n,dU n (nn k++[some (aI Ex.cells e.ch)])=nn k++[some (aI Ex.cells e.ch)]:=((bn k).app (aG.one aN)).shift;have j:∀n,dU n (nn k++[none]++[some (aI Ex.cells (e.kids.map Ex.strip)),some (aI Ar.cells (cN e.aB ((e.ch.map Ex.strip).drop e.kids.length)))])=nn k++[none]++[some (aI Ex.cells (e.kids.map Ex.strip)),some (aI Ar.cells (cN e.aB ((e.ch.map Ex.strip).drop e.kids.length)))]:=(g.app ((aG.one aN).app (aG.one aN))).shift;have o:∀n,dU n (nn k++[none])=nn k++[none]:=g.shift;have q:∀aH ts,bg aH ts (nn k++[none])=(nn k++[none],aH,ts):=g.norm;have g1:∀u v,(nn k++[none]++[u,v])[k+1]?=some u:=fun u v=>by rw[zaB (by omega)];simp
  have g2:∀u v,(nn k++[none]++[u,v])[k+1+1]?=some v:=fun u v=>by have:=Mu (X:=nn k++[none]) u v;rwa [d]at this
  have t:=g1 (some (aI Ex.cells (e.kids.map Ex.strip))) (some (aI Ar.cells (e.aB.map fun a=>(⟨0,a.cv,a.vars,a.body.strip⟩:Ar))));have s:=g2 (some (aI Ex.cells (e.kids.map Ex.strip))) (some (aI Ar.cells (e.aB.map fun a=>(⟨0,a.cv,a.vars,a.body.strip⟩:Ar))));rw[zai hc]at c1;rw[zak]at z y w
  try dsimp only at l1 l2
  clear E f g1 g2 t1 t2 g;generalize cN e.aB ((e.ch.map Ex.strip).drop e.kids.length)=J at*;generalize (e.aB.map fun a=>(⟨0,a.cv,a.vars,a.body.strip⟩:Ar))=G at*;generalize e.kids.map Ex.strip=K at*;generalize e.ch.map Ex.strip=C at*;generalize nn k++[some (aI Ex.cells C)]=Q at*;generalize nn k++[some (aI Ex.cells e.ch)]=R at*;generalize nn k++[none]++[some (aI Ex.cells K),some (aI Ar.cells G)]=O at*;generalize nn k++[none]++[some (aI Ex.cells K),some (aI Ar.cells J)]=P at*;generalize nn k++[none]=X at*;generalize aI Ex.cells C=M at*;generalize aI Ex.cells K=L at*;generalize aI Ar.cells G=N at*;rw[g546L0e]at l1;rw[g546L1e]at l2;simp at c1 z y w;simp[zO,Ex.XS,D,A]at l1 l2;simp[Ex.clW]at c2;simp(config:={maxSteps:=1000000}) (disch:=omega) [-getElem?_pos,g546,hc,c1,r,o,j,q,D,I,A,g546L0e,l1,s1,H,z,b1,c2,g546L1e,l2,t,s,y,w,b2,b3]
end Go.Ab.Lw
