import Derived.Test.YtdfcnacldfnbfaaGreatCodeA
import Derived.KernelRfl
/- What functions of the given program answer, told of their slim code on the abstract machine. -/
set_option linter.defProp false
set_option linter.unusedVariables false
set_option linter.unusedSimpArgs false
set_option linter.unnecessarySimpa false
set_option maxRecDepth 100000
set_option maxHeartbeats 8000000
namespace Go.Ab
def zaM:=@List.take_add_one
def zdi:=@List.take_left
def zcD:=@List.drop_append
def zaf:=@List.mem_flatMap
def zaP:=@List.map_congr_left
def zaE:=@decide_eq_true
def zbl:=@List.any_eq_false
def zdl:=@Int.not_le
def zbg:=@decide_eq_false_iff_not
def zch:=@List.not_mem_nil
def zcq:=@Option.toList_some
def zbu:=@List.take_length
def zbi:=@List.map_take
def zcr:=@List.nodup_append
def zcb:=@List.foldl_append
def zbU:=@List.any_cons
def zcP:=@Nat.one_le_pow
def zcH:=@Nat.pow_succ
def zca:=@of_decide_eq_true
def zcm:=@List.sum_append
def zco:=@List.flatMap_append
def zbe:=@List.set_eq_take_append_cons_drop
def zcX:=@List.map_drop
def za3:=@List.map_append
def zcE:=@List.countP_cons
def zcL:=@List.length_nil
def zaU:=@List.mem_singleton
def za9:=@List.drop_length
def zcg:=@List.singleton_append
def zbm:=@List.length_singleton
def zcV:=@List.drop_set_of_lt
def zcN:=@List.length_filter_le
def zba:=@List.length_eq_zero_iff
def zbt:=@List.mem_map_of_mem
end Go.Ab
namespace Go.Ab.Lw
structure Ty where
 kind:Int
 name:List UInt8
 id:Int
 home:Int
 args:List Ty
 deriving Inhabited
noncomputable instance:DecidableEq Ty:=fun _ _=>Classical.propDecidable _
mutual
def Ty.pv:Ty->PV
 |⟨k,n,i,h,as⟩=>.agg [.int .i64 k,.str n,.int .i64 i,.int .i64 h,.ae (Ty.eE as)]
def Ty.eE:List Ty->List PV
 |[]=>[]
 |a::r=>a.pv::Ty.eE r
end
def Ty.lL:∀l:List Ty,Ty.eE l=l.map Ty.pv
 |[]=>by simp[Ty.eE]
 |a::r=>by simp[Ty.eE,Ty.lL r]
@[simp] theorem Ty.lM(t:Ty):t.pv=.agg [.int .i64 t.kind,.str t.name,.int .i64 t.id,.int .i64 t.home,.ae (t.args.map Ty.pv)]:=by
 cases t;simp only[Ty.pv,Ty.lL]
def Ty.cb{p:Ty->Prop}(h:∀t:Ty,(∀x∈t.args,p x)->p t):∀t,p t
 |⟨k,n,i,hm,as⟩=>h _ (fun x a=>Ty.cb h x)
termination_by t=>SizeOf.sizeOf t
decreasing_by have:=_root_.List.sizeOf_lt_of_mem a;simp at*;omega
structure ke where
 pos:Int
 name:List UInt8
 fields:List Ty
 deriving Inhabited
structure Dt where
 pos:Int
 name:List UInt8
 params:List (List UInt8)
 cons:List ke
 deriving Inhabited
def ke.pv(c:ke):PV:=.agg [.int .i64 c.pos,.str c.name,.ae (c.fields.map Ty.pv)]
def Dt.pv(d:Dt):PV:=.agg [.int .i64 d.pos,.str d.name,.ae (d.params.map .str),.ae (d.cons.map ke.pv)]
@[simp] theorem ke.lM(c:ke):c.pv=.agg [.int .i64 c.pos,.str c.name,.ae (c.fields.map Ty.pv)]:=rfl
@[simp] theorem Dt.lM(d:Dt):d.pv=.agg [.int .i64 d.pos,.str d.name,.ae (d.params.map .str),.ae (d.cons.map ke.pv)]:=rfl
structure As where
 id:Int
 ty:Ty
 deriving Inhabited
def As.pv(a:As):PV:=.agg [.int .i64 a.id,.int .i64 a.ty.kind,.str a.ty.name,.int .i64 a.ty.id,.int .i64 a.ty.home,.ae (a.ty.args.map Ty.pv)]
@[simp] theorem As.lM(a:As):a.pv=.agg [.int .i64 a.id,.int .i64 a.ty.kind,.str a.ty.name,.int .i64 a.ty.id,.int .i64 a.ty.home,.ae (a.ty.args.map Ty.pv)]:=rfl
@[simp] theorem As.eta(t:As):As.mk t.id t.ty=t:=rfl
abbrev vI(n:Int):PV:=.int .i64 n
def tp(L:List Int)(i:Int):Sh:=[some [.pv (.ae (L.map vI)),.pv (vI i)]]
@[simp] theorem acQ(L:List Int)(i:Int):tp L i=[some [.pv (.ae (L.map vI)),.pv (vI i)]]:=rfl
def Sm{α:Type}(l:List α):Prop:=l.length<1099511627776
variable{α Y:Type}{i m g sz:Nat}{n:Int}{l d bs S:List Ty}{b E:Ty}{sh:Sh}{I s:List As}{ts:aH}{Z:Ty->Ty}{cap c0:List AV}{F:List UInt8}{ag:Bool}{st:St}{f:St->Option (aX×St)}{live:List Nat}{env:List (Nat×AV)}{mem:List (Nat×List AV)}{p:Ty->Bool}{z1 z2:List PV}
def qE(l:List α):Prop:=l.length<=9223372036854775807
@[simp] theorem aci(n:Nat):((n:Int)<0)<->False:=by simp
@[simp] theorem ab9(n:Nat):((n:Int)+1<0)<->False:=by simp;omega
def aZ{α:Type}{l:List α}{i:Nat}{x:α}(h:l[i]?=some x):l.drop i=x::l.drop (i+1):=by
 obtain⟨hi,rfl⟩:=zaa.1 h;exact zdo hi
def aR{l:List α}(h:i<l.length):∃x,l[i]?=some x:=⟨_,zbf h⟩
def aM{l:List α}{x:α}(h:l[i]?=some x):x∈l:=List.mem_of_getElem? h
def yZ{l:List α}(h:l.length<=i):l.drop i=[]:=za6 h
open Ev
def c26{B:Int}(h1:1<=B)(h2:B<4611686018427387904):∃r,(aE AP).p 26 [vI n,vI B]=some [vI r]/\0<=r/\r<B:=by
 rw[aB g26];have b:=Int.tmod_lt_of_pos n (show 0<B by omega);have a:=Int.lt_tmod_of_pos n (show 0<B by omega);have e1:¬B<1:=by omega
 have e2:¬B=0:=by omega
 by_cases h:n.tmod B<0
 .refine⟨n.tmod B+B,?_,by omega,by omega⟩;simp(disch:=omega)[g26,e1,e2,h,aq]
 .refine⟨n.tmod B,?_,by omega,by omega⟩;simp[g26,e1,e2,h]
def c63:(aE AP).p 63 [vI n]=some [(Ty.mk 1 [] n 0 []).pv]:=by
 rw[aB g63];simp[g63]
def c71{m:Int}:(aE AP).p 71 [vI n,vI m]=some [(Ty.mk 3 [] m n []).pv]:=by
 rw[aB g71];simp[g71]
def c72:(aE AP).p 72 [vI n]=some [(Ty.mk 2 [] n 0 []).pv]:=by
 rw[aB g72];simp[g72]
def c62{s:List UInt8}(h:Sm l):(aE AP).p 62 [.str s,.ae (l.map Ty.pv)]=some [(Ty.mk 4 s 0 0 l).pv]:=by
 unfold Sm at h;rw[aB g62];cases l with
 |nil=>simp[g62]
 |cons a r=>
  have:(r.length+1)*64<=140737488355328:=by simp at h;omega
  simp[g62,this]
def c34:(aE AP).p 34 []=some [(Ty.mk 4 [73,110,116] 0 0 []).pv]:=by
 rw[aB g34];have h:=c62 (s:=[73,110,116]) (l:=[]) (by simp[Sm]);simp at h;simp[g34,h]
def c69{a:Ty}:(aE AP).p 69 [a.pv,b.pv]=some [(Ty.mk 4 [45,62] 0 0 [a,b]).pv]:=by
 rw[aB g69];have h:=c62 (s:=[45,62]) (l:=[a,b]) (by simp[Sm]);simp at h;simp[g69,h]
def c15{l:List Int}:(aE AP).p 15 [.ae (l.map vI)]=some [.bool (decide (l.length<=60))]:=by
 rw[aB g15];simp[g15];omega
def Calm(sh:Sh):Prop:=∀aQ ts,bt aQ ts sh=(sh,aQ,ts)
def az(n:Int):Ty:=⟨1,[],n,0,[]⟩
def oW(h n:Int):Ty:=⟨3,[],n,h,[]⟩
def bm(n:Int):Ty:=⟨2,[],n,0,[]⟩
def a8:Ty:=⟨4,[73,110,116],0,0,[]⟩
def c70_4(h:Calm sh):(aE AP).i 70 [.pv (vI 4)] sh []=some ([.own ([az 0,az 1,az 2,az 3].map Ty.pv) 0],sh,[4]):=by
 have a:=h;unfold Calm at h;rw[aC g70];have c0:=c63 (n:=0);have c1:=c63 (n:=1);have c2:=c63 (n:=2);have c3:=c63 (n:=3);simp at c0 c1 c2 c3;simp(disch:=omega)[-getElem?_pos,g70,g70L0e,g70B0,aq,c0,c1,c2,c3,h,az]
def aar:List UInt8:=[100,97,116,97,32,66,111,111,108,32,61,32,84,114,117,101,32,124,32,70,97,108,115,101,59,32,100,97,116,97,32,79,112,116,105,111,110,32,97,32,61,32,78,111,110,101,32,124,32,83,111,109,101,32,97,59,32,100,97,116,97,32,76,105,115,116,32,97,32,61,32,78,105,108,32,124,32,67,111,110,115,32,97,32,40,76,105,115,116,32,97,41,59,100,97,116,97,32,80,97,105,114,32,97,32,98,32,61,32,80,97,105,114,32,97,32,98,59,32,100,97,116,97,32,78,97,116,32,61,32,90,101,114,111,32,124,32,83,117,99,99,32,78,97,116,59,32,100,97,116,97,32,70,117,110,32,97,32,98,32,61,32,70,117,110,32,40,97,32,45,62,32,98,41,59,32,100,97,116,97,32,84,119,111,32,97,32,61,32,66,111,116,104,32,97,32,97,32,124,32,79,110,101,32,40,79,112,116,105,111,110,32,97,41,59]
def VZ:List PV:=[.ae [.agg [.int .i64 4,.str [100,97,116,97],.int .i64 0],.agg [.int .i64 2,.str [66,111,111,108],.int .i64 5],.agg [.int .i64 5,.str [61],.int .i64 10],.agg [.int .i64 2,.str [84,114,117,101],.int .i64 12],.agg [.int .i64 5,.str [124],.int .i64 17],.agg [.int .i64 2,.str [70,97,108,115,101],.int .i64 19],.agg [.int .i64 5,.str [59],.int .i64 24],.agg [.int .i64 4,.str [100,97,116,97],.int .i64 26],.agg [.int .i64 2,.str [79,112,116,105,111,110],.int .i64 31],.agg [.int .i64 1,.str [97],.int .i64 38],.agg [.int .i64 5,.str [61],.int .i64 40],.agg [.int .i64 2,.str [78,111,110,101],.int .i64 42],.agg [.int .i64 5,.str [124],.int .i64 47],.agg [.int .i64 2,.str [83,111,109,101],.int .i64 49],.agg [.int .i64 1,.str [97],.int .i64 54],.agg [.int .i64 5,.str [59],.int .i64 55],.agg [.int .i64 4,.str [100,97,116,97],.int .i64 57],.agg [.int .i64 2,.str [76,105,115,116],.int .i64 62],.agg [.int .i64 1,.str [97],.int .i64 67],.agg [.int .i64 5,.str [61],.int .i64 69],.agg [.int .i64 2,.str [78,105,108],.int .i64 71],.agg [.int .i64 5,.str [124],.int .i64 75],.agg [.int .i64 2,.str [67,111,110,115],.int .i64 77],.agg [.int .i64 1,.str [97],.int .i64 82],.agg [.int .i64 5,.str [40],.int .i64 84],.agg [.int .i64 2,.str [76,105,115,116],.int .i64 85],.agg [.int .i64 1,.str [97],.int .i64 90],.agg [.int .i64 5,.str [41],.int .i64 91],.agg [.int .i64 5,.str [59],.int .i64 92],.agg [.int .i64 4,.str [100,97,116,97],.int .i64 93],.agg [.int .i64 2,.str [80,97,105,114],.int .i64 98],.agg [.int .i64 1,.str [97],.int .i64 103],.agg [.int .i64 1,.str [98],.int .i64 105],.agg [.int .i64 5,.str [61],.int .i64 107],.agg [.int .i64 2,.str [80,97,105,114],.int .i64 109],.agg [.int .i64 1,.str [97],.int .i64 114],.agg [.int .i64 1,.str [98],.int .i64 116],.agg [.int .i64 5,.str [59],.int .i64 117],.agg [.int .i64 4,.str [100,97,116,97],.int .i64 119],.agg [.int .i64 2,.str [78,97,116],.int .i64 124],.agg [.int .i64 5,.str [61],.int .i64 128],.agg [.int .i64 2,.str [90,101,114,111],.int .i64 130],.agg [.int .i64 5,.str [124],.int .i64 135],.agg [.int .i64 2,.str [83,117,99,99],.int .i64 137],.agg [.int .i64 2,.str [78,97,116],.int .i64 142],.agg [.int .i64 5,.str [59],.int .i64 145],.agg [.int .i64 4,.str [100,97,116,97],.int .i64 147],.agg [.int .i64 2,.str [70,117,110],.int .i64 152],.agg [.int .i64 1,.str [97],.int .i64 156],.agg [.int .i64 1,.str [98],.int .i64 158],.agg [.int .i64 5,.str [61],.int .i64 160],.agg [.int .i64 2,.str [70,117,110],.int .i64 162],.agg [.int .i64 5,.str [40],.int .i64 166],.agg [.int .i64 1,.str [97],.int .i64 167],.agg [.int .i64 5,.str [45,62],.int .i64 169],.agg [.int .i64 1,.str [98],.int .i64 172],.agg [.int .i64 5,.str [41],.int .i64 173],.agg [.int .i64 5,.str [59],.int .i64 174],.agg [.int .i64 4,.str [100,97,116,97],.int .i64 176],.agg [.int .i64 2,.str [84,119,111],.int .i64 181],.agg [.int .i64 1,.str [97],.int .i64 185],.agg [.int .i64 5,.str [61],.int .i64 187],.agg [.int .i64 2,.str [66,111,116,104],.int .i64 189],.agg [.int .i64 1,.str [97],.int .i64 194],.agg [.int .i64 1,.str [97],.int .i64 196],.agg [.int .i64 5,.str [124],.int .i64 198],.agg [.int .i64 2,.str [79,110,101],.int .i64 200],.agg [.int .i64 5,.str [40],.int .i64 204],.agg [.int .i64 2,.str [79,112,116,105,111,110],.int .i64 205],.agg [.int .i64 1,.str [97],.int .i64 212],.agg [.int .i64 5,.str [41],.int .i64 213],.agg [.int .i64 5,.str [59],.int .i64 214]],.agg [.int .i64 0,.int .i64 0]]
def br:List Dt:=[⟨0,[66,111,111,108],[],[⟨12,[84,114,117,101],[]⟩,⟨19,[70,97,108,115,101],[]⟩]⟩,
 ⟨26,[79,112,116,105,111,110],[[97]],[⟨42,[78,111,110,101],[]⟩,⟨49,[83,111,109,101],[⟨5,[97],0,0,[]⟩]⟩]⟩,
 ⟨57,[76,105,115,116],[[97]],[⟨71,[78,105,108],[]⟩,⟨77,[67,111,110,115],[⟨5,[97],0,0,[]⟩,⟨4,[76,105,115,116],0,0,[⟨5,[97],0,0,[]⟩]⟩]⟩]⟩,
 ⟨93,[80,97,105,114],[[97],[98]],[⟨109,[80,97,105,114],[⟨5,[97],0,0,[]⟩,⟨5,[98],0,0,[]⟩]⟩]⟩,
 ⟨119,[78,97,116],[],[⟨130,[90,101,114,111],[]⟩,⟨137,[83,117,99,99],[⟨4,[78,97,116],0,0,[]⟩]⟩]⟩,
 ⟨147,[70,117,110],[[97],[98]],[⟨162,[70,117,110],[⟨4,[45,62],0,0,[⟨5,[97],0,0,[]⟩,⟨5,[98],0,0,[]⟩]⟩]⟩]⟩,
 ⟨176,[84,119,111],[[97]],[⟨189,[66,111,116,104],[⟨5,[97],0,0,[]⟩,⟨5,[97],0,0,[]⟩]⟩,⟨200,[79,110,101],[⟨4,[79,112,116,105,111,110],0,0,[⟨5,[97],0,0,[]⟩]⟩]⟩]⟩]
def aas:(aE AP).p 118 [.str aar]=some VZ:=Fc.Ya (k:=400) (n:=20) (by kernel_rfl)
def ovD(g:Nat)(x:List PV):Option (List PV):=match g,x with
 |118,[.str s]=>if s=aar then some VZ else none
 |_,_=>none
def Yb:∀g x r,ovD g x=some r->(aE AP).p g x=some r:=by
 intro g x r h;unfold ovD at h;split at h
 .split at h
  .rename_i e;subst e;cases h;exact aas
  .cases h
 .cases h
def c79:(aE AP).p 79 []=some [.ae (br.map Dt.pv)]:=Fc.aaq (k:=400) (n:=40) Yb (by kernel_rfl)
@[simp] theorem ZG{l:List Dt}:bj 4 (l.map Dt.pv)=true:=by cases l<;>simp
@[simp] theorem ZH{l:List Ty}:bj 5 (l.map Ty.pv)=true:=by cases l<;>simp
@[simp] theorem ZI{I:List As}:bj 6 (I.map As.pv)=true:=by cases I<;>simp
def PI{B:Int}(h1:0<=B)(h2:B<18446744073709551616):IntKind.u64.wrap B=B:=by
 simp[IntKind.wrap,IntKind.bits,IntKind.signed];omega
def R32(bits:Int)(ds:List Dt):Option (aX×St):=
 some (.exit 0,⟨[(0,.pv (vI bits)),(3,.pv (.ae (br.map Dt.pv))),(4,.own (ds.map Dt.pv) 0),(5,.pv (vI 7)),(24,.pv (.bool false))],[],[],[ds.length]⟩)
def L32(bits:Int):∀(n i:Nat),7-i=n->i<=7->∀acc:List Dt,(∀d∈acc,d∈br)->acc.length<=1+i->
   ∃ds:List Dt,cl AP g32L0 ⟨[(0,.pv (vI bits)),(3,.pv (.ae (br.map Dt.pv))),(4,.own (acc.map Dt.pv) 0),(5,.pv (vI i))],[],[],[acc.length]⟩=R32 bits ds /\
     (∀d∈ds,d∈br)/\ds.length<=8
 |0,i,hn,hi,acc,a,hl=>by
  have:i=7:=by omega
  subst this;refine⟨acc,?_,a,by omega⟩;rw[g32L0e];have h7:br.length=7:=rfl;simp[g32B0,h7,R32]
 |n+1,i,hn,hi,acc,a,hl=>by
  have h7:br.length=7:=rfl;have hi:i<7:=(by omega);obtain⟨x,hx⟩:=aR (l:=br) (i:=i) (by omega);have j:(acc.length+1)*72<=140737488355328:=by omega
  obtain⟨e,e1,m1,g⟩:=L32 bits n (i+1) (by omega) (by omega) (acc++[x]) (by
   intro d hd;simp at hd;rcases hd with hd|rfl
   .exact a d hd
   .exact aM hx) (by simp;omega)
  obtain⟨c,e2,m2,f⟩:=L32 bits n (i+1) (by omega) (by omega) acc a (by omega);simp at e1 e2;have b:(i:Int)<7:=by omega
  have key:∀S,S=cl AP g32L0 ⟨[(0,.pv (vI bits)),(3,.pv (.ae (br.map Dt.pv))),(4,.own (acc.map Dt.pv) 0),(5,.pv (vI i))],[],[],[acc.length]⟩->S=R32 bits e\/S=R32 bits c:=by
   intro S hS;rw[g32L0e]at hS;simp(disch:=omega)[-getElem?_pos,g32B0,h7,b,hx,aq,PI,j,e1,e2]at hS;subst hS
   (repeat' split)<;>simp
  rcases key _ rfl with h|h
  .exact⟨e,h,m1,g⟩
  .exact⟨c,h,m2,f⟩
def c32(bits:Int):∃ds:List Dt,(aE AP).p 32 [vI bits]=some [.ae (ds.map Dt.pv)]/\(∀d∈ds,d∈br)/\ds.length<=8:=by
 have hp:=c79;have h7:br.length=7:=rfl;obtain⟨x,hx⟩:=aR (l:=br) (i:=1) (by decide);obtain⟨b,e1,m1,e⟩:=L32 bits 7 0 rfl (by omega) [x] (by intro d hd;simp at hd;subst hd;exact aM hx) (by simp);obtain⟨a,e2,m2,c⟩:=L32 bits 7 0 rfl (by omega) [] (by simp) (by simp);rw[g32L0e]at e1 e2;simp at e1 e2
 have key:∀S,S=(aE AP).p 32 [vI bits]->S=some [.ae (b.map Dt.pv)]\/S=some [.ae (a.map Dt.pv)]:=by
  intro S hS;rw[aB g32]at hS;simp[-getElem?_pos,g32,hp,g32L0e,hx,e1,e2,R32]at hS;subst hS
  (repeat' split)<;>simp
 rcases key _ rfl with h|h
 .exact⟨b,h,m1,e⟩
 .exact⟨a,h,m2,c⟩
def Ty.av(t:Ty):AV:=.agg [.pv (vI t.kind),.pv (.str t.name),.pv (vI t.id),.pv (vI t.home),.pv (.ae (t.args.map Ty.pv))]
@[simp] theorem Ty.acR(t:Ty):t.av=.agg [.pv (vI t.kind),.pv (.str t.name),.pv (vI t.id),.pv (vI t.home),.pv (.ae (t.args.map Ty.pv))]:=rfl
def yl{B:Int}{n:Nat}(h0:0<=B)(h1:B<n):∃m:Nat,B=m/\m<n:=⟨B.toNat,by omega,by omega⟩
inductive Ty.Ok:Ty->Prop
 |mk {t:Ty}:Sm t.args->(∀x∈t.args,Ty.Ok x)->Ty.Ok t
def Ty.Ok.sm(h:b.Ok):Sm b.args:=by cases h;assumption
def Ty.Ok.df(h:b.Ok):∀x∈b.args,x.Ok:=by cases h;assumption
inductive Ty.Wf:Ty->Prop
 |mk {t:Ty}:(t.kind=1->t.args=[])->(∀x∈t.args,Ty.Wf x)->Ty.Wf t
def Ty.Wf.var{t:Ty}(h:t.Wf):t.kind=1->t.args=[]:=by cases h;assumption
def Ty.Wf.df(h:b.Wf):∀x∈b.args,x.Wf:=by cases h;assumption
def cR:List As->Int->Option Ty
 |[],_=>none
 |a::r,id=>if a.id=id then some a.ty else cR r id
mutual
def Ty.sub(s:List As):Ty->Ty
 |⟨k,n,i,h,as⟩=>if k=1 then(cR s i).getD ⟨k,n,i,h,as⟩else⟨k,n,i,h,Ty.PJ s as⟩
def Ty.PJ(s:List As):List Ty->List Ty
 |[]=>[]
 |a::r=>a.sub s::Ty.PJ s r
end
def Ty.DH(s:List As):∀l:List Ty,Ty.PJ s l=l.map (Ty.sub s)
 |[]=>by simp[Ty.PJ]
 |a::r=>by simp[Ty.PJ,Ty.DH s r]
def Ty.sub_eq(s:List As)(t:Ty):t.sub s=if t.kind=1 then(cR s t.id).getD t else⟨t.kind,t.name,t.id,t.home,t.args.map (Ty.sub s)⟩:=by
 cases t;simp only[Ty.sub,Ty.DH]
def PK(s:List As)(t:Ty):Option Ty->Option (aX×St)
 |some a=>some (.ret,⟨[(4,.au 4 0)],[(4,[.pv (vI a.kind),.pv (.str a.name),.pv (vI a.id),.pv (vI a.home),.pv (.ae (a.args.map Ty.pv))])],[],[0]⟩)
 |none=>some (.exit 0,⟨[(1,.pv (.ae (s.map As.pv))),(2,.au 2 0),(4,.au 4 0),(5,.pv (vI s.length)),(14,.pv (.bool false))],
     [(2,[.pv (vI t.kind),.pv (.str t.name),.pv (vI t.id),.pv (vI t.home),.pv (.ae (t.args.map Ty.pv))]),(4,[.pv (vI 0),.pv (.str []),.pv (vI 0),.pv (vI 0),.own [] 0])],[],[0]⟩)
def aat(hS:Sm I)(t:Ty):∀(n i:Nat),I.length-i=n->i<=I.length->
   cl AP g46L0 ⟨[(1,.pv (.ae (I.map As.pv))),(2,.au 2 0),(4,.au 4 0),(5,.pv (vI i))],
     [(2,[.pv (vI t.kind),.pv (.str t.name),.pv (vI t.id),.pv (vI t.home),.pv (.ae (t.args.map Ty.pv))]),(4,[.pv (vI 0),.pv (.str []),.pv (vI 0),.pv (vI 0),.own [] 0])],[],[0]⟩=PK I t (cR (I.drop i) t.id)
 |0,i,hn,hi=>by
  have:i=I.length:=by omega
  subst this;rw[g46L0e];simp[g46B0,cR,PK]
 |n+1,i,hn,hi=>by
  have hi:i<I.length:=(by omega);obtain⟨x,hx⟩:=aR hi;unfold Sm at hS;have a:=aat hS t n (i+1) (by omega) (by omega);simp at a;rw[g46L0e,aZ hx];by_cases e:x.id=t.id
  .simp(disch:=omega)[-getElem?_pos,g46B0,hx,hi,e,cR,PK]
  .simp(disch:=omega)[-getElem?_pos,g46B0,hx,hi,e,cR,aq,a]
def aau(hS:Sm E.args)(h:∀x∈E.args,(aE AP).p 46 [x.pv,.ae (s.map As.pv)]=some [(x.sub s).pv]):∀(n i:Nat),E.args.length-i=n->i<=E.args.length->∀acc:List Ty,acc=(E.args.take i).map (Ty.sub s)->
   cl AP g46L1 ⟨[(1,.pv (.ae (s.map As.pv))),(2,.au 2 0),(4,.au 4 0),(6,.au 6 0),(7,.pv (vI i))],
     [(2,[.pv (vI E.kind),.pv (.str E.name),.pv (vI E.id),.pv (vI E.home),.pv (.ae (E.args.map Ty.pv))]),(4,[.pv (vI 0),.pv (.str []),.pv (vI 0),.pv (vI 0),.own [] 0]),
       (6,[.pv (vI E.kind),.pv (.str E.name),.pv (vI E.id),.pv (vI E.home),.own (acc.map Ty.pv) 1])],[],[0,acc.length]⟩=
     some (.exit 2,⟨[(1,.pv (.ae (s.map As.pv))),(2,.au 2 0),(4,.au 4 0),(6,.au 6 0),(7,.pv (vI E.args.length)),(37,.pv (.bool false))],
     [(2,[.pv (vI E.kind),.pv (.str E.name),.pv (vI E.id),.pv (vI E.home),.pv (.ae (E.args.map Ty.pv))]),(4,[.pv (vI 0),.pv (.str []),.pv (vI 0),.pv (vI 0),.own [] 0]),
       (6,[.pv (vI E.kind),.pv (.str E.name),.pv (vI E.id),.pv (vI E.home),.own ((E.args.map (Ty.sub s)).map Ty.pv) 1])],[],[0,E.args.length]⟩)
 |0,i,hn,hi,acc,a=>by
  have:i=E.args.length:=by omega
  subst this;subst a;rw[g46L1e];simp[g46B1]
 |n+1,i,hn,hi,acc,a=>by
  have hi:i<E.args.length:=(by omega);obtain⟨x,hx⟩:=aR hi;unfold Sm at hS;have d:(acc.length+1)*64<=140737488355328:=by subst a;simp;omega
  have c:=h x (aM hx);have b:=aau hS h n (i+1) (by omega) (by omega) (acc++[x.sub s]) (by rw[zaM,hx,a];simp);rw[g46L1e]at b⊢;simp at b c;simp(disch:=omega)[-getElem?_pos,g46B1,hx,hi,c,d,aq];rw[g46L1e];simp[b]
def c46(hS:Sm s){t:Ty}(c:t.Ok):(aE AP).p 46 [t.pv,.ae (s.map As.pv)]=some [(t.sub s).pv]:=by
 revert c
 refine Ty.cb (p:=fun t=>t.Ok->(aE AP).p 46 [t.pv,.ae (s.map As.pv)]=some [(t.sub s).pv]) ?_ t;intro t d c;rw[aB g46];by_cases b:t.kind=1
 .have h:=aat hS t _ 0 rfl (by omega);rw[g46L0e]at h;simp at h;cases hf:cR s t.id with
  |none=>
   rw[hf]at h;simp[PK,b]at h;simp[g46,b,g46L0e,h,Ty.sub_eq,hf]
  |some a=>
   rw[hf]at h;simp[PK,b]at h;simp[g46,b,g46L0e,h,Ty.sub_eq,hf]
 .have h:=aau (s:=s) c.sm (fun x hx=>d x hx (c.df x hx)) _ 0 rfl (by omega) [] (by simp);rw[g46L1e]at h;simp at h;simp[g46,b,g46L1e,h,Ty.sub_eq]
def aY(sh:Sh):Prop:=∀cs,some cs∈sh->∀v∈cs,∃p,v=AV.pv p
theorem i6{aQ:aH}:∀{cs:List AV},(∀v∈cs,∃p,v=AV.pv p)->bo aQ ts cs=(cs,aQ,ts)
 |[],_=>rfl
 |v::r,h=>by
  obtain⟨p,rfl⟩:=h v (by simp);simp only[wt,CZ,i6 (cs:=r) (fun v a=>h v (by simp[a]))]
theorem aY.norm:∀{sh:Sh},aY sh->∀aQ ts,bt aQ ts sh=(sh,aQ,ts)
 |[],_,_,_=>rfl
 |none::sh,h,aQ,ts=>by
  simp only[qe,aY.norm (sh:=sh) (fun cs a=>h cs (by simp[a]))]
 |some cs::sh,h,aQ,ts=>by
  simp only[qf,i6 (h cs (by simp)),aY.norm (sh:=sh) (fun cs a=>h cs (by simp[a]))]
theorem sH{n:Nat}:∀{cs:List AV},(∀v∈cs,∃p,v=AV.pv p)->cs.map (dj n)=cs
 |[],_=>rfl
 |v::r,h=>by
  obtain⟨p,rfl⟩:=h v (by simp);simp only[zan,yM,sH (cs:=r) (fun v a=>h v (by simp[a]))]
theorem aY.shift:∀{sh:Sh},aY sh->∀n,gh n sh=sh
 |[],_,_=>rfl
 |none::sh,h,n=>by
  simp only[tO,aY.shift (sh:=sh) (fun cs a=>h cs (by simp[a]))]
 |some cs::sh,h,n=>by
  simp only[tQ,sH (h cs (by simp)),aY.shift (sh:=sh) (fun cs a=>h cs (by simp[a]))]
def aY.app{a b:Sh}(e:aY a)(d:aY b):aY (a++b):=by
 intro cs c;simp only[zae]at c;rcases c with c|c
 .exact e cs c
 .exact d cs c
def aY.one{cs:List AV}(h:∀v∈cs,∃p,v=AV.pv p):aY [some cs]:=by
 intro b a;simp at a;subst a;exact h
@[simp] theorem acj{l:List α}{x:α}:(l++[x])[l.length]?=some x:=by simp
def Ty.cl(t:Ty):List AV:=[.pv (vI t.kind),.pv (.str t.name),.pv (vI t.id),.pv (vI t.home),.pv (.ae (t.args.map Ty.pv))]
def PL:List AV:=[.pv (vI 0),.pv (.str []),.pv (vI 0),.pv (vI 0),.pv (.ae [])]
def c_(d:List Ty)(m:Nat):List AV:=d.flatMap Ty.cl++(List.replicate m PL).flatten
theorem DI:(d.flatMap Ty.cl).length=d.length*5:=by
 induction d with
 |nil=>rfl
 |cons a r b=>simp[b,Ty.cl,zaG]
def TV:((List.replicate m PL).flatten).length=m*5:=by
 simp[PL]
def iy:(c_ d m).length=(d.length+m)*5:=by
 simp only[c_,zat,DI,TV,zaG]
def rf{t:Ty}:a_ (c_ d (m+1)) (d.length*5) t.cl=c_ (d++[t]) m:=by
 have e:c_ d (m+1)=d.flatMap Ty.cl++(PL++(List.replicate m PL).flatten):=by simp[c_,zbs]
 have hl:(d.flatMap Ty.cl).length=d.length*5:=DI;rw[aU,e,<-hl,zdi,zcD,za6 (by omega)];have:(d.flatMap Ty.cl).length+t.cl.length-(d.flatMap Ty.cl).length=5:=by simp[Ty.cl]
 rw[this];simp[c_,PL]
def dE:∀v∈c_ d m,∃p,v=AV.pv p:=by
 intro v a;simp only[c_,zae,zaf,zci,zbR]at a;rcases a with⟨t,_,a⟩|⟨l,⟨_,rfl⟩,a⟩
 .simp[Ty.cl]at a;rcases a with rfl|rfl|rfl|rfl|rfl<;>exact⟨_,rfl⟩
 .simp[PL]at a;rcases a with rfl|rfl|rfl|rfl|rfl<;>exact⟨_,rfl⟩
theorem d_{l:List AV}(h:∀v∈l,∃p,v=.pv p):dR l=false:=by
 cases l with
 |nil=>rfl
 |cons c r=>obtain⟨p,rfl⟩:=h c (by simp);rfl
@[simp] theorem ZJ:dR (c_ d m)=false:=d_ dE
def PM{a b:List AV}{x y:List PV}(c:fM a=some x)(e:fM b=some y):fM (a++b)=some (x++y):=by
 induction a generalizing x with
 |nil=>simp at c;subst c;exact e
 |cons v r d=>
  simp only[su]at c;simp only[za2,su];cases h1:jH v with
  |none=>rw[h1]at c;cases c
  |some p=>
   cases h2:fM r with
   |none=>rw[h1,h2]at c;cases c
   |some q=>
    rw[h1,h2]at c;simp at c;subst c;rw[d h2];rfl
def om:∀{d:List Ty},((fM (c_ d 0)).bind (ie 5 true d.length)).map PV.ae=some (.ae (d.map Ty.pv)):=by
 have key:∀d:List Ty,∃ps,fM (d.flatMap Ty.cl)=some ps/\(chunk 5 d.length ps).map PV.agg=d.map Ty.pv:=by
  intro d;induction d with
  |nil=>exact⟨[],rfl,rfl⟩
  |cons t r a=>
   obtain⟨ps,h1,h2⟩:=a;refine⟨[vI t.kind,.str t.name,vI t.id,vI t.home,.ae (t.args.map Ty.pv)]++ps,?_,?_⟩
   .rw[zaq];exact PM (by simp[Ty.cl]) h1
   .simp only[zay,chunk];simp[h2]
 intro d;obtain⟨ps,h1,h2⟩:=key d;have:c_ d 0=d.flatMap Ty.cl:=by simp[c_]
 rw[this,h1];simp only[za8,ie,za4,zaZ,h2]
mutual
def Ty.t5(f:Ty->Ty):Ty->Ty
 |⟨k,n,i,h,as⟩=>match as with
  |[]=>f ⟨k,n,i,h,[]⟩
  |a::r=>⟨k,n,i,h,a.t5 f::Ty.PN f r⟩
def Ty.PN(f:Ty->Ty):List Ty->List Ty
 |[]=>[]
 |a::r=>a.t5 f::Ty.PN f r
end
def Ty.DJ(f:Ty->Ty):∀l:List Ty,Ty.PN f l=l.map (Ty.t5 f)
 |[]=>by simp[Ty.PN]
 |a::r=>by simp[Ty.PN,Ty.DJ f r]
def Ty.A0(h:b.args=[]):b.t5 Z=Z b:=by
 obtain⟨k,n,i,hm,as⟩:=b;simp at h;subst h;simp[Ty.t5]
def Ty.wQ(h:¬b.args=[]):b.t5 Z=⟨b.kind,b.name,b.id,b.home,b.args.map (Ty.t5 Z)⟩:=by
 obtain⟨k,n,i,hm,as⟩:=b;cases as with
 |nil=>simp at h
 |cons a r=>simp[Ty.t5,Ty.DJ]
def PO(g:Nat)(cap:List AV)(c0:List AV)(f:Ty->Ty):Prop:=∀(sh:Sh)(x:Ty),aY sh->sh[0]?=some (some c0)->x.args=[]->(aE AP).i g (.pv x.pv::cap) sh []=some ([(f x).av],sh,[])
def R91(F:AV)(t:Ty)(f:Ty->Ty)(a:Sh):Option (aX×St):=
 some (.exit 0,⟨[(1,F),(2,.au 2 0),(4,.au 4 0),(5,.bl a.length 5 t.args.length true),(20,.pv (.ae (t.args.map Ty.pv))),(21,.pv (vI t.args.length)),(22,.pv (vI t.args.length)),(23,.pv (.bool false))],
   [(2,t.cl),(4,[.pv (vI 0),.pv (.str []),.pv (vI 0),.pv (vI 0),.own [] 0])],a++[some (c_ (t.args.map (Ty.t5 f)) 0)],[0]⟩)
def L91{X:Sh}(o:aY X)(h0:X[0]?=some (some c0))(a:bB.ep cap=true)(c:bU.ji cap=true)(hS:Sm E.args)
   (h:∀x∈E.args,∀sh,aY sh->sh[0]?=some (some c0)->(aE AP).i 91 [.pv x.pv,.fn g cap] sh []=some ([(x.t5 Z).av],sh,[])):∀(n i:Nat),E.args.length-i=n->i<=E.args.length->∀d:List Ty,d=(E.args.take i).map (Ty.t5 Z)->
   cl AP g91L0 ⟨[(1,.fn g cap),(2,.au 2 0),(4,.au 4 0),(5,.bl X.length 5 E.args.length true),(20,.pv (.ae (E.args.map Ty.pv))),(21,.pv (vI E.args.length)),(22,.pv (vI i))],
     [(2,E.cl),(4,[.pv (vI 0),.pv (.str []),.pv (vI 0),.pv (vI 0),.own [] 0])],X++[some (c_ d n)],[0]⟩=R91 (.fn g cap) E Z X
 |0,i,hn,hi,d,hd=>by
  have:i=E.args.length:=by omega
  subst this;have r:d=E.args.map (Ty.t5 Z):=by simpa using hd
  subst r;have l:=o.app (aY.one (dE (d:=E.args.map (Ty.t5 Z)) (m:=0)));rw[g91L0e];simp[g91B0,R91,a,l.norm,Ty.cl]
 |n+1,i,hn,hi,d,hd=>by
  have hi:i<E.args.length:=(by omega);obtain⟨x,hx⟩:=aR hi;unfold Sm at hS;have q:d.length=i:=(by rw[hd];simp;omega);have l:=o.app (aY.one (dE (d:=d) (m:=n+1)))
  have s:(X++[some (c_ d (n+1))])[0]?=some (some c0):=by
   rw[zao];exact h0;exact(zaa.1 h0).1
  have u:=h x (aM hx) _ l s;have p:=L91 o h0 a c hS h n (i+1) (by omega) (by omega) (d++[x.t5 Z]) (by rw[zaM,hx,hd];simp);have e:a_ (c_ d (n+1)) (i*5) (x.t5 Z).cl=c_ (d++[x.t5 Z]) n:=(by rw[<-q];exact rf);have j:i*5+5<=(c_ d (n+1)).length:=(by rw[iy];omega);have k:=o.app (aY.one (dE (d:=d++[x.t5 Z]) (m:=n)));rw[g91L0e]at p⊢;simp[Ty.cl,a,k.norm]at p e u;simp(disch:=omega)[-getElem?_pos,g91B0,hx,hi,a,c,l.norm,l.shift,Ty.cl,u,e,j,aq];rw[g91L0e];simp[p,a,k.norm]
def c91(hf:PO g cap c0 Z)(b:bB.ep cap=true)(a:bU.ji cap=true)(l:eB [] 1 cap=cap)(e:∀aQ ts,bo aQ ts cap=(cap,aQ,ts))(o:cap.all bQ=true)(n:E.Ok):
   ∀sh,aY sh->sh[0]?=some (some c0)->(aE AP).i 91 [.pv E.pv,.fn g cap] sh []=some ([(E.t5 Z).av],sh,[]):=by
 revert n
 refine Ty.cb (p:=fun E=>E.Ok->∀sh,aY sh->sh[0]?=some (some c0)->(aE AP).i 91 [.pv E.pv,.fn g cap] sh []=some ([(E.t5 Z).av],sh,[])) ?_ E;intro E r n sh c h0;rw[aC g91];by_cases hn:E.args=[]
 .have h:=hf sh E c h0 hn;simp[hn]at h;simp[g91,hn,b,a,l,e,o,c.norm,c.shift,h,Ty.A0 hn]
 .have hl:¬E.args.length=0:=(by simpa using hn);have hS:=n.sm;have h:=L91 c h0 b a n.sm (fun x hx=>r x hx (n.df x hx)) E.args.length 0 (by omega) (by omega) [] (by simp);have s:c_ [] E.args.length=(List.replicate E.args.length [.pv (vI 0),.pv (.str []),.pv (vI 0),.pv (vI 0),.pv (.ae [])]).flatten:=(by simp[c_,PL]);have q:=c.app (aY.one (dE (d:=[]) (m:=E.args.length)));rw[g91L0e]at h;unfold Sm at hS;have b1:(E.args.length:Int)<=9223372036854775807:=(by omega);have v:(E.args.length:Int)*64<=140737488355328:=(by omega);rw[s]at h q;simp[b,q.norm,Ty.cl,R91]at h;have u:=c.app (aY.one (dE (d:=E.args.map (Ty.t5 Z)) (m:=0)));have k:=om (d:=E.args.map (Ty.t5 Z));have j:=iy (d:=E.args.map (Ty.t5 Z)) (m:=0);simp at k j;simp(disch:=omega)[g91,hn,hl,b,a,c.norm,c.shift,b1,v,g91L0e,q.norm,h,Ty.wQ hn,k,j]
def nc(s:List As)(x:Ty):Ty:=if x.kind=1 then(cR s x.id).getD x else x
def TW(h:E.Wf):E.t5 (nc I)=E.sub I:=by
 revert h
 refine Ty.cb (p:=fun E=>E.Wf->E.t5 (nc I)=E.sub I) ?_ E;intro E a h;by_cases hn:E.args=[]
 .rw[Ty.A0 hn,Ty.sub_eq];unfold nc;split
  .rfl
  .cases E;simp at hn;simp[hn]
 .have b:¬E.kind=1:=fun e=>hn (h.var e);rw[Ty.wQ hn,Ty.sub_eq,zad b];congr 1;exact zaP fun x hx=>a x hx (h.df x hx)
def R92(s:List As)(t:Ty)(sh:Sh):Option Ty->Option (aX×St)
 |some a=>some (.ret,⟨[(3,.au 3 0)],[(3,a.cl)],sh,[0]⟩)
 |none=>some (.exit 0,⟨[(2,.au 2 0),(3,.au 3 0),(9,.pv (.ae (s.map As.pv))),(10,.pv (vI s.length)),(11,.pv (vI s.length)),(12,.pv (.bool false))],
     [(2,t.cl),(3,[.pv (vI 0),.pv (.str []),.pv (vI 0),.pv (vI 0),.own [] 0])],sh,[0]⟩)
def L92(hS:Sm I)(t:Ty)(a:aY sh):∀(n i:Nat),I.length-i=n->i<=I.length->
   cl AP g92L0 ⟨[(2,.au 2 0),(3,.au 3 0),(9,.pv (.ae (I.map As.pv))),(10,.pv (vI I.length)),(11,.pv (vI i))],
     [(2,t.cl),(3,[.pv (vI 0),.pv (.str []),.pv (vI 0),.pv (vI 0),.own [] 0])],sh,[0]⟩=R92 I t sh (cR (I.drop i) t.id)
 |0,i,hn,hi=>by
  have:i=I.length:=by omega
  subst this;rw[g92L0e];simp[g92B0,cR,R92,Ty.cl,a.norm]
 |n+1,i,hn,hi=>by
  have hi:i<I.length:=(by omega);obtain⟨x,hx⟩:=aR hi;unfold Sm at hS;have b:=L92 hS t a n (i+1) (by omega) (by omega);rw[g92L0e]at b;simp[Ty.cl,a.norm]at b;rw[g92L0e,aZ hx];by_cases e:x.id=t.id
  .simp(disch:=omega)[-getElem?_pos,g92B0,hx,hi,e,cR,R92,Ty.cl,a.norm]
  .simp(disch:=omega)[-getElem?_pos,g92B0,hx,hi,e,cR,aq,Ty.cl,a.norm];rw[g92L0e];simp[b,a.norm]
def c92(hS:Sm I):PO 92 [.aL 0 0] [.pv (.ae (I.map As.pv))] (nc I):=by
 intro sh x b h0 hx;rw[aC g92];by_cases c:x.kind=1
 .have h:=L92 hS x b _ 0 rfl (by omega);rw[g92L0e]at h;simp[Ty.cl,b.norm]at h;cases hf:cR I x.id with
  |none=>
   rw[hf]at h;simp[R92,Ty.cl,hx,c]at h;simp[g92,c,h0,g92L0e,b.norm,h,nc,hf,hx,b.shift]
  |some a=>
   rw[hf]at h;simp[R92,Ty.cl,hx,c]at h;simp[g92,c,h0,g92L0e,b.norm,h,nc,hf,hx,b.shift]
 .simp[g92,c,h0,b.norm,nc,hx,b.shift]
def c45(hS:Sm s)(d:E.Ok)(c:E.Wf):(aE AP).p 45 [E.pv,.ae (s.map As.pv)]=some [(E.sub s).pv]:=by
 have h:=c91 (c92 hS) rfl rfl rfl (fun _ _=>rfl) rfl d [some [.pv (.ae (s.map As.pv))]] (by intro cs b v a;simp at b;subst b;simp at a;exact⟨_,a⟩) rfl;rw[TW c]at h;simp at h;rw[aB g45];simp[g45,h]
def c22(hS:Sm I)(a:b.Ok):(aE AP).p 22 [.ae (I.map As.pv),b.pv]=some [(b.sub I).pv]:=by
 have h:=c46 hS a;simp at h;rw[aB g22];simp[g22,h]
noncomputable instance:DecidableEq As:=fun _ _=>Classical.propDecidable _
def L57(hS:Sm l)(hl:l.length=bs.length)(h:∀x∈l,∀y,(aE AP).p 20 [x.pv,y.pv]=some [.bool (decide (x=y))]):∀(n i:Nat),l.length-i=n->i<=l.length->
   cl AP g57L0 ⟨[(0,.pv (.ae (l.map Ty.pv))),(1,.pv (.ae (bs.map Ty.pv))),(5,.pv (.int .i64 i))],[],[],[]⟩=
     if l.drop i=bs.drop i then some (.exit 0,⟨[(0,.pv (.ae (l.map Ty.pv))),(1,.pv (.ae (bs.map Ty.pv))),(5,.pv (.int .i64 l.length)),(14,.pv (.bool false))],[],[],[]⟩)
     else some (.ret,⟨[(4,.pv (.bool false))],[],[],[]⟩)
 |0,i,hn,hi=>by
  have:i=l.length:=by omega
  subst this;rw[g57L0e];simp[g57B0,hl]
 |n+1,i,hn,hi=>by
  have hi:i<l.length:=(by omega);obtain⟨x,hx⟩:=aR hi;obtain⟨y,hy⟩:=aR (hl ▸ hi);have b:=h x (aM hx) y;simp at b;rw[g57L0e,aZ hx,aZ hy];unfold Sm at hS;have a:=L57 hS hl h n (i+1) (by omega) (by omega);simp at a;simp(disch:=omega)[-getElem?_pos,g57B0,hx,hy,hi,b,aq,a];by_cases e:x=y<;>simp[e]
def c57(hS:Sm l)(h:∀x∈l,∀y,(aE AP).p 20 [x.pv,y.pv]=some [.bool (decide (x=y))]):
   (aE AP).p 57 [.ae (l.map Ty.pv),.ae (bs.map Ty.pv)]=some [.bool (decide (l=bs))]:=by
 rw[aB g57];by_cases hl:l.length=bs.length
 .have a:=L57 hS hl h _ 0 rfl (by omega);simp at a;simp[g57,hl,a];by_cases e:l=bs<;>simp[e]
 .have:¬l=bs:=fun e=>hl (by rw[e]);simp[g57,hl,this];omega
def c20{a:Ty}(c:a.Ok):(aE AP).p 20 [a.pv,b.pv]=some [.bool (decide (a=b))]:=by
 revert b c
 refine Ty.cb (p:=fun a=>∀{b:Ty},a.Ok->(aE AP).p 20 [a.pv,b.pv]=some [.bool (decide (a=b))]) ?_ a;intro a d b c;have h:=c57 (bs:=b.args) c.sm (fun x hx y=>d x hx (c.df x hx));rw[aB g20];simp[g20,h];cases a;cases b;simp
 (repeat' split)<;>simp_all
def jP(a b:Int):Int:=if a<b then -1 else if b<a then 1 else 0
def wR(a b:List UInt8):Int:=if cU.eV a b=true then -1 else if a=b then 0 else 1
def EM:List Int->Int
 |[]=>0
 |x::r=>if x=0 then EM r else x
mutual
def pz:Ty->Ty->Int
 |⟨k,n,i,h,as⟩,b=>if EM [jP k b.kind,wR n b.name,jP i b.id,jP h b.home,jP as.length b.args.length]=0 then ri as b.args
     else EM [jP k b.kind,wR n b.name,jP i b.id,jP h b.home,jP as.length b.args.length]
def ri:List Ty->List Ty->Int
 |[],[]=>0
 |[],_::_=>-1
 |_::_,[]=>1
 |a::r,b::s=>if pz a b=0 then ri r s else pz a b
end
def A1(a b:Ty):Int:=EM [jP a.kind b.kind,wR a.name b.name,jP a.id b.id,jP a.home b.home,jP a.args.length b.args.length]
def A3(a b:Ty):pz a b=if A1 a b=0 then ri a.args b.args else A1 a b:=by
 cases a;simp only[pz,A1];rfl
def c113:(aE AP).p 113 [vI n]=some [.bool false]:=by
 rw[aB g113];simp[g113]
def c114{n:List UInt8}:(aE AP).p 114 [.str n]=some [.bool false]:=by
 rw[aB g114];simp[g114]
def c81{a b:Int}:(aE AP).p 81 [vI a,vI b]=some [vI (jP a b)]:=by
 have h1:=c113 (n:=a);have h2:=c113 (n:=b);rw[aB g81];simp[g81,h1,h2,jP]
 (repeat' split)<;>rfl
def c82{a b:List UInt8}:(aE AP).p 82 [.str a,.str b]=some [vI (wR a b)]:=by
 have h1:=c114 (n:=a);have h2:=c114 (n:=b);rw[aB g82];by_cases e1:cU.eV a b=true
 .simp[g82,h1,h2,wR,e1]
 .have e1:cU.eV a b=false:=(by simpa using e1);by_cases e2:a=b
  .subst e2;simp[g82,h1,h2,wR,e1]
  .simp[g82,h1,h2,wR,e1,e2]
def c80{a b c d e:Int}:(aE AP).p 80 [.ae [vI a,vI b,vI c,vI d,vI e]]=some [vI (EM [a,b,c,d,e])]:=by
 rw[aB g80];by_cases h1:a=0
 .by_cases h2:b=0
  .by_cases h3:c=0
   .by_cases h4:d=0
    .by_cases h5:e=0
     .simp(disch:=omega)[-getElem?_pos,g80,g80L0e,g80B0,aq,EM,h1,h2,h3,h4,h5]
     .simp(disch:=omega)[-getElem?_pos,g80,g80L0e,g80B0,aq,EM,h1,h2,h3,h4,h5]
    .simp(disch:=omega)[-getElem?_pos,g80,g80L0e,g80B0,aq,EM,h1,h2,h3,h4]
   .simp(disch:=omega)[-getElem?_pos,g80,g80L0e,g80B0,aq,EM,h1,h2,h3]
  .simp(disch:=omega)[-getElem?_pos,g80,g80L0e,g80B0,aq,EM,h1,h2]
 .simp(disch:=omega)[-getElem?_pos,g80,g80L0e,g80B0,aq,EM,h1]
def R83(as bs:List Ty)(sh:Sh)(l:Int)(c:Int)(eq:Bool):Option (aX×St):=
 if eq=true then some (.exit 0,⟨[(0,.pv (.ae (as.map Ty.pv))),(1,.pv (.ae (bs.map Ty.pv))),(2,.fn 35 []),(11,.pv (.ae (as.map Ty.pv))),(12,.pv (vI l)),(13,.pv (vI l)),(14,.pv (.bool false))],[],sh,[]⟩)
 else some (.ret,⟨[(6,.pv (vI c))],[],sh,[]⟩)
def L83(hS:Sm S)(hl:S.length=bs.length)(h:∀x∈S,∀y,(aE AP).i 35 [.pv x.pv,.pv y.pv] [] []=some ([.pv (vI (pz x y))],[],[])):∀(n i:Nat),S.length-i=n->i<=S.length->
   cl AP g83L0 ⟨[(0,.pv (.ae (S.map Ty.pv))),(1,.pv (.ae (bs.map Ty.pv))),(2,.fn 35 []),(11,.pv (.ae (S.map Ty.pv))),(12,.pv (vI S.length)),(13,.pv (vI i))],[],[],[]⟩=
     R83 S bs [] S.length (ri (S.drop i) (bs.drop i)) (decide (ri (S.drop i) (bs.drop i)=0))
 |0,i,hn,hi=>by
  have:i=S.length:=by omega
  subst this;rw[g83L0e,yZ (l:=bs) (by omega)];simp[g83B0,R83,ri]
 |n+1,i,hn,hi=>by
  have hi:i<S.length:=(by omega);obtain⟨x,hx⟩:=aR hi;obtain⟨y,hy⟩:=aR (hl ▸ hi);have a:=h x (aM hx) y;have b:=L83 hS hl h n (i+1) (by omega) (by omega);unfold Sm at hS;have c:¬bs.length<=i:=(by omega);rw[g83L0e]at b⊢;rw[aZ hx,aZ hy];simp at b a;by_cases e:pz x y=0
  .rw[e]at a;simp(disch:=omega)[-getElem?_pos,g83B0,hx,hy,hi,c,a,aq];rw[g83L0e];simp[b,ri,e]
  .simp(disch:=omega)[-getElem?_pos,g83B0,hx,hy,hi,c,a,aq,e,R83,ri]
def PQ(h:A1 E b=0):E.args.length=b.args.length:=by
 simp only[A1,EM]at h
 have:jP E.args.length b.args.length=0:=by
  split at h
  .split at h
   .split at h
    .split at h
     .split at h
      .assumption
      .contradiction
     .contradiction
    .contradiction
   .contradiction
  .contradiction
 unfold jP at this;split at this
 .cases this
 .split at this
  .cases this
  .omega
def c35_both{a:Ty}(n:a.Ok):∀b:Ty,(aE AP).p 35 [a.pv,b.pv]=some [vI (pz a b)]/\(aE AP).i 35 [.pv a.pv,.pv b.pv] [] []=some ([.pv (vI (pz a b))],[],[]):=by
 revert n
 refine Ty.cb (p:=fun a=>a.Ok->∀b:Ty,(aE AP).p 35 [a.pv,b.pv]=some [vI (pz a b)]/\(aE AP).i 35 [.pv a.pv,.pv b.pv] [] []=some ([.pv (vI (pz a b))],[],[])) ?_ a;intro a q n b;have m:=c81 (a:=a.kind) (b:=b.kind);have k2:=c82 (a:=a.name) (b:=b.name);have l:=c81 (a:=a.id) (b:=b.id);have k:=c81 (a:=a.home) (b:=b.home);have j:=c81 (a:=a.args.length) (b:=b.args.length);have f:=c80 (a:=jP a.kind b.kind) (b:=wR a.name b.name) (c:=jP a.id b.id) (d:=jP a.home b.home) (e:=jP a.args.length b.args.length);have r:EM [jP a.kind b.kind,wR a.name b.name,jP a.id b.id,jP a.home b.home,jP a.args.length b.args.length]=A1 a b:=rfl;rw[r]at f;have hS:=n.sm;by_cases e:A1 a b=0
 .have hl:=PQ e;have h:=L83 hS hl (fun x hx y=>(q x hx (n.df x hx) y).2) _ 0 rfl (by omega);rw[g83L0e]at h;simp at h
  have g:(aE AP).i 83 [.pv (.ae (a.args.map Ty.pv)),.pv (.ae (b.args.map Ty.pv)),.fn 35 []] [] []=some ([.pv (vI (ri a.args b.args))],[],[]):=by
   rw[aC g83];by_cases e2:ri a.args b.args=0
   .simp[R83,e2]at h;have o:¬a.args.length<b.args.length:=by omega
    simp[g83,g83L0e,h,o,e2]
   .simp[R83,e2]at h;simp[g83,g83L0e,h]
  rw[e]at f;rw[A3,zai e];constructor
  .rw[aB g35];simp[g35,m,k2,l,k,j,f,g]
  .rw[aC g35];simp[g35,m,k2,l,k,j,f,g]
 .rw[A3,zad e];constructor
  .rw[aB g35];simp[g35,m,k2,l,k,j,f,e]
  .rw[aC g35];simp[g35,m,k2,l,k,j,f,e]
def c35(c:E.Ok):(aE AP).p 35 [E.pv,b.pv]=some [vI (pz E b)]:=(c35_both c b).1
def c33{a:Ty}(c:a.Ok):(aE AP).p 33 [a.pv,b.pv]=some [.bool (pz a b == 0)]:=by
 have h:=c35 (b:=b) c;simp at h;rw[aB g33];simp[g33,h]
def eW:∀{s:List As}{id:Int}{t:Ty},cR s id=some t->∃a∈s,a.ty=t
 |a::r,id,t,h=>by
  simp only[cR]at h;split at h
  .cases h;exact⟨a,by simp,rfl⟩
  .obtain⟨b,c,e⟩:=eW h;exact⟨b,by simp[c],e⟩
def qk(hs:∀a∈I,a.ty.Ok)(h:E.Ok):(E.sub I).Ok:=by
 revert h
 refine Ty.cb (p:=fun E=>E.Ok->(E.sub I).Ok) ?_ E;intro E c h;rw[Ty.sub_eq];split
 .cases hf:cR I E.id with
  |none=>simpa using h
  |some a=>obtain⟨b,d,rfl⟩:=eW hf;simpa using hs b d
 .refine⟨by have:=h.sm;unfold Sm at*;simpa using this,?_⟩;intro x hx;simp at hx;obtain⟨y,hy,rfl⟩:=hx;exact c y hy (h.df y hy)
def A4:∀{a b:List As}{id:Int},cR (a++b) id=(cR a id).or (cR b id)
 |[],b,id=>by simp[cR]
 |x::a,b,id=>by
  simp only[za2,cR];split
  .rfl
  .exact A4
theorem t6:∀s:List UInt8,cU.eV s s=false
 |[]=>rfl
 |a::r=>by simp[cU.eV,t6 r]
def MR{B b:Int}:jP B b=0<->B=b:=by
 unfold jP;split
 .constructor
  .intro h;cases h
  .intro h;omega
 .split
  .constructor
   .intro h;cases h
   .intro h;omega
  .constructor
   .intro _;omega
   .intro _;rfl
def MS{b:List UInt8}:wR F b=0<->F=b:=by
 unfold wR;split
 .rename_i h;constructor
  .intro e;cases e
  .intro e;subst e;rw[t6]at h;cases h
 .split
  .rename_i h;simp[h]
  .rename_i h;simp[h]
def DK:∀{l:List Int},EM l=0<->∀x∈l,x=0
 |[]=>by simp[EM]
 |x::r=>by
  simp only[EM];split
  .rename_i h;rw[DK];simp[h]
  .rename_i h;constructor
   .intro e;exact absurd e h
   .intro e;exact e x (by simp)
def y3:A1 E b=0<->E.kind=b.kind/\E.name=b.name/\E.id=b.id/\E.home=b.home/\E.args.length=b.args.length:=by
 unfold A1;rw[DK];simp[MR,MS]
 intros;omega
def y4(a:Ty):∀b,pz a b=0<->a=b:=by
 refine Ty.cb (p:=fun a=>∀b,pz a b=0<->a=b) ?_ a;intro a d b
 have key:∀(as bs:List Ty),(∀x∈as,∀b,pz x b=0<->x=b)->(ri as bs=0<->as=bs):=by
  intro as;induction as with
  |nil=>intro bs _;cases bs<;>simp[ri]
  |cons x r d=>
   intro bs h;cases bs with
   |nil=>simp[ri]
   |cons y s=>
    simp only[ri];have hx:=h x (by simp) y;have hr:=d s (fun z f=>h z (by simp[f]));split
    .rename_i e;rw[hr];simp[hx.1 e]
    .rename_i e;constructor
     .intro c;exact absurd c e
     .intro c;simp at c;exact absurd (hx.2 c.1) e
 rw[A3];split
 .rename_i h;rw[key _ _ d];rw[y3]at h;cases a;cases b;simp at h⊢;simp[h]
 .rename_i h;constructor
  .intro e;exact absurd e h
  .intro e;subst e;exact absurd (y3.2 ⟨rfl,rfl,rfl,rfl,rfl⟩) h
def wS(a b:Ty):(pz a b == 0)=decide (a=b):=by
 by_cases h:a=b
 .rw[zaE h,(y4 a b).2 h];rfl
 .rw[zaB h];simpa using fun e=>h ((y4 a b).1 e)
def c33e{a:Ty}(c:a.Ok):(aE AP).p 33 [a.pv,b.pv]=some [.bool (decide (a=b))]:=by rw[c33 c,wS]
def bI(p:α->Bool):List α->Option Nat
 |[]=>none
 |a::r=>if p a=true then some 0 else(bI p r).map (·+1)
def kE{p:α->Bool}:∀{l:List α},bI p l=none<->∀x∈l,p x=false
 |[]=>by simp[bI]
 |a::r=>by
  simp only[bI];by_cases h:p a=true
  .simp[h]
  .have h:p a=false:=(by simpa using h);simp[h,kE]
theorem uT{p:α->Bool}{l:List α}:(!(l.any fun x=>!p x))=l.all p:=by
 induction l with
 |nil=>rfl
 |cons a r b=>simp[<-b]
structure El{α:Type}(f:α->PV)(sz:Nat)(ag:Bool):Prop where
 len:∀x,(bp (f x)).length=sz
 of:∀x,cV ag sz (bp (f x))=some (.pv (f x))
theorem El.head{f:α->PV}(h:El f sz ag)(l:List α):bj sz (l.map f)=true:=by
 cases l with
 |nil=>rfl
 |cons x r=>simp[bj,h.len x]
def gL:El vI 1 false:=⟨fun _=>rfl,fun _=>rfl⟩
def HY:El PV.str 1 false:=⟨fun _=>rfl,fun _=>rfl⟩
def mo:El Ty.pv 5 true:=⟨fun x=>by simp,fun x=>by simp⟩
def aav:El As.pv 6 true:=⟨fun x=>by simp,fun x=>by simp⟩
def aaw:El Dt.pv 4 true:=⟨fun x=>by simp,fun x=>by simp⟩
def A5(sz:Nat)(ag:Bool):ah:=
 (.seq
  (.ka [⟨some 9,none,[.t 8,.t 7],.v (.bin .lss)⟩] [0,1,7,8,9])
  (.seq
   (.cond (.t 9)
    .skip
    (.exit 0))
   (.seq
    (.block 1
     (.seq
      (.ka [⟨some 10,none,[.t 8],.v (.mv)⟩,
        ⟨some 5,none,[.t 10],.v (.mv)⟩] [0,1,5,7,8])
      (.seq
       (.ka [⟨some 11,none,[.t 1],.v (.mv)⟩,
         ⟨some 12,none,[.t 0],.v (.mv)⟩,
         ⟨some 13,none,[.t 5],.v (.mv)⟩,
         ⟨some 14,none,[.t 12,.t 13],.v (.fK sz)⟩,
         ⟨some 15,none,[.t 14],.ej sz ag⟩,
         ⟨some 16,none,[.t 11,.t 15],.h_⟩] [0,1,5,7,8,16])
       (.cond (.t 16)
        (.seq
         (.ka [⟨some 17,none,[.t 5],.v (.mv)⟩,
           ⟨some 4,none,[.t 17],.v (.mv)⟩] [4])
         .ret)
        .skip))))
    (.ka [⟨some 18,none,[.t 8,.c (.pv (.int .i64 1))],.v (.bin .add)⟩,
      ⟨some 8,none,[.t 18],.v (.mv)⟩] [0,1,7,8]))))
def PR(sz:Nat)(ag:Bool):ah:=.loop [0,1,7,8] (A5 sz ag)
def rj:cl AP (PR sz ag) st=after (cl AP (PR sz ag)) (cl AP (A5 sz ag) (norm (restrict [0,1,7,8] st))):=uP
def uy(sz:Nat)(ag:Bool):aw:=⟨2,19,[.t 4],
 (.seq
  (.ka [⟨some 4,none,[.c (.pv (.int .i64 0))],.v (.mv)⟩] [0,1])
  (.seq
   (.seq
    (.ka [⟨some 6,none,[.t 0],.v (.mv)⟩,
      ⟨some 7,none,[.t 6],.v (.len)⟩,
      ⟨some 8,none,[.c (.pv (.int .i64 0))],.v (.mv)⟩] [0,1,7,8])
    (.block 0
     (PR sz ag)))
   (.seq
    (.ka [⟨some 4,none,[.c (.pv (.int .i64 (-1)))],.v (.mv)⟩] [4])
    .ret))),none,false⟩
def Yc(g:Nat):aw:=⟨2,9,[.t 4],
 (.seq
  (.ka [⟨some 4,none,[.c (.pv (.bool false))],.v (.mv)⟩] [0,1])
  (.seq
   (.ka [⟨some 5,none,[.t 0],.v (.mv)⟩,
     ⟨some 6,none,[.t 1],.v (.mv)⟩,
     ⟨some 7,none,[.t 5,.t 6],.bg g []⟩,
     ⟨some 8,none,[.t 7,.c (.pv (.int .i64 0))],.v (.bin .geq)⟩,
     ⟨some 4,none,[.t 8],.v (.mv)⟩] [4])
   .ret)),none,false⟩
def HZ(F:AV)(sh:Sh)(f:α->PV)(p:α->Bool)(s:List α):Prop:=∀x∈s,exec (aE AP) .h_ [F,.pv (f x)] none sh []=some ⟨.pv (.bool (p x)),none,sh,[]⟩
def MT(f:α->PV)(F:AV)(s:List α)(sh:Sh)(i:Nat):Option Nat->Option (aX×St)
 |some k=>some (.ret,⟨[(4,.pv (vI (i+k:Nat)))],[],sh,[]⟩)
 |none=>some (.exit 0,⟨[(0,.pv (.ae (s.map f))),(1,F),(7,.pv (vI s.length)),(8,.pv (vI s.length)),(9,.pv (.bool false))],[],sh,[]⟩)
theorem aax{f:α->PV}(b:El f sz ag){s:List α}(hS:Sm s)(c:aY sh){p:α->Bool}(a:bB.ep cap=true)
   (hf:HZ (.fn g cap) sh f p s):∀(n i:Nat),s.length-i=n->i<=s.length->
   cl AP (PR sz ag) ⟨[(0,.pv (.ae (s.map f))),(1,.fn g cap),(7,.pv (vI s.length)),(8,.pv (vI i))],[],sh,[]⟩=MT f (.fn g cap) s sh i (bI p (s.drop i))
 |0,i,hn,hi=>by
  have:i=s.length:=by omega
  subst this;rw[rj];simp[A5,bI,MT,c.norm,a]
 |n+1,i,hn,hi=>by
  have hi:i<s.length:=(by omega);obtain⟨x,hx⟩:=aR hi;unfold Sm at hS;have h:=aax b hS c a hf n (i+1) (by omega) (by omega);simp at h;have d:=hf x (aM hx);rw[rj,aZ hx];cases e:p x with
  |true=>
   rw[e]at d;simp(disch:=omega)[-getElem?_pos,-fE,A5,hx,hi,e,bI,MT,c.norm,d,a,b.len,b.of]
  |false=>
   rw[e]at d;simp(disch:=omega)[-getElem?_pos,-fE,A5,hx,hi,e,bI,aq,c.norm,d,h,a,b.len,b.of];cases bI p (s.drop (i+1))with
   |none=>rfl
   |some k=>simp[MT];omega
def mq(o:Option Nat):Int:=match o with|some k=>k|none=>-1
def aay{f:α->PV}(d:El f sz ag){k:Nat}(c:AP k=some (uy sz ag)){s:List α}(hS:Sm s)(b:aY sh){p:α->Bool}(a:bB.ep cap=true)
   (hf:HZ (.fn g cap) sh f p s):(aE AP).i k [.pv (.ae (s.map f)),.fn g cap] sh []=some ([.pv (vI (mq (bI p s)))],sh,[]):=by
 have h:=aax d hS b a hf _ 0 rfl (by omega);simp at h;rw[fF c (by simp[uy])];cases hi:bI p s with
 |none=>rw[hi]at h;simp[MT]at h;simp[uy,h,b.norm,a,mq]
 |some k=>rw[hi]at h;simp[MT]at h;simp[uy,h,b.norm,a,mq]
theorem wT{p:α->Bool}{s:List α}:decide (0<=mq (bI p s))=s.any p:=by
 cases hi:bI p s with
 |none=>
  have:s.any p=false:=by rw[zbl];intro x hx;rw[kE.1 hi x hx];simp
  rw[this];rfl
 |some k=>
  have:s.any p=true:=by
   cases e:s.any p with
   |true=>rfl
   |false=>rw[zbl]at e;have:=kE.2 (fun x hx=>by simpa using e x hx);rw[hi]at this;cases this
  rw[this];simp[mq]
def TX{f:α->PV}(j:El f sz ag){k:Nat}(hm:AP m=some (Yc k))(e:AP k=some (uy sz ag)){s:List α}(hS:Sm s)(d:aY sh){p:α->Bool}(a:bB.ep cap=true)(b:bU.ji cap=true)(c:∀aQ ts,bo aQ ts cap=(cap,aQ,ts))
   (hf:HZ (.fn g cap) sh f p s):(aE AP).i m [.pv (.ae (s.map f)),.fn g cap] sh []=some ([.pv (.bool (s.any p))],sh,[]):=by
 have h:=aay j e hS d a hf;rw[fF hm (by simp[Yc])];rw[<-wT];simp[Yc,h,d.norm,d.shift,a,b,c]
def H0(f:St->Option (aX×St))(live:List Nat)(pi px sz:Nat)(ag:Bool)(env:List (Nat×AV))(r:List (PV×Nat)):Option (aX×St)->Option (aX×St)
 |some (.normal,a)=>iK f live pi px sz ag env r a
 |some (e,a)=>some (e,{a with env:=env})
 |none=>none
@[simp] theorem So{pi px:Nat}{Q:List (PV×Nat)}:H0 f live pi px sz ag env Q (some (.normal,st))=iK f live pi px sz ag env Q st:=rfl
@[simp] theorem Yd{f:St->Option (aX×St)}{live:List Nat}{pi px sz:Nat}{ag:Bool}{env R:List (Nat×AV)}{Q:List (PV×Nat)}{mem:List (Nat×List AV)}{sh:Sh}{aa:aH}:H0 f live pi px sz ag env Q (some (.ret,⟨R,mem,sh,aa⟩))=some (.ret,⟨env,mem,sh,aa⟩):=rfl
@[simp] theorem ZK{f:St->Option (aX×St)}{live:List Nat}{pi px sz:Nat}{ag:Bool}{env R:List (Nat×AV)}{mem:List (Nat×List AV)}{sh:Sh}{aa:aH}:iK f live pi px sz ag env [] ⟨R,mem,sh,aa⟩=some (.normal,⟨env,mem,sh,aa⟩):=rfl
theorem wU{α:Type}{g:α->PV}{f:St->Option (aX×St)}{live:List Nat}{pi px sz:Nat}{ag:Bool}(a:El g sz ag){env R:List (Nat×AV)}{mem:List (Nat×List AV)}{sh:Sh}{aa:aH}{x:α}{i:Nat}{Q:List (PV×Nat)}:
   iK f live pi px sz ag env ((g x,i)::Q) ⟨R,mem,sh,aa⟩=H0 f live pi px sz ag env Q (f (norm (restrict live ⟨dh (dh env pi (.pv (.int .i64 i))) px (.pv (g x)),mem,sh,aa⟩))):=by
 have h:uq sz ag (g x)=some (.pv (g x)):=by simp[uq,a.len,a.of]
 simp only[iK,h];generalize f (norm (restrict live ⟨dh (dh env pi (.pv (.int .i64 i))) px (.pv (g x)),mem,sh,aa⟩))=q;cases q with
 |none=>rfl
 |some q=>obtain⟨R,s⟩:=q;cases R<;>rfl
def Ye(g:St->Option (aX×St)):Option (aX×St)->Option (aX×St)
 |some (.normal,a)=>g a
 |_=>none
theorem ql{U:St->Option (aX×St)}:andThen f U st=Ye U (f st):=by
 unfold andThen Ye;cases f st with
 |none=>rfl
 |some q=>obtain⟨e,s⟩:=q;cases e<;>rfl
@[simp] theorem V7:Ye f (some (.normal,st))=f st:=rfl
def t7{f:St->Option (aX×St)}{gb s pi px sz:Nat}{ag:Bool}{live:List Nat}{env:List (Nat×AV)}{mem:List (Nat×List AV)}{sh:Sh}{aa:aH}{l:List PV}(h:sh[s]?=some (some [.pv (.ae l)]))(hl:l.length<4611686018427387904):
   fR f (some (.fn gb [.aL s 0])) gb pi px sz ag live ⟨env,mem,sh,aa⟩=iK f live pi px sz ag (iX live env) l.zipIdx.reverse ⟨env,mem,kill sh [s],aa⟩:=by
 unfold fR;simp only[za4,h,hl]
def PS{l:List α}{k:Nat}{x:α}(h:l[k]?=some x):(l.take (k+1)).zipIdx.reverse=(x,k)::(l.take k).zipIdx.reverse:=by
 have a:=(zaa.1 h).1;rw[zaM,h];simp[List.zipIdx_append];omega
@[simp] theorem aaz{c:fp}{gb pi px:Nat}{x y:ah}{aa:aH}:
   cl AP (.back c gb pi px sz ag live x y) ⟨env,mem,sh,aa⟩=fR (andThen (cl AP x) (cl AP y)) (iJ env c) gb pi px sz ag live ⟨env,mem,sh,aa⟩:=SP
abbrev vC(c:Int):PV:=.int .u8 c
def aaA(c:Int):Bool:=decide (97<=c) && decide (c<=122)
def ack(c:Int):Bool:=decide (65<=c) && decide (c<=90)
def aaB(c:Int):Bool:=decide (48<=c) && decide (c<=57)
def PT(c:Int):Bool:=aaA c || ack c || aaB c || (c == 95)
def qm(s:List UInt8):Bool:=s.all fun b=>PT b.toNat
def PU:List (List UInt8):=[[100,97,116,97],[108,101,116],[114,101,99],[105,110],[99,97,115,101],[111,102],[101,110,100]]
def PW(s:List UInt8):Bool:=PU.contains s
def mr(s:List UInt8)(lo hi:Int):Bool:=match s with
 |[]=>false
 |b::r=>decide (lo<=b.toNat) && decide ((b.toNat:Int)<=hi) && decide ((b::r).length<=12) && qm (b::r) && !PW (b::r)
theorem DL{b:UInt8}:qm (b::F)=(PT b.toNat && qm F):=rfl
theorem H6:qm []=true:=rfl
def L73(hS:qE F):∀(n i:Nat),F.length-i=n->i<=F.length->
   cl AP g73L0 ⟨[(0,.pv (.str F)),(31,.pv (vI F.length)),(32,.pv (vI i))],[],[],[]⟩=
     if qm (F.drop i)=true then some (.exit 0,⟨[(0,.pv (.str F)),(31,.pv (vI F.length)),(32,.pv (vI F.length)),(33,.pv (.bool false))],[],[],[]⟩)
     else some (.ret,⟨[(6,.pv (.bool false))],[],[],[]⟩)
 |0,i,hn,hi=>by
  have:i=F.length:=by omega
  subst this;rw[g73L0e];simp[g73B0,H6]
 |n+1,i,hn,hi=>by
  have hi:i<F.length:=(by omega);obtain⟨x,hx⟩:=aR hi;unfold qE at hS;have r:=L73 hS n (i+1) (by omega) (by omega);simp at r;rw[g73L0e,aZ hx,DL];have key:PT x.toNat=((decide (97<=(x.toNat:Int)) && decide ((x.toNat:Int)<=122))|| (decide (65<=(x.toNat:Int)) && decide ((x.toNat:Int)<=90))|| (decide (48<=(x.toNat:Int)) && decide ((x.toNat:Int)<=57))|| ((x.toNat:Int)== 95)):=rfl;rw[key];have a:∃c:Int,c=x.toNat:=⟨_,rfl⟩;obtain⟨c,a⟩:=a;have t:(97<=(x.toNat:Int))=(97<=c):=(by rw[a]);rw[<-a]
  have b:∀b1 j h g e d f:Bool,decide (97<=c)=b1->decide (c<=122)=j->decide (65<=c)=h->decide (c<=90)=g->decide (48<=c)=e->decide (c<=57)=d->(c == 95)=f->
      after (cl AP g73L0) (cl AP g73B0 (norm (restrict [0,31,32] ⟨[(0,.pv (.str F)),(31,.pv (vI F.length)),(32,.pv (vI i))],[],[],[]⟩)))=
      if (((b1 && j)|| (h && g)|| (e && d)|| f) && qm (F.drop (i+1)))=true then some (.exit 0,⟨[(0,.pv (.str F)),(31,.pv (vI F.length)),(32,.pv (vI F.length)),(33,.pv (.bool false))],[],[],[]⟩)
      else some (.ret,⟨[(6,.pv (.bool false))],[],[],[]⟩):=by
    intro b1 j h g e d f h1 h2 h3 h4 h5 h6 h7;have g8:decide (c<48)=!e:=by rw[<-h5,<-zdh];simp[zdl]
    have g9:decide (57<c)=!d:=by rw[<-h6,<-zdh];simp[zdl]
    cases b1<;>cases h<;>cases e<;>cases j<;>cases g<;>cases d<;>cases f <;>
      (have q:=h1;have k2:=h2;have p:=h3;have o:=h4;have m:=h5;have l:=h6;have k:=h7
       simp only[zaS,zbg,zb7,beq_eq_false_iff_ne,ne_eq]at q k2 p o m l k
       first
       |(exfalso;omega)
       |(simp(disch:=omega)[-getElem?_pos,g73B0,hx,hi,<-a,q,k2,p,o,m,l,k,g8,g9,aq,r];done))
  exact b _ _ _ _ _ _ _ rfl rfl rfl rfl rfl rfl rfl
def c73(hS:qE F){lo hi:Int}:(aE AP).p 73 [.str F,vC lo,vC hi]=some [.bool (mr F lo hi)]:=by
 have h:=L73 hS _ 0 rfl (by omega);simp at h;rw[aB g73];cases F with
 |nil=>simp[g73,mr]
 |cons b r=>
  by_cases e3:r.length+1<=12
  .have a:¬((12:Int)<r.length+1):=(by omega);have e0:¬((r.length:Int)+1<1):=(by omega);by_cases e1:(b.toNat:Int)<lo
   .have d:¬(lo<=(b.toNat:Int)):=(by omega);simp[g73,mr,e0,a,e1,d]
   .have d:lo<=(b.toNat:Int):=(by omega);by_cases e2:hi<(b.toNat:Int)
    .have c:¬((b.toNat:Int)<=hi):=(by omega);simp[g73,mr,e0,a,e1,e2,c]
    .have c:(b.toNat:Int)<=hi:=(by omega);cases e4:qm (b::r)
     .simp[e4]at h;simp[g73,mr,e0,a,e1,e2,d,c,h,e4]
     .simp[e4]at h;cases e5:PW (b::r)
      .have k:∀k∈PU,¬(b::r)=k:=by
        intro k n e;rw[e]at e5;simp only[PW]at e5;rw[List.contains_eq_mem]at e5;simp at e5;exact e5 n
       have m:=k [100,97,116,97] (by simp[PU]);have k2:=k [108,101,116] (by simp[PU]);have l:=k [114,101,99] (by simp[PU]);have j:=k [105,110] (by simp[PU]);have i:=k [99,97,115,101] (by simp[PU]);have g:=k [111,102] (by simp[PU]);have f:=k [101,110,100] (by simp[PU]);have b1:((b::r)== [100,97,116,97])=false:=(by simpa using m);have w:((b::r)== [108,101,116])=false:=(by simpa using k2);have v:((b::r)== [114,101,99])=false:=(by simpa using l);have u:((b::r)== [105,110])=false:=(by simpa using j);have t:((b::r)== [99,97,115,101])=false:=(by simpa using i);have q:((b::r)== [111,102])=false:=(by simpa using g);have o:((b::r)== [101,110,100])=false:=(by simpa using f);simp[g73,mr,e0,a,e1,e2,d,c,h,e4,e5,e3,-List.cons_beq_cons,b1,w,v,u,t,q,o]
      .simp only[PW,PU,zcO,zah,zch,or_false]at e5
       rcases e5 with e|e|e|e|e|e|e<;>(simp only[zbz]at e;obtain⟨rfl,rfl⟩:=e)<;>
         simp[mr,PW,PU]<;>(simp at e1 e2 h d c;simp[g73,h,e1,e2])
  .have a:(12:Int)<r.length+1:=(by omega);simp[g73,mr,a,e3]
def i7(s:List UInt8)(n:Nat):Bool:=if s=[45,62]then decide (n=2)else if s=[73,110,116]then decide (n=0)else mr s 65 90 && decide (n<=4)
def c74(hS:qE F){n:Nat}:(aE AP).p 74 [.str F,vI n]=some [.bool (i7 F n)]:=by
 have h:=c73 hS (lo:=65) (hi:=90);rw[aB g74];by_cases e1:F=[45,62]
 .have:((n:Int)== 2)=decide (n=2):=by rw[za0];simp;omega
  subst e1;simp[g74,i7,this]
 .have b1:(F == [45,62])=false:=(by simpa using e1);by_cases e2:F=[73,110,116]
  .have:((n:Int)== 0)=decide (n=0):=by rw[za0];simp
   subst e2;simp[g74,i7,this]
  .have a:(F == [73,110,116])=false:=(by simpa using e2);have:decide ((n:Int)<=4)=decide (n<=4):=(by rw[za0];simp;omega);cases e3:mr F 65 90<;>simp[e3]at h<;>simp[g74,i7,e1,e2,b1,a,h,e3,this]
mutual
def dx:Ty->Bool
 |⟨k,n,i,h,as⟩=>
  if k=1\/k=2 then decide (n=[]) && decide (as=[]) && decide (0<=i) && decide (i<=1000000) && (h == 0)
  else if k=3 then decide (n=[]) && decide (as=[]) && decide (0<=i) && decide (i<=1000000) && decide (-1<=h) && decide (h<=1000000)
  else if k=5 then decide (as=[]) && (i == 0) && (h == 0) && mr n 97 122
  else if k=4 then(i == 0) && (h == 0) && i7 n as.length && wV as
  else false
def wV:List Ty->Bool
 |[]=>true
 |a::r=>dx a && wV r
end
def wW:∀l:List Ty,wV l=l.all dx
 |[]=>by simp[wV]
 |a::r=>by simp[wV,wW r]
def gf(t:Ty):dx t =
   if t.kind=1\/t.kind=2 then decide (t.name=[]) && decide (t.args=[]) && decide (0<=t.id) && decide (t.id<=1000000) && (t.home == 0)
   else if t.kind=3 then decide (t.name=[]) && decide (t.args=[]) && decide (0<=t.id) && decide (t.id<=1000000) && decide (-1<=t.home) && decide (t.home<=1000000)
   else if t.kind=5 then decide (t.args=[]) && (t.id == 0) && (t.home == 0) && mr t.name 97 122
   else if t.kind=4 then(t.id == 0) && (t.home == 0) && i7 t.name t.args.length && t.args.all dx
   else false:=by
 cases t;simp only[dx,wW]
def MU(F:AV)(s:List Ty)(sh:Sh)(i:Nat):Option Nat->Option (aX×St)
 |some k=>some (.ret,⟨[(4,.pv (vI (i+k:Nat)))],[],sh,[]⟩)
 |none=>some (.exit 0,⟨[(0,.pv (.ae (s.map Ty.pv))),(1,F),(7,.pv (vI s.length)),(8,.pv (vI s.length)),(9,.pv (.bool false))],[],sh,[]⟩)
theorem aaC(hS:Sm S)(h:aY sh)(b:bB.ep cap=true)(a:bU.ji cap=true)(d:eB [] 1 cap=cap)(c:∀aQ ts,bo aQ ts cap=(cap,aQ,ts))(f:cap.all bQ=true)
   (hf:∀x∈S,(aE AP).i g (.pv x.pv::cap) sh []=some ([.pv (.bool (p x))],sh,[])):∀(n i:Nat),S.length-i=n->i<=S.length->
   cl AP g107L0 ⟨[(0,.pv (.ae (S.map Ty.pv))),(1,.fn g cap),(7,.pv (vI S.length)),(8,.pv (vI i))],[],sh,[]⟩=MU (.fn g cap) S sh i (bI p (S.drop i))
 |0,i,hn,hi=>by
  have:i=S.length:=by omega
  subst this;rw[g107L0e];simp[g107B0,bI,MU,h.norm,b]
 |n+1,i,hn,hi=>by
  have hi:i<S.length:=(by omega);obtain⟨x,hx⟩:=aR hi;unfold Sm at hS;have l:=aaC hS h b a d c f hf n (i+1) (by omega) (by omega);simp at l;have j:=hf x (aM hx);simp at j;rw[g107L0e,aZ hx];cases e:p x with
  |true=>
   rw[e]at j;simp(disch:=omega)[-getElem?_pos,g107B0,hx,hi,e,bI,MU,h.norm,h.shift,j,b,a,d,c,f]
  |false=>
   rw[e]at j;simp(disch:=omega)[-getElem?_pos,g107B0,hx,hi,e,bI,aq,h.norm,h.shift,j,l,b,a,d,c,f];cases bI p (S.drop (i+1))with
   |none=>rfl
   |some k=>simp[MU];omega
theorem c75{s:List Ty}(hS:Sm s)(f:aY sh)(a:bB.ep cap=true)(b:bU.ji cap=true)(j:eB [] 1 cap=cap)(d:∀aQ ts,bo aQ ts cap=(cap,aQ,ts))(l:cap.all bQ=true)
   (hf:∀x∈s,(aE AP).i g (.pv x.pv::cap) sh []=some ([.pv (.bool (p x))],sh,[])):(aE AP).i 75 [.pv (.ae (s.map Ty.pv)),.fn g cap] sh []=some ([.pv (.bool (s.any p))],sh,[]):=by
 have h:=aaC hS f a b j d l hf _ 0 rfl (by omega);simp at h
 have c:(aE AP).i 107 [.pv (.ae (s.map Ty.pv)),.fn g cap] sh []=some ([.pv (vI (match bI p s with|some k=>k|none=>-1))],sh,[]):=by
  rw[aC g107];cases hi:bI p s with
  |none=>rw[hi]at h;simp[MU]at h;simp[g107,h,f.norm,a]
  |some k=>rw[hi]at h;simp[MU]at h;simp[g107,h,f.norm,a]
 rw[aC g75];cases hi:bI p s with
 |none=>
  rw[hi]at c;have:s.any p=false:=by rw[zbl];intro x hx;rw[kE.1 hi x hx];simp
  simp[g75,c,f.norm,f.shift,a,b,d,this]
 |some k=>
  rw[hi]at c
  have:s.any p=true:=by
   cases e:s.any p with
   |true=>rfl
   |false=>rw[zbl]at e;have:=kE.2 (fun x hx=>by simpa using e x hx);rw[hi]at this;cases this
  simp[g75,c,f.norm,f.shift,a,b,d,this]
inductive Ty.Nm:Ty->Prop
 |mk {t:Ty}:qE t.name->(∀x∈t.args,Ty.Nm x)->Ty.Nm t
def Ty.Nm.sm(h:b.Nm):qE b.name:=by cases h;assumption
def Ty.Nm.df(h:b.Nm):∀x∈b.args,x.Nm:=by cases h;assumption
def c29{t:Ty}(b:t.Ok)(hN:t.Nm):(aE AP).p 29 [t.pv]=some [.bool (dx t)]:=by
 revert b hN
 refine Ty.cb (p:=fun t=>t.Ok->t.Nm->(aE AP).p 29 [t.pv]=some [.bool (dx t)]) ?_ t;intro t j b hN;have ht:=c74 hN.sm (n:=t.args.length);have hl:=c73 hN.sm (lo:=97) (hi:=122)
 have k:=c75 b.sm (sh:=[]) (by intro cs h;simp at h) (g:=76) (cap:=[]) (p:=fun x=>!dx x) rfl rfl rfl (fun _ _=>rfl) rfl (by
  intro x hx;have a:=j x hx (b.df x hx) (hN.df x hx);simp at a;rw[aC g76];simp[g76,a])
 have i:=uT (p:=dx) (l:=t.args);rw[aB g29,gf];have h0:((t.args.length:Int)== 0)=decide (t.args=[]):=by rw[za0];simp
 by_cases f:t.kind=1
 .simp[g29,f,h0]
  (repeat' split)<;>simp_all<;>omega
 .by_cases k2:t.kind=2
  .simp[g29,k2,h0]
   (repeat' split)<;>simp_all<;>omega
  .by_cases e:t.kind=3
   .simp[g29,e,h0]
    (repeat' split)<;>simp_all<;>omega
   .by_cases c:t.kind=5
    .simp[g29,c,h0,hl]
     (repeat' split)<;>simp_all<;>omega
    .by_cases d:t.kind=4
     .simp[g29,d,h0,ht,k]
      (repeat' split)<;>simp_all<;>omega
     .simp[g29,f,k2,e,d,c,h0]
abbrev Sc:=As
structure En where
 name:List UInt8
 sc:Sc
 deriving Inhabited
def En.pv(a:En):PV:=.agg [.str a.name,.int .i64 a.sc.id,.int .i64 a.sc.ty.kind,.str a.sc.ty.name,.int .i64 a.sc.ty.id,.int .i64 a.sc.ty.home,.ae (a.sc.ty.args.map Ty.pv)]
@[simp] theorem En.lM(a:En):a.pv=.agg [.str a.name,.int .i64 a.sc.id,.int .i64 a.sc.ty.kind,.str a.sc.ty.name,.int .i64 a.sc.ty.id,.int .i64 a.sc.ty.home,.ae (a.sc.ty.args.map Ty.pv)]:=rfl
@[simp] theorem En.eta(t:En):En.mk t.name t.sc=t:=rfl
def PX:El En.pv 7 true:=⟨fun x=>by simp,fun x=>by simp⟩
noncomputable instance:DecidableEq En:=fun _ _=>Classical.propDecidable _
@[simp] theorem ZL{H:List En}:bj 7 (H.map En.pv)=true:=PX.head H
def dV:Sc:=⟨0,⟨0,[],0,0,[]⟩⟩
def jr:List En->List UInt8->Option Sc
 |[],_=>none
 |a::r,s=>match jr r s with
  |some c=>some c
  |none=>if a.name=s then some a.sc else none
def DM(l:List En)(a:En)(s:List UInt8):jr (l++[a]) s=if a.name=s then some a.sc else jr l s:=by
 induction l with
 |nil=>simp[jr]
 |cons b r c=>
  simp only[za2,jr,c];by_cases h:a.name=s
  .simp[h]
  .simp[h]
def uU(o:Option Sc):List PV:=[(o.getD dV).pv,.bool o.isSome]
def aaD{l:List En}(hS:Sm l){s:List UInt8}:∀(k:Nat),k<=l.length->
   cl AP g181L0 ⟨[(0,.pv (.ae (l.map En.pv))),(1,.pv (.str s)),(4,.au 4 0),(6,.pv (vI ((k:Int)-1)))],[(4,[.pv (vI 0),.pv (vI 0),.pv (.str []),.pv (vI 0),.pv (vI 0),.own [] 0])],[],[0]⟩=
     match jr (l.take k) s with
     |some c=>some (.ret,⟨[(4,.au 4 0),(5,.pv (.bool true))],[(4,[.pv (vI c.id),.pv (vI c.ty.kind),.pv (.str c.ty.name),.pv (vI c.ty.id),.pv (vI c.ty.home),.pv (.ae (c.ty.args.map Ty.pv))])],[],[0]⟩)
     |none=>some (.exit 0,⟨[(0,.pv (.ae (l.map En.pv))),(1,.pv (.str s)),(4,.au 4 0),(6,.pv (vI (-1))),(11,.pv (.bool false))],[(4,[.pv (vI 0),.pv (vI 0),.pv (.str []),.pv (vI 0),.pv (vI 0),.own [] 0])],[],[0]⟩)
 |0,_=>by
  rw[g181L0e];simp[g181B0,jr]
 |k+1,b=>by
  obtain⟨x,hx⟩:=aR (l:=l) (i:=k) (by omega);have a:=aaD hS (s:=s) k (by omega);unfold Sm at hS;have e1:((k+1:Nat):Int)-1=k:=by omega
  rw[g181L0e,e1,zaM,hx];simp only[zcq,DM];by_cases e:x.name=s
  .simp(disch:=omega)[-getElem?_pos,g181B0,hx,e]
  .simp(disch:=omega)[-getElem?_pos,g181B0,hx,e,aq];simpa using a
variable{s:List UInt8}{l:List En}
def c181(hS:Sm l):(aE AP).p 181 [.ae (l.map En.pv),.str s]=some (uU (jr l s)):=by
 have h:=aaD hS (s:=s) l.length (zal _);unfold Sm at hS;rw[aB g181];rw[zbu]at h;rw[g181L0e]at h;cases e:jr l s with
 |none=>
  rw[e]at h;simp at h;simp(disch:=omega)[g181,aq,g181L0e,h,uU,dV]
 |some c=>
  rw[e]at h;simp at h;simp(disch:=omega)[g181,aq,g181L0e,h,uU]
theorem oX:∀{a b:Sh}{aQ ts:aH},bt aQ ts (a++b)=((bt aQ ts a).1++(bt (bt aQ ts a).2.1 (bt aQ ts a).2.2 b).1,(bt (bt aQ ts a).2.1 (bt aQ ts a).2.2 b).2)
 |[],_,_,_=>rfl
 |none::a,b,aQ,ts=>by simp only[za2,qe,oX (a:=a)]
 |some cs::a,b,aQ,ts=>by simp only[za2,qf,oX (a:=a)]
def c210{o:aH}(hn:bt ts [] sh=(sh,o,ts)):(aE AP).i 210 [.pv (.ae (l.map En.pv))] sh ts=some ([.fn 233 [.aL sh.length 0]],sh++[some [.pv (.ae (l.map En.pv))]],ts):=by
 rw[aC g210];simp[g210,oX,hn]
def rm(s:List UInt8):Sh:=[some [.pv (.str s)],some [.pv (vI 0),.pv (vI 0),.pv (.str []),.pv (vI 0),.pv (vI 0),.own [] 0],some [.pv (.bool false)],none]
def j0:List (Nat×AV):=[(3,.aL 0 0),(4,.aL 1 0),(5,.aL 2 0)]
def PY(s:List UInt8)(m:List (Nat×List AV)):Option Sc->Option (aX×St)
 |some c=>some (.ret,⟨j0,m,[some [.pv (.str s)],some [.pv (vI c.id),.pv (vI c.ty.kind),.pv (.str c.ty.name),.pv (vI c.ty.id),.pv (vI c.ty.home),.pv (.ae (c.ty.args.map Ty.pv))],some [.pv (.bool true)],none],[0]⟩)
 |none=>some (.normal,⟨j0,m,rm s,[0]⟩)
def H7(m:List (Nat×List AV)):Prop:=look m 3=none/\look m 4=none/\look m 5=none/\look m 10=none/\look m 11=none
def acm(x:En)(s:List UInt8)(i:Nat)(hm:H7 mem):∃e m,H7 m/\andThen (cl AP g180X0) (cl AP g180Y0) (norm (restrict [3,4,5,10,11] ⟨dh (dh j0 10 (.pv (vI i))) 11 (.pv x.pv),mem,rm s,[0]⟩))=
   if x.name=s then some (.ret,⟨e,m,[some [.pv (.str s)],some [.pv (vI x.sc.id),.pv (vI x.sc.ty.kind),.pv (.str x.sc.ty.name),.pv (vI x.sc.ty.id),.pv (vI x.sc.ty.home),.pv (.ae (x.sc.ty.args.map Ty.pv))],some [.pv (.bool true)],none],[0]⟩)
   else some (.normal,⟨e,m,rm s,[0]⟩):=by
 obtain⟨h1,h2,h3,h4,h5⟩:=hm;by_cases e:x.name=s
 .refine⟨[(4,.aL 1 0),(5,.aL 2 0)],[],by simp[H7],?_⟩;simp[-getElem?_pos,j0,rm,ql,g180X0,g180Y0,e,h1,h2,h3,h4,h5]
 .refine⟨[(3,.aL 0 0),(4,.aL 1 0),(5,.aL 2 0),(7,.au 7 0),(15,.pv (.bool false))],[(7,[.pv (.str x.name),.pv (vI x.sc.id),.pv (vI x.sc.ty.kind),.pv (.str x.sc.ty.name),.pv (vI x.sc.ty.id),.pv (vI x.sc.ty.home),.pv (.ae (x.sc.ty.args.map Ty.pv))])],by simp[H7],?_⟩;simp[-getElem?_pos,j0,rm,ql,g180X0,g180Y0,e,h1,h2,h3,h4,h5]
def acn:∀(k:Nat),k<=l.length->∀e mem,H7 mem->∃m,H7 m /\
   iK (andThen (cl AP g180X0) (cl AP g180Y0)) [3,4,5,10,11] 10 11 7 true j0 (((l.take k).map En.pv).zipIdx.reverse) ⟨e,mem,rm s,[0]⟩=PY s m (jr (l.take k) s):=by
 intro k;induction k with
 |zero=>intro _ e mem hm;exact⟨mem,hm,by simp[jr,PY]⟩
 |succ k c=>
  intro f e mem hm;obtain⟨x,hx⟩:=aR (l:=l) (i:=k) (by omega);have d:=PS (l:=l.map En.pv) (k:=k) (x:=x.pv) (by simp[hx]);obtain⟨e1,m1,a,h1⟩:=acm x s k hm;rw[zbi,d,wU PX,h1,zaM,hx];simp only[zcq,DM];by_cases e:x.name=s
  .exact⟨m1,a,by simp[e,PY]⟩
  .obtain⟨m,b,h⟩:=c (by omega) e1 m1 a;rw[zbi]at h;exact⟨m,b,by simp[e,h]⟩
def c180(hS:Sm l):(aE AP).p 180 [.ae (l.map En.pv),.str s]=some (uU (jr l s)):=by
 rw[aB g180];have h:=c210 (l:=l) (sh:=[some [AV.pv (PV.str s)],some [AV.pv (PV.int IntKind.i64 0),AV.pv (PV.int IntKind.i64 0),AV.pv (PV.str []),AV.pv (PV.int IntKind.i64 0),AV.pv (PV.int IntKind.i64 0),AV.own [] 0],some [AV.pv (PV.bool false)]]) (ts:=[0]) (o:=[1]) (by simp);have hw:=fun f live=>t7 (f:=f) (gb:=233) (s:=3) (pi:=10) (px:=11) (sz:=7) (ag:=true) (live:=live) (env:=[(3,AV.aL 0 0),(4,AV.aL 1 0),(5,AV.aL 2 0),(9,AV.fn 233 [AV.aL 3 0])]) (mem:=[]) (sh:=[some [AV.pv (PV.str s)],some [AV.pv (PV.int IntKind.i64 0),AV.pv (PV.int IntKind.i64 0),AV.pv (PV.str []),AV.pv (PV.int IntKind.i64 0),AV.pv (PV.int IntKind.i64 0),AV.own [] 0],some [AV.pv (PV.bool false)],some [.pv (.ae (l.map En.pv))]]) (aa:=[0]) (l:=l.map En.pv) rfl (by unfold Sm at hS;simp;omega)
 obtain⟨m,⟨h1,h2,h3,h4,h5⟩,a⟩:=acn (l:=l) (s:=s) l.length (zal _) [(3,AV.aL 0 0),(4,AV.aL 1 0),(5,AV.aL 2 0),(9,AV.fn 233 [AV.aL 3 0])] [] (by simp[H7]);rw[zbu]at a;have b:iX [3,4,5,10,11] [(3,AV.aL 0 0),(4,AV.aL 1 0),(5,AV.aL 2 0),(9,AV.fn 233 [AV.aL 3 0])]=j0:=by simp[iX,j0]
 simp[rm]at a;simp at h hw;cases e:jr l s with
 |none=>
  rw[e]at a;simp[PY,j0,rm]at a;simp[g180,h,hw,b,j0,a,uU,dV]
 |some c=>
  rw[e]at a;simp[PY,j0,rm]at a;simp[g180,h,hw,b,j0,a,uU]
structure ZM{α:Type}(f:α->PV)(cs:α->List PV)(sz:Nat):Prop where
 eq:∀x,f x=.agg (cs x)
 len:∀x,(cs x).length=sz
 leaf:∀x,((cs x).map AV.pv).all a9=true
def EqB(z1 z2:List PV)(b a:Nat):ah:=
 (.seq
  (.ka [⟨some 18,none,[.t 17,.t 16],.v (.bin .lss)⟩] [1,2,15,16,17,18])
  (.seq
   (.cond (.t 18)
    .skip
    (.exit 0))
   (.seq
    (.block 1
     (.seq
      (.ka [⟨some 19,none,[.t 17],.v (.mv)⟩,
        ⟨some 20,none,[.t 15,.t 17],.v (.fK b)⟩,
        ⟨some 21,none,[.t 20],.ej b true⟩,
        ⟨some 8,none,[],.alloc 8 z1⟩,
        ⟨some 7,none,[.t 19],.v (.mv)⟩,
        ⟨none,none,[.t 8,.t 21],.bN 8 0 b⟩] [1,2,7,8,15,16,17])
      (.seq
       (.ka [⟨some 22,none,[.t 1],.v (.mv)⟩,
         ⟨some 23,none,[.t 7],.v (.mv)⟩,
         ⟨some 24,none,[.t 22,.t 23],.v (.fK a)⟩,
         ⟨some 25,none,[.t 24],.ej a true⟩,
         ⟨some 9,none,[],.alloc 9 z2⟩,
         ⟨none,none,[.t 9,.t 25],.bN 9 0 a⟩] [1,2,8,9,15,16,17])
       (.seq
        (.ka [⟨some 26,none,[.t 2],.v (.mv)⟩,
          ⟨some 27,none,[.t 8],.cD 8 0 b true⟩,
          ⟨some 28,none,[.t 9],.cD 9 0 a true⟩,
          ⟨some 29,none,[.t 26,.t 27,.t 28],.h_⟩,
          ⟨some 30,none,[.t 29],.v (.un .not)⟩] [1,2,15,16,17,30])
        (.cond (.t 30)
         (.seq
          (.ka [⟨some 6,none,[.c (.pv (.bool false))],.v (.mv)⟩] [6])
          .ret)
         .skip)))))
    (.ka [⟨some 31,none,[.t 17,.c (.pv (.int .i64 1))],.v (.bin .add)⟩,
      ⟨some 17,none,[.t 31],.v (.mv)⟩] [1,2,15,16,17]))))
def EqL(z1 z2:List PV)(b a:Nat):ah:=.loop [1,2,15,16,17] (EqB z1 z2 b a)
def PZ{a:Nat}:cl AP (EqL z1 z2 i a) st=after (cl AP (EqL z1 z2 i a)) (cl AP (EqB z1 z2 i a) (norm (restrict [1,2,15,16,17] st))):=uP
def EqF(z1 z2:List PV)(b a:Nat):aw:=⟨3,32,[.t 6],
 (.seq
  (.ka [⟨some 6,none,[.c (.pv (.bool false))],.v (.mv)⟩] [0,1,2])
  (.seq
   (.seq
    (.ka [⟨some 10,none,[.t 0],.v (.mv)⟩,
      ⟨some 11,none,[.t 10],.v (.len)⟩,
      ⟨some 12,none,[.t 1],.v (.mv)⟩,
      ⟨some 13,none,[.t 12],.v (.len)⟩,
      ⟨some 14,none,[.t 11,.t 13],.v (.bin .neq)⟩] [0,1,2,14])
    (.cond (.t 14)
     (.seq
      (.ka [⟨some 6,none,[.c (.pv (.bool false))],.v (.mv)⟩] [6])
      .ret)
     .skip))
   (.seq
    (.seq
     (.ka [⟨some 15,none,[.t 0],.v (.mv)⟩,
       ⟨some 16,none,[.t 15],.v (.len)⟩,
       ⟨some 17,none,[.c (.pv (.int .i64 0))],.v (.mv)⟩] [1,2,15,16,17])
     (.block 0
      (EqL z1 z2 b a)))
    (.seq
     (.ka [⟨some 6,none,[.c (.pv (.bool true))],.v (.mv)⟩] [6])
     .ret)))),none,false⟩
def P0(F:AV)(sh:Sh)(c:α->List PV)(d:Y->List PV)(p:α->Y->Bool)(s:List α):Prop:=
 ∀x∈s,∀y,exec (aE AP) .h_ [F,.agg ((c x).map .pv),.agg ((d y).map .pv)] none sh []=some ⟨.pv (.bool (p x y)),none,sh,[]⟩
def nH(p:α->Y->Bool):List α->List Y->Bool
 |[],[]=>true
 |x::r,y::t=>p x y && nH p r t
 |_,_=>false
theorem DN{p:α->Y->Bool}:∀{a:List α}{b:List Y},nH p a b=true->a.length=b.length
 |[],[],_=>rfl
 |x::r,y::t,h=>by simp only[nH,zaj]at h;simp[DN h.2]
 |[],_::_,h=>by simp[nH]at h
 |_::_,[],h=>by simp[nH]at h
def REq(f:α->PV)(g:Y->PV)(F:AV)(a:List α)(b:List Y)(sh:Sh)(t:Bool):Option (aX×St):=
 if t=true then some (.exit 0,⟨[(1,.pv (.ae (b.map g))),(2,F),(15,.pv (.ae (a.map f))),(16,.pv (vI a.length)),(17,.pv (vI a.length)),(18,.pv (.bool false))],[],sh,[]⟩)
 else some (.ret,⟨[(6,.pv (.bool false))],[],sh,[]⟩)
def LEq{f:α->PV}{g:Y->PV}{c:α->List PV}{d:Y->List PV}{j:Nat}(hf:ZM f c m)(o:ZM g d j)(h1:z1.length=m)(h2:z2.length=j){a:List α}{b:List Y}(hS:Sm a)(hl:a.length=b.length)
    (r:aY sh) {k:Nat}  {p:α->Y->Bool} (h:bB.ep cap=true) (hp:P0 (.fn k cap) sh c d p a):∀(n i:Nat),a.length-i=n->i<=a.length->
   cl AP (EqL z1 z2 m j) ⟨[(1,.pv (.ae (b.map g))),(2,.fn k cap),(15,.pv (.ae (a.map f))),(16,.pv (vI a.length)),(17,.pv (vI i))],[],sh,[]⟩=REq f g (.fn k cap) a b sh (nH p (a.drop i) (b.drop i))
 |0,i,hn,hi=>by
  have:i=a.length:=by omega
  subst this;rw[PZ,yZ (l:=b) (by omega),yZ (l:=a) (by omega)];simp[EqB,REq,nH,r.norm,h]
 |n+1,i,hn,hi=>by
  have hi:i<a.length:=(by omega);obtain⟨x,hx⟩:=aR hi;obtain⟨y,hy⟩:=aR (hl ▸ hi);unfold Sm at hS;have C:=LEq hf o h1 h2 hS hl r h hp n (i+1) (by omega) (by omega);simp at C;have s:=hp x (aM hx) y;rw[PZ,aZ hx,aZ hy];have u:=hf.len x;have t:=o.len y;have e1:(z1.map bK.zeroCell).drop m=[]:=(by rw[za6];simp[h1]);have e2:(z2.map bK.zeroCell).drop j=[]:=(by rw[za6];simp[h2]);have t1:((c x).map AV.pv).take m=(c x).map AV.pv:=(by rw[zaz];simp[u]);have z:((d y).map AV.pv).take j=(d y).map AV.pv:=(by rw[zaz];simp[t]);have B:(c x).take m=c x:=(by rw[zaz];omega);have A:(d y).take j=d y:=(by rw[zaz];omega);have w:=hf.leaf x;have v:=o.leaf y;cases e:p x y with
  |true=>
   rw[e]at s;simp(disch:=omega)[-getElem?_pos,-fE,-List.all_map,-List.map_take,-List.map_drop,-List.map_eq_nil_iff,EqB,hx,hy,hi,e,nH,aq,r.norm,s,C,h,hf.eq,o.eq,u,t,h1,h2,e1,e2,t1,z,B,A,w,v]
  |false=>
   rw[e]at s;simp(disch:=omega)[-getElem?_pos,-fE,-List.all_map,-List.map_take,-List.map_drop,-List.map_eq_nil_iff,EqB,hx,hy,hi,e,nH,REq,r.norm,s,h,hf.eq,o.eq,u,t,h1,h2,e1,e2,t1,z,B,A,w,v]
theorem cEq{f:α->PV}{g:Y->PV}{c:α->List PV}{d:Y->List PV}{q o:Nat}(hf:ZM f c q)(r:ZM g d o)(h1:z1.length=q)(h2:z2.length=o)(hm:AP m=some (EqF z1 z2 q o)){a:List α}{b:List Y}(hS:Sm a)
    (n:aY sh) {k:Nat}  {p:α->Y->Bool} (j:bB.ep cap=true) (hp:P0 (.fn k cap) sh c d p a):
   (aE AP).i m [.pv (.ae (a.map f)),.pv (.ae (b.map g)),.fn k cap] sh []=some ([.pv (.bool (nH p a b))],sh,[]):=by
 rw[fF hm (by simp[EqF])];by_cases hl:a.length=b.length
 .have h:=LEq hf r h1 h2 hS hl n j hp _ 0 rfl (by omega);simp at h;cases e:nH p a b with
  |true=>rw[e]at h;simp[REq]at h;simp[EqF,h,n.norm,j,hl.symm]
  |false=>rw[e]at h;simp[REq]at h;simp[EqF,h,n.norm,j,hl.symm]
 .have e:nH p a b=false:=by
   cases e:nH p a b with
   |true=>exact absurd (DN e) hl
   |false=>rfl
  simp[EqF,n.norm,j,hl,e];omega
def P1(sz:Nat):aw:=⟨1,9,[.t 2],
 (.seq
  (.ka [⟨some 2,none,[.c (.dm [])],.v (.mv)⟩] [0])
  (.seq
   (.ka [⟨some 3,none,[.t 0],.v (.mv)⟩,
     ⟨some 4,none,[.t 0],.v (.mv)⟩,
     ⟨some 5,none,[.t 4],.v (.len)⟩,
     ⟨some 6,none,[.t 0],.v (.mv)⟩,
     ⟨some 7,none,[.t 6],.v (.len)⟩,
     ⟨some 8,none,[.t 3,.t 5,.t 7],.v (.slice false sz false true true)⟩,
     ⟨some 2,none,[.t 8],.v (.mv)⟩] [2])
   .ret)),none,false⟩
variable{l:List PV}
def Yf:dC false sz false true true [.pv (.ae l),.pv (.int .i64 l.length),.pv (.int .i64 l.length)]=some (.dm l):=by
 simp[dC,dG,eI]
def aaE(hm:AP m=some (P1 sz)):(aE AP).i m [.pv (.ae l)] sh ts=some ((cL ts [.dm l] sh).1,(cL ts [.dm l] sh).2.1,(cL ts [.dm l] sh).2.2.2):=by
 rw[fF hm (by simp[P1])];simp[P1,Yf]
section
variable {P:Program} {n:Nat} {t e:TypeId} {p:PV}
def Jg(hu:P.underlying t=some (.int .i64))(h:yT P n t p):∃i,p=vI i:=by
 cases n with
 |zero=>simp[yT]at h
 |succ n=>simp only[yT,hu]at h;obtain⟨i,rfl,_⟩:=h;exact⟨i,rfl⟩
def P2{α:Type}{f:α->PV}(hu:P.underlying t=some (.slice e))(c:∀(m:Nat)(q:PV),yT P m e q->∃x,q=f x)(h:yT P n t p):∃l:List α,p=.ae (l.map f):=by
 cases n with
 |zero=>simp[yT]at h
 |succ n=>
  simp only[yT,hu]at h;obtain⟨els,rfl,_,h⟩:=h
  have key:∀els:List PV,(∀q∈els,yT P n e q)->∃l:List α,els=l.map f:=by
   intro els;induction els with
   |nil=>intro _;exact⟨[],rfl⟩
   |cons q r a=>
    intro h;obtain⟨x,rfl⟩:=c n q (h q (by simp));obtain⟨l,rfl⟩:=a (fun q b=>h q (by simp[b]));exact⟨x::l,rfl⟩
  obtain⟨l,rfl⟩:=key els h;exact⟨l,rfl⟩
def DO(hu:P.underlying t=some (.slice e))(a:P.underlying e=some (.int .i64))(h:yT P n t p):∃L:List Int,p=.ae (L.map vI):=
 P2 hu (fun _ _ h=>Jg a h) h
end
def IxB:ah:=
 (.seq
  (.ka [⟨some 9,none,[.t 8,.t 7],.v (.bin .lss)⟩] [0,1,7,8,9])
  (.seq
   (.cond (.t 9)
    .skip
    (.exit 0))
   (.seq
    (.block 1
     (.seq
      (.ka [⟨some 10,none,[.t 8],.v (.mv)⟩,
        ⟨some 5,none,[.t 10],.v (.mv)⟩] [0,1,5,7,8])
      (.seq
       (.ka [⟨some 11,none,[.t 1],.v (.mv)⟩,
         ⟨some 12,none,[.t 0],.v (.mv)⟩,
         ⟨some 13,none,[.t 5],.v (.mv)⟩,
         ⟨some 14,none,[.t 12,.t 13],.v (.fK 1)⟩,
         ⟨some 15,none,[.t 14],.v (.g_ 1 false)⟩,
         ⟨some 16,none,[.t 11,.t 15],.v (.bin .eql)⟩] [0,1,5,7,8,16])
       (.cond (.t 16)
        (.seq
         (.ka [⟨some 17,none,[.t 5],.v (.mv)⟩,
           ⟨some 4,none,[.t 17],.v (.mv)⟩] [4])
         .ret)
        .skip))))
    (.ka [⟨some 18,none,[.t 8,.c (.pv (.int .i64 1))],.v (.bin .add)⟩,
      ⟨some 8,none,[.t 18],.v (.mv)⟩] [0,1,7,8]))))
def IxL:ah:=.loop [0,1,7,8] IxB
def P3{st:St}:cl AP IxL st=after (cl AP IxL) (cl AP IxB (norm (restrict [0,1,7,8] st))):=uP
def IxF:aw:=⟨2,19,[.t 4],
 (.seq
  (.ka [⟨some 4,none,[.c (.pv (.int .i64 0))],.v (.mv)⟩] [0,1])
  (.seq
   (.seq
    (.ka [⟨some 6,none,[.t 0],.v (.mv)⟩,
      ⟨some 7,none,[.t 6],.v (.len)⟩,
      ⟨some 8,none,[.c (.pv (.int .i64 0))],.v (.mv)⟩] [0,1,7,8])
    (.block 0
     IxL))
   (.seq
    (.ka [⟨some 4,none,[.c (.pv (.int .i64 (-1)))],.v (.mv)⟩] [4])
    .ret))),none,false⟩
def CoF(g:Nat):aw:=⟨2,9,[.t 4],
 (.seq
  (.ka [⟨some 4,none,[.c (.pv (.bool false))],.v (.mv)⟩] [0,1])
  (.seq
   (.ka [⟨some 5,none,[.t 0],.v (.mv)⟩,
     ⟨some 6,none,[.t 1],.v (.mv)⟩,
     ⟨some 7,none,[.t 5,.t 6],.aJ g⟩,
     ⟨some 8,none,[.t 7,.c (.pv (.int .i64 0))],.v (.bin .geq)⟩,
     ⟨some 4,none,[.t 8],.v (.mv)⟩] [4])
   .ret)),none,false⟩
structure Eqs{α:Type}[DecidableEq α](f:α->PV):Prop where
 el:El f 1 false
 eq:∀x y,bK (.bin .eql) [.pv (f x),.pv (f y)]=some (.pv (.bool (decide (x=y))))
def TY:Eqs vI:=⟨gL,fun x y=>by simp;rw[za0];simp⟩
def Jh:Eqs PV.str:=⟨HY,fun x y=>by simp;rw[za0];simp⟩
variable{α:Type}{m i:Nat}{s S out ids:List Int}{y B:Int}{E b:Ty}{l lv:List Ty}{n F:List UInt8}{H:List En}{D:Dt->Prop}{ds:List Dt}{G:List (List UInt8)}{X SH:Sh}
def ZN(f:α->PV)(s:List α)(y:α)(i:Nat):Option Nat->Option (aX×St)
 |some k=>some (.ret,⟨[(4,.pv (vI (i+k:Nat)))],[],[],[]⟩)
 |none=>some (.exit 0,⟨[(0,.pv (.ae (s.map f))),(1,.pv (f y)),(7,.pv (vI s.length)),(8,.pv (vI s.length)),(9,.pv (.bool false))],[],[],[]⟩)
theorem LIx[DecidableEq α]{f:α->PV}(a:Eqs f){s:List α}(hS:Sm s)(y:α):∀(n i:Nat),s.length-i=n->i<=s.length->
   cl AP IxL ⟨[(0,.pv (.ae (s.map f))),(1,.pv (f y)),(7,.pv (vI s.length)),(8,.pv (vI i))],[],[],[]⟩=ZN f s y i (bI (fun x=>decide (y=x)) (s.drop i))
 |0,i,hn,hi=>by
  have:i=s.length:=by omega
  subst this;rw[P3];simp[IxB,bI,ZN]
 |n+1,i,hn,hi=>by
  have hi:i<s.length:=(by omega);obtain⟨x,hx⟩:=aR hi;unfold Sm at hS;have b:=LIx a hS y n (i+1) (by omega) (by omega);simp at b;have h1:=a.el.len x;have h2:=a.el.of x;have h3:=a.eq y x;rw[P3,aZ hx];by_cases e:y=x
  .rw[zaE e]at h3;simp(disch:=omega)[-getElem?_pos,IxB,hx,hi,e,bI,ZN,h1,h2];rw[<-e]at h3⊢;simp[h3]
  .rw[zaB e]at h3;simp(disch:=omega)[-getElem?_pos,IxB,hx,hi,e,bI,aq,b,h1,h2,h3];cases bI (fun x=>decide (y=x)) (s.drop (i+1))with
   |none=>rfl
   |some k=>simp[ZN];omega
def cIx[DecidableEq α]{f:α->PV}(b:Eqs f){k:Nat}(a:AP k=some IxF){s:List α}(hS:Sm s){y:α}:(aE AP).p k [.ae (s.map f),f y]=some [vI (mq (bI (fun x=>decide (y=x)) s))]:=by
 have h:=LIx b hS y _ 0 rfl (by omega);simp at h;rw[m9 a rfl (by simp[IxF])];cases hi:bI (fun x=>decide (y=x)) s with
 |none=>rw[hi]at h;simp[ZN]at h;simp[IxF,h,mq]
 |some k=>rw[hi]at h;simp[ZN]at h;simp[IxF,h,mq]
def TZ[DecidableEq α]{s:List α}{y:α}:(s.any fun x=>decide (y=x))=decide (y∈s):=by
 rw[za0];simp
def cCo[DecidableEq α]{f:α->PV}(b:Eqs f){k:Nat}(hm:AP m=some (CoF k))(a:AP k=some IxF){s:List α}(hS:Sm s){y:α}:(aE AP).p m [.ae (s.map f),f y]=some [.bool (decide (y∈s))]:=by
 have h:=cIx b a hS (y:=y);rw[m9 hm rfl (by simp[CoF]),<-TZ,<-wT];simp[CoF,h]
def c98(hS:Sm s):(aE AP).p 98 [.ae (s.map vI),vI y]=some [.bool (decide (y∈s))]:=cCo TY (k:=116) rfl rfl hS
def L95(hS:Sm s)(y:Int):∀(n i:Nat),s.length-i=n->i<=s.length->
   cl AP g95L0 ⟨[(0,.pv (.ae (s.map vI))),(1,.pv (vI y)),(5,.pv (vI i))],[],[],[]⟩=
     if y∈s.drop i then some (.ret,⟨[(4,.pv (.bool true))],[],[],[]⟩)else some (.exit 0,⟨[(0,.pv (.ae (s.map vI))),(1,.pv (vI y)),(5,.pv (vI s.length)),(9,.pv (.bool false))],[],[],[]⟩)
 |0,i,hn,hi=>by
  have:i=s.length:=by omega
  subst this;rw[g95L0e];simp[g95B0]
 |n+1,i,hn,hi=>by
  have hi:i<s.length:=(by omega);obtain⟨x,hx⟩:=aR hi;unfold Sm at hS;have a:=L95 hS y n (i+1) (by omega) (by omega);simp at a;rw[g95L0e,aZ hx];by_cases e:x=y
  .simp(disch:=omega)[-getElem?_pos,g95B0,hx,hi,e]
  .have b:¬y=x:=fun h=>e h.symm;simp(disch:=omega)[-getElem?_pos,g95B0,hx,hi,e,b,aq,a]
def c95(hS:Sm s):(aE AP).p 95 [.ae (s.map vI),vI y]=some [.bool (decide (y∈s))]:=by
 have h:=L95 hS y _ 0 rfl (by omega);simp at h;rw[aB g95];by_cases e:y∈s<;>simp[g95,h,e]
mutual
def Ty.nodes:Ty->List Ty
 |⟨k,n,i,h,as⟩=>⟨k,n,i,h,as⟩::Ty.wX as
def Ty.wX:List Ty->List Ty
 |[]=>[]
 |a::r=>a.nodes++Ty.wX r
end
def Ty.y5:∀l:List Ty,Ty.wX l=l.flatMap Ty.nodes
 |[]=>by simp[Ty.wX]
 |a::r=>by simp[Ty.wX,Ty.y5 r]
def Ty.aI(t:Ty):t.nodes=t::t.args.flatMap Ty.nodes:=by cases t;simp only[Ty.nodes,Ty.y5]
def fh[DecidableEq α]:∀{l S:List α},l.Nodup->(∀x∈l,x∈S)->l.length<=S.length
 |[],_,_,_=>by simp
 |x::r,S,hn,h=>by
  have hx:=h x (by simp)
  have hr:=fh (l:=r) (S:=S.erase x) (zcn.1 hn).2 (fun y hy=>by
   rw[List.mem_erase_of_ne]
   .exact h y (by simp[hy])
   .rintro rfl;exact(zcn.1 hn).1 hy)
  have:=List.length_erase_of_mem hx;have:0<S.length:=List.length_pos_of_mem hx;simp;omega
def bP(out:List Int)(x:Ty):List Int:=if x.kind=1/\x.id∉out then out++[x.id]else out
structure gV(S out:List Int):Prop where
 nodup:out.Nodup
 sub:∀x∈out,x∈S
 ym:S.length<1099511627776
def gV.len(h:gV S out):Sm out:=by
 have:=fh h.nodup h.sub;have:=h.ym;unfold Sm;omega
def gV.add(h:gV S out)(hx:E.kind=1->E.id∈S):gV S (bP out E):=by
 unfold bP;split
 .rename_i e;refine⟨?_,?_,h.ym⟩
  .rw[zcr];refine⟨h.nodup,by simp,?_⟩;intro a d b c;simp at c;subst c
   rintro rfl;exact e.2 d
  .intro y hy;simp at hy;rcases hy with hy|rfl
   .exact h.sub y hy
   .exact hx e.1
 .exact h
def gV.fold:∀{l:List Ty}{out:List Int},gV S out->(∀x∈l,x.kind=1->x.id∈S)->gV S (l.foldl bP out)
 |[],_,h,_=>h
 |x::r,out,h,hx=>by
  simp only[zaO];exact gV.fold (h.add (hx x (by simp))) (fun y hy=>hx y (by simp[hy]))
def uV(out:List Int):Sh:=[some [.own (out.map vI) 0]]
def c97(h:gV S out)(x:Ty):(aE AP).i 97 [.pv x.pv,.aL 0 0] (uV out) [out.length]=some ([],uV (bP out x),[(bP out x).length]):=by
 have hl:=h.len;have k:=c98 hl (y:=x.id);unfold Sm at hl;have b:(out.length+1)*8<=140737488355328:=by omega
 have a:bj 1 (out.map vI)=true:=gL.head out;rw[aC g97];by_cases e1:x.kind=1
 .by_cases e2:x.id∈out
  .rw[zaE e2]at k;simp[g97,uV,bP,e1,e2,k,a]
  .rw[zaB e2]at k;simp[g97,uV,bP,e1,e2,k,b,a]
 .simp[g97,uV,bP,e1]
def L96(hS:Sm E.args)(h:∀x∈E.args,∀out,gV S out->(aE AP).i 96 [.pv x.pv,.fn 97 [.aL 0 0]] (uV out) [out.length]=some ([],uV (x.nodes.foldl bP out),[(x.nodes.foldl bP out).length]))
   (d:∀x∈E.args.flatMap Ty.nodes,x.kind=1->x.id∈S):∀(n i:Nat),E.args.length-i=n->i<=E.args.length->∀out,gV S out->
   cl AP g96L0 ⟨[(1,.fn 97 [.aL 0 0]),(10,.pv (.ae (E.args.map Ty.pv))),(11,.pv (vI E.args.length)),(12,.pv (vI i))],[],uV out,[out.length]⟩=
     some (.exit 0,⟨[(1,.fn 97 [.aL 0 0]),(10,.pv (.ae (E.args.map Ty.pv))),(11,.pv (vI E.args.length)),(12,.pv (vI E.args.length)),(13,.pv (.bool false))],[],uV (((E.args.drop i).flatMap Ty.nodes).foldl bP out),[(((E.args.drop i).flatMap Ty.nodes).foldl bP out).length]⟩)
 |0,i,hn,hi,out,c=>by
  have:i=E.args.length:=by omega
  subst this;rw[g96L0e];simp[g96B0,uV]
 |n+1,i,hn,hi,out,c=>by
  have hi:i<E.args.length:=(by omega);obtain⟨x,hx⟩:=aR hi;unfold Sm at hS;have b:∀y∈x.nodes,y.kind=1->y.id∈S:=fun y hy=>d y (by simp only[zaf];exact⟨x,aM hx,hy⟩)
  have k:=h x (aM hx) out c;have a:=L96 hS h d n (i+1) (by omega) (by omega) _ (c.fold b);rw[g96L0e]at a⊢;rw[aZ hx];simp[uV]at k a;simp(disch:=omega)[-getElem?_pos,g96B0,uV,hx,hi,k,aq];rw[g96L0e];simp[a]
def c96(c:E.Ok)(a:∀x∈E.nodes,x.kind=1->x.id∈S):∀out,gV S out->
   (aE AP).i 96 [.pv E.pv,.fn 97 [.aL 0 0]] (uV out) [out.length]=some ([],uV (E.nodes.foldl bP out),[(E.nodes.foldl bP out).length]):=by
 revert c a
 refine Ty.cb (p:=fun E=>E.Ok->(∀x∈E.nodes,x.kind=1->x.id∈S)->∀out,gV S out->
   (aE AP).i 96 [.pv E.pv,.fn 97 [.aL 0 0]] (uV out) [out.length]=some ([],uV (E.nodes.foldl bP out),[(E.nodes.foldl bP out).length])) ?_ E
 intro E d c a out b;rw[Ty.aI]at a⊢;have k:=c97 b E;have h:=L96 (S:=S) c.sm (fun x hx out b=>d x hx (c.df x hx) (fun y hy=>a y (by simp only[zah,zaf];exact .inr ⟨x,hx,hy⟩)) out b) (fun x hx=>a x (by simp only[zah];exact .inr hx)) _ 0 rfl (by omega) _ (b.add (a E (by simp)));rw[aC g96];rw[g96L0e]at h;simp[uV]at k h;simp[g96,g96L0e,uV,k,h]
def vars(l:List Ty):List Int:=(l.flatMap Ty.nodes).foldl bP []
def L55(hS:Sm l)(e:∀t∈l,t.Ok)(d:∀x∈l.flatMap Ty.nodes,x.kind=1->x.id∈S):∀(n i:Nat),l.length-i=n->i<=l.length->∀out,gV S out->
   cl AP g55L0 ⟨[(3,.aL 0 0),(6,.pv (.ae (l.map Ty.pv))),(7,.pv (vI l.length)),(8,.pv (vI i))],[],uV out,[out.length]⟩=
     some (.exit 0,⟨[(3,.aL 0 0),(6,.pv (.ae (l.map Ty.pv))),(7,.pv (vI l.length)),(8,.pv (vI l.length)),(9,.pv (.bool false))],[],uV (((l.drop i).flatMap Ty.nodes).foldl bP out),[(((l.drop i).flatMap Ty.nodes).foldl bP out).length]⟩)
 |0,i,hn,hi,out,c=>by
  have:i=l.length:=by omega
  subst this;rw[g55L0e];simp[g55B0,uV]
 |n+1,i,hn,hi,out,c=>by
  have hi:i<l.length:=(by omega);obtain⟨x,hx⟩:=aR hi;unfold Sm at hS;have a:∀y∈x.nodes,y.kind=1->y.id∈S:=fun y hy=>d y (by simp only[zaf];exact⟨x,aM hx,hy⟩)
  have k:=c96 (e x (aM hx)) a out c;have b:=L55 hS e d n (i+1) (by omega) (by omega) _ (c.fold a);rw[g55L0e]at b⊢;rw[aZ hx];simp[uV]at k b;simp(disch:=omega)[-getElem?_pos,g55B0,uV,hx,hi,k,aq];rw[g55L0e];simp[b]
def mu(h:S.length<1099511627776):gV S []:=⟨by simp,by simp,h⟩
def c55(hf:S.length<1099511627776)(hS:Sm l)(b:∀t∈l,t.Ok)(a:∀x∈l.flatMap Ty.nodes,x.kind=1->x.id∈S):(aE AP).p 55 [.ae (l.map Ty.pv)]=some [.ae ((vars l).map vI)]:=by
 have h:=L55 hS b a _ 0 rfl (by omega) [] (mu hf);rw[aB g55];rw[g55L0e]at h;simp[uV]at h;simp[g55,g55L0e,h,vars]
mutual
def Ty.gk(k:Int):Ty->List Ty
 |⟨kd,n,i,h,as⟩=>if kd=k/\as.length=0 then[⟨kd,n,i,h,as⟩]else Ty.P4 k as
def Ty.P4(k:Int):List Ty->List Ty
 |[]=>[]
 |a::r=>a.gk k++Ty.P4 k r
end
def Ty.Ji(k:Int):∀l:List Ty,Ty.P4 k l=l.flatMap (Ty.gk k)
 |[]=>by simp[Ty.P4]
 |a::r=>by simp[Ty.P4,Ty.Ji k r]
def Ty.lU(k:Int)(t:Ty):t.gk k=if t.kind=k/\t.args.length=0 then[t]else t.args.flatMap (Ty.gk k):=by cases t;simp only[Ty.gk,Ty.Ji]
noncomputable def jg(out:List Ty)(x:Ty):List Ty:=if x∈out then out else out++[x]
structure iz(S out:List Ty):Prop where
 nodup:out.Nodup
 sub:∀x∈out,x∈S
 ym:S.length<1099511627776
 ok:∀x∈S,x.Ok
variable{S:List Ty}
def iz.len(h:iz S l):Sm l:=by
 have:=fh h.nodup h.sub;have:=h.ym;unfold Sm;omega
def iz.add(h:iz S l)(hx:E∈S):iz S (jg l E):=by
 unfold jg;split
 .exact h
 .rename_i e;refine⟨?_,?_,h.ym,h.ok⟩
  .rw[zcr];refine⟨h.nodup,by simp,?_⟩;intro a d b c;simp at c;subst c
   rintro rfl;exact e d
  .intro y hy;simp at hy;rcases hy with hy|rfl
   .exact h.sub y hy
   .exact hx
def iz.fold:∀{l:List Ty}{out:List Ty},iz S out->(∀x∈l,x∈S)->iz S (l.foldl jg out)
 |[],_,h,_=>h
 |x::r,out,h,hx=>by
  simp only[zaO];exact iz.fold (h.add (hx x (by simp))) (fun y hy=>hx y (by simp[hy]))
def aaF(h:iz S l)(t:Ty):∀(n i:Nat),l.length-i=n->i<=l.length->
   cl AP g99L0 ⟨[(0,.own (l.map Ty.pv) 0),(4,.au 4 0),(7,.pv (vI i))],[(4,[.pv (vI t.kind),.pv (.str t.name),.pv (vI t.id),.pv (vI t.home),.pv (.ae (t.args.map Ty.pv))])],[],[l.length]⟩=
     if t∈l.drop i then some (.ret,⟨[(6,.own (l.map Ty.pv) 0)],[],[],[l.length]⟩)
     else some (.exit 0,⟨[(0,.own (l.map Ty.pv) 0),(4,.au 4 0),(7,.pv (vI l.length)),(22,.pv (.bool false))],[(4,[.pv (vI t.kind),.pv (.str t.name),.pv (vI t.id),.pv (vI t.home),.pv (.ae (t.args.map Ty.pv))])],[],[l.length]⟩)
 |0,i,hn,hi=>by
  have:i=l.length:=by omega
  subst this;rw[g99L0e];simp[g99B0]
 |n+1,i,hn,hi=>by
  have hi:i<l.length:=(by omega);obtain⟨x,hx⟩:=aR hi;have hS:=h.len;unfold Sm at hS;have k:=c20 (b:=t) (h.ok x (h.sub x (aM hx)));have a:=aaF h t n (i+1) (by omega) (by omega);rw[g99L0e]at a⊢;rw[aZ hx];simp at a k;by_cases e:x=t
  .subst e;rw[zaE rfl]at k;simp(disch:=omega)[-getElem?_pos,g99B0,hx,hi,k]
  .have c:¬t=x:=fun h=>e h.symm;rw[zaB e]at k;simp(disch:=omega)[-getElem?_pos,g99B0,hx,hi,k,c,aq];rw[g99L0e];simp[a]
def aaG{kd:Int}(hS:Sm E.args)(h:∀x∈E.args,∀out,iz S out->(aE AP).i 99 [.own (out.map Ty.pv) 0,.pv x.pv,.pv (vI kd)] [] [out.length]=some ([.own (((x.gk kd).foldl jg out).map Ty.pv) 0],[],[((x.gk kd).foldl jg out).length]))
   (d:∀x∈E.args.flatMap (Ty.gk kd),x∈S):∀(n i:Nat),E.args.length-i=n->i<=E.args.length->∀out,iz S out->
   cl AP g99L1 ⟨[(0,.own (out.map Ty.pv) 0),(2,.pv (vI kd)),(4,.au 4 0),(8,.pv (vI i))],[(4,[.pv (vI E.kind),.pv (.str E.name),.pv (vI E.id),.pv (vI E.home),.pv (.ae (E.args.map Ty.pv))])],[],[out.length]⟩=
     some (.exit 2,⟨[(0,.own ((((E.args.drop i).flatMap (Ty.gk kd)).foldl jg out).map Ty.pv) 0),(2,.pv (vI kd)),(4,.au 4 0),(8,.pv (vI E.args.length)),(40,.pv (.bool false))],[(4,[.pv (vI E.kind),.pv (.str E.name),.pv (vI E.id),.pv (vI E.home),.pv (.ae (E.args.map Ty.pv))])],[],[(((E.args.drop i).flatMap (Ty.gk kd)).foldl jg out).length]⟩)
 |0,i,hn,hi,out,c=>by
  have:i=E.args.length:=by omega
  subst this;rw[g99L1e];simp[g99B1]
 |n+1,i,hn,hi,out,c=>by
  have hi:i<E.args.length:=(by omega);obtain⟨x,hx⟩:=aR hi;unfold Sm at hS;have b:∀y∈x.gk kd,y∈S:=fun y hy=>d y (by simp only[zaf];exact⟨x,aM hx,hy⟩)
  have k:=h x (aM hx) out c;have a:=aaG hS h d n (i+1) (by omega) (by omega) _ (c.fold b);rw[g99L1e]at a⊢;rw[aZ hx];simp at k a;simp(disch:=omega)[-getElem?_pos,g99B1,hx,hi,k,aq];rw[g99L1e];simp[a]
def c99{kd:Int}(c:E.Ok)(a:∀x∈E.gk kd,x∈S):∀out,iz S out->
   (aE AP).i 99 [.own (out.map Ty.pv) 0,.pv E.pv,.pv (vI kd)] [] [out.length]=some ([.own (((E.gk kd).foldl jg out).map Ty.pv) 0],[],[((E.gk kd).foldl jg out).length]):=by
 revert c a
 refine Ty.cb (p:=fun E=>E.Ok->(∀x∈E.gk kd,x∈S)->∀out,iz S out->
   (aE AP).i 99 [.own (out.map Ty.pv) 0,.pv E.pv,.pv (vI kd)] [] [out.length]=some ([.own (((E.gk kd).foldl jg out).map Ty.pv) 0],[],[((E.gk kd).foldl jg out).length])) ?_ E
 intro E f c a out b;rw[Ty.lU]at a⊢;have hl:=b.len;unfold Sm at hl;have g:(out.length+1)*64<=140737488355328:=by omega
 rw[aC g99];by_cases e:E.kind=kd/\E.args.length=0
 .rw[zai e]at a⊢;obtain⟨e1,e2⟩:=e;subst e1;have e3:E.args=[]:=by simpa using e2
  have h:=aaF b E _ 0 rfl (by omega);rw[g99L0e]at h;simp[e3]at h;by_cases em:E∈out
  .simp[em]at h;have d:jg out E=out:=by simp[jg,em]
   simp[g99,e3,g99L0e,h,d]
  .simp[em]at h;have d:jg out E=out++[E]:=by simp[jg,em]
   simp[g99,e3,g99L0e,h,d,g]
 .rw[zad e]at a⊢;have h:=aaG (S:=S) (kd:=kd) c.sm (fun x hx out b=>f x hx (c.df x hx) (fun y hy=>a y (by simp only[zaf];exact⟨x,hx,hy⟩)) out b) a _ 0 rfl (by omega) out b;rw[g99L1e]at h;simp at h;by_cases e1:E.kind=kd
  .have e2:¬E.args.length=0:=fun h=>e ⟨e1,h⟩;have e3:¬E.args=[]:=by simpa using e2
   subst e1;simp[g99,e2,e3,g99L1e,h]
  .simp[g99,e1,g99L1e,h]
def sI(out:List Int)(x:Ty):List Int:=if x.id∈out then out else out++[x.id]
noncomputable def oY(l:List Ty):List Int:=((l.flatMap (Ty.gk 1)).foldl jg []).foldl sI []
def aaH(hS:Sm l)(e:∀t∈l,t.Ok)(d:∀x∈l.flatMap (Ty.gk 1),x∈S):∀(n i:Nat),l.length-i=n->i<=l.length->∀out,iz S out->
   cl AP g56L0 ⟨[(0,.pv (.ae (l.map Ty.pv))),(3,.own (out.map Ty.pv) 0),(4,.pv (vI i))],[],[],[out.length]⟩=
     some (.exit 0,⟨[(0,.pv (.ae (l.map Ty.pv))),(3,.own ((((l.drop i).flatMap (Ty.gk 1)).foldl jg out).map Ty.pv) 0),(4,.pv (vI l.length)),(10,.pv (.bool false))],[],[],[(((l.drop i).flatMap (Ty.gk 1)).foldl jg out).length]⟩)
 |0,i,hn,hi,out,c=>by
  have:i=l.length:=by omega
  subst this;rw[g56L0e];simp[g56B0]
 |n+1,i,hn,hi,out,c=>by
  have hi:i<l.length:=(by omega);obtain⟨x,hx⟩:=aR hi;unfold Sm at hS;have a:∀y∈x.gk 1,y∈S:=fun y hy=>d y (by simp only[zaf];exact⟨x,aM hx,hy⟩)
  have k:=c99 (kd:=1) (e x (aM hx)) a out c;have b:=aaH hS e d n (i+1) (by omega) (by omega) _ (c.fold a);rw[g56L0e]at b⊢;rw[aZ hx];simp at k b;simp(disch:=omega)[-getElem?_pos,g56B0,hx,hi,k,aq];rw[g56L0e];simp[b]
def P5:(l.foldl sI out).length<=out.length+l.length:=by
 induction l generalizing out with
 |nil=>simp
 |cons x r a=>
  simp only[zaO,zay];have:=a (out:=sI out x);have h2:(sI out x).length<=out.length+1:=by unfold sI;split<;>simp
  omega
def Yg(b:iz S l):∀(n i:Nat),l.length-i=n->i<=l.length->∀out:List Int,out.length<=i->
   cl AP g56L1 ⟨[(3,.own (l.map Ty.pv) 0),(5,.own (out.map vI) 1),(6,.pv (vI i))],[],[],[l.length,out.length]⟩=
     some (.exit 2,⟨[(3,.own (l.map Ty.pv) 0),(5,.own (((l.drop i).foldl sI out).map vI) 1),(6,.pv (vI l.length)),(22,.pv (.bool false))],[],[],[l.length,((l.drop i).foldl sI out).length]⟩)
 |0,i,hn,hi,out,d=>by
  have:i=l.length:=by omega
  subst this;rw[g56L1e];simp[g56B1]
 |n+1,i,hn,hi,out,d=>by
  have hi:i<l.length:=(by omega);obtain⟨x,hx⟩:=aR hi;have hS:=b.len;unfold Sm at hS;have k:=c95 (s:=out) (by unfold Sm;omega) (y:=x.id);have g:(out.length+1)*8<=140737488355328:=(by omega);have f:bj 1 (out.map vI)=true:=gL.head out;rw[aZ hx];by_cases e:x.id∈out
  .have a:=Yg b n (i+1) (by omega) (by omega) out (by omega);have c:sI out x=out:=(by simp[sI,e]);rw[g56L1e]at a⊢;rw[zaE e]at k;simp at a;simp(disch:=omega)[-getElem?_pos,g56B1,hx,hi,k,aq];rw[g56L1e];simp[a,c]
  .have a:=Yg b n (i+1) (by omega) (by omega) (out++[x.id]) (by simp;omega);have c:sI out x=out++[x.id]:=(by simp[sI,e]);rw[g56L1e]at a⊢;rw[zaB e]at k;simp at a;simp(disch:=omega)[-getElem?_pos,g56B1,hx,hi,k,aq,g,f];rw[g56L1e];simp[a,c]
def c56(hf:S.length<1099511627776)(a:∀x∈S,x.Ok)(hS:Sm l)(c:∀t∈l,t.Ok)(b:∀x∈l.flatMap (Ty.gk 1),x∈S):(aE AP).p 56 [.ae (l.map Ty.pv)]=some [.ae ((oY l).map vI)]:=by
 have c0:iz S []:=⟨by simp,by simp,hf,a⟩;have h1:=aaH hS c b _ 0 rfl (by omega) [] c0;have h2:=Yg (c0.fold (l:=l.flatMap (Ty.gk 1)) b) _ 0 rfl (by omega) [] (by simp);rw[aB g56];rw[g56L0e]at h1;rw[g56L1e]at h2;simp at h1 h2;simp[g56,g56L0e,h1,g56L1e,h2,oY]
def MV(b:E.Wf):∀out,E.nodes.foldl bP out=(E.gk 1).foldl bP out:=by
 revert b
 refine Ty.cb (p:=fun E=>E.Wf->∀out,E.nodes.foldl bP out=(E.gk 1).foldl bP out) ?_ E;intro E d b out
 have flat:∀(as:List Ty),(∀x∈as,x∈E.args)->∀out,(as.flatMap Ty.nodes).foldl bP out=(as.flatMap (Ty.gk 1)).foldl bP out:=by
  intro as;induction as with
  |nil=>intro _ _;rfl
  |cons a r c=>
   intro h out;simp only[zaq,zcb];rw[d a (h a (by simp)) (b.df a (h a (by simp))),c (fun x hx=>h x (by simp[hx]))]
 rw[Ty.aI,Ty.lU];by_cases e:E.kind=1
 .have f:=b.var e;simp[e,f]
 .have:bP out E=out:=by simp[bP,e]
  simp only[zaO,this];rw[zad (fun h=>e h.1)];exact flat E.args (fun _ h=>h) out
def P6(h:E∈b.gk B):E.kind=B/\E.args=[]:=by
 revert h
 refine Ty.cb (p:=fun b=>E∈b.gk B->E.kind=B/\E.args=[]) ?_ b;intro b a h;rw[Ty.lU]at h;split at h
 .rename_i e;simp at h;subst h;exact⟨e.1,by simpa using e.2⟩
 .simp only[zaf]at h;obtain⟨y,hy,hx⟩:=h;exact a y hy hx
def P7(b:E.kind=1)(h:E∈l):E.id∈l.foldl bP out:=by
 have mono:∀(l:List Ty)(out:List Int)(i:Int),i∈out->i∈l.foldl bP out:=by
  intro l;induction l with
  |nil=>intro out i h;exact h
  |cons y r a=>
   intro out i h;simp only[zaO];refine a _ _ ?_;unfold bP;split<;>simp[h]
 induction l generalizing out with
 |nil=>simp at h
 |cons y r a=>
  simp only[zaO];simp at h;rcases h with rfl|h
  .refine mono _ _ _ ?_;unfold bP;split
   .simp
   .rename_i e;simp[b]at e;exact e
  .exact a h
def MW(l:List Ty)(a:∀x∈l,x.kind=1):∀acc:List Ty,(l.foldl jg acc).foldl bP []=l.foldl bP (acc.foldl bP []):=by
 induction l with
 |nil=>intro acc;rfl
 |cons x r b=>
  intro acc;simp only[zaO];rw[b (fun y hy=>a y (by simp[hy]))];congr 1;unfold jg;split
  .rename_i e;have:=P7 (out:=[]) (a x (by simp)) e;simp[bP,this]
  .simp
def MX(l:List Ty)(a:∀x∈l,x.kind=1):∀out,l.foldl sI out=l.foldl bP out:=by
 induction l with
 |nil=>intro out;rfl
 |cons x r b=>
  intro out;simp only[zaO];rw[b (fun y hy=>a y (by simp[hy]))];congr 1;unfold sI bP;have:=a x (by simp);by_cases e:x.id∈out<;>simp[e,this]
def P8(h:b∈l.foldl jg S):b∈S\/b∈l:=by
 induction l generalizing S with
 |nil=>exact .inl h
 |cons y r a=>
  simp only[zaO]at h;rcases a h with h|h
  .unfold jg at h;split at h
   .exact .inl h
   .simp at h;rcases h with h|rfl
    .exact .inl h
    .right;simp
  .right;simp[h]
def lh(d:∀t∈l,t.Wf):oY l=vars l:=by
 have b:∀x∈l.flatMap (Ty.gk 1),x.kind=1:=fun x hx=>by
  simp only[zaf]at hx;obtain⟨t,_,h⟩:=hx;exact(P6 h).1
 unfold oY vars;rw[MX _ (fun x hx=>by rcases P8 hx with h|h;simp at h;exact b x h),MW _ b]
 have:∀(l:List Ty),(∀t∈l,t.Wf)->∀out,(l.flatMap (Ty.gk 1)).foldl bP out=(l.flatMap Ty.nodes).foldl bP out:=by
  intro l;induction l with
  |nil=>intro _ _;rfl
  |cons a r c=>
   intro h out;simp only[zaq,zcb];rw[MV (h a (by simp)),c (fun t ht=>h t (by simp[ht]))]
 exact this l d []
def oZ(h:E∈b.gk B):E∈b.nodes:=by
 revert h
 refine Ty.cb (p:=fun b=>E∈b.gk B->E∈b.nodes) ?_ b;intro b a h;rw[Ty.lU]at h;rw[Ty.aI];split at h
 .simp at h;subst h;simp
 .simp only[zaf]at h;obtain⟨y,hy,hx⟩:=h;simp only[zah,zaf];exact .inr ⟨y,hy,a y hy hx⟩
def c176{t:Ty}:(aE AP).p 176 [t.pv]=some [(As.mk 0 t).pv]:=by
 rw[aB g176];simp[g176]
variable{l:List En}
def c177(hS:Sm l){c:Sc}:(aE AP).p 177 [.ae (l.map En.pv),.str n,c.pv]=some [.ae ((l++[En.mk n c]).map En.pv)]:=by
 have k:=aaE (m:=209) (sz:=7) rfl (l:=l.map En.pv) (sh:=[]) (ts:=[]);unfold Sm at hS;have a:(l.length+1)*88<=140737488355328:=by omega
 rw[aB g177];simp at k;simp[g177,k,a]
def c179(hS:Sm l){c:Sc}:(aE AP).p 179 [.ae (l.map En.pv),.str n,c.pv]=some [.ae ((l++[En.mk n c]).map En.pv)]:=by
 unfold Sm at hS;have d:(l.length+1)*88<=140737488355328:=by omega
 have b:l.length*88<=140737488355328:=by omega
 rw[aB g179];cases l with
 |nil=>simp[g179]
 |cons a r=>
  simp at d b;simp[g179,d,b]
def aW:List En->List En
 |[]=>[]
 |a::r=>if(r.any fun x=>decide (x.name=a.name))=true then aW r else a::aW r
@[simp] theorem aaI{l:List α}{x:α}:(l++[x]).take (l.length+1)=l++[x]:=by rw[zaz];simp
def BK(x:En):List AV:=[.pv (.str x.name),.pv (vI x.sc.id),.pv (vI x.sc.ty.kind),.pv (.str x.sc.ty.name),.pv (vI x.sc.ty.id),.pv (vI x.sc.ty.home),.pv (.ae (x.sc.ty.args.map Ty.pv))]
def c212(sh:Sh)(b:aY sh)(a x:En):(aE AP).i 212 [.pv x.pv,.aL sh.length 0] (sh++[some (BK a)]) []=some ([.pv (.bool (decide (x.name=a.name)))],sh++[some (BK a)],[]):=by
 have c:aY (sh++[some (BK a)]):=b.app (aY.one (by simp[BK]));rw[aC g212];have:=c.norm;simp[BK]at this;simp[g212,BK,this];by_cases e:x.name=a.name<;>simp[e]
def c211(hS:Sm H)(sh:Sh)(c:aY sh)(a:En):(aE AP).i 211 [.pv (.ae (H.map En.pv)),.fn 212 [.aL sh.length 0]] (sh++[some (BK a)]) []=some ([.pv (.bool (H.any fun x=>decide (x.name=a.name)))],sh++[some (BK a)],[]):=by
 have b:aY (sh++[some (BK a)]):=c.app (aY.one (by simp[BK]));refine TX PX (m:=211) (k:=234) rfl rfl hS b (by simp) (by simp) (by simp) ?_;intro x _;have k:=c212 sh c a x;have h1:=b.norm;have h2:=b.shift;simp at k;simp[h1,h2,k]
def aaJ{sz:Nat}{l:List PV}{k:IntKind}{h:Int}(h0:0<=h)(h1:h<=l.length)(hs:bj sz l=true):dC false sz true false false [.pv (.ae l),.pv (.int k h)]=some (.pv (.ae (l.drop h.toNat))):=by
 simp[dC,dG,eI,h0,h1,hs]
def Yh{l:List En}(hS:Sm l):∀(n i:Nat),l.length-i=n->i<=l.length->∀(acc:List En)(sh:Sh),acc.length<=i->aY sh->∃sh',aY sh' /\
   cl AP g182L0 ⟨[(0,.pv (.ae (l.map En.pv))),(3,.own (acc.map En.pv) 0),(6,.pv (.ae (l.map En.pv))),(7,.pv (vI l.length)),(8,.pv (vI i))],[],sh,[acc.length]⟩=
     some (.exit 0,⟨[(0,.pv (.ae (l.map En.pv))),(3,.own ((acc++aW (l.drop i)).map En.pv) 0),(6,.pv (.ae (l.map En.pv))),(7,.pv (vI l.length)),(8,.pv (vI l.length)),(9,.pv (.bool false))],[],sh',[(acc++aW (l.drop i)).length]⟩)
 |0,i,hn,hi,acc,sh,o,d=>by
  have:i=l.length:=by omega
  subst this;refine⟨sh,d,?_⟩;rw[g182L0e];simp[g182B0,aW,d.norm]
 |n+1,i,hn,hi,acc,sh,o,d=>by
  have hi:i<l.length:=(by omega);obtain⟨x,hx⟩:=aR hi;have f:aY (sh++[some (BK x)]):=d.app (aY.one (by simp[BK]));have g:Sm (l.drop (i+1)):=(by unfold Sm at hS⊢;simp;omega);have k:=c211 g sh d x;unfold Sm at hS;have m:(acc.length+1)*88<=140737488355328:=(by omega);have h1:=f.norm;have h2:=f.shift;have b:=aaJ (sz:=7) (l:=l.map En.pv) (k:=.i64) (h:=(i:Int)+1) (by omega) (by simp;omega) (by simp);have hd:((i:Int)+1).toNat=i+1:=(by omega);rw[hd]at b;rw[aZ hx];cases e:(l.drop (i+1)).any fun y=>decide (y.name=x.name)with
  |true=>
   obtain⟨sh',c,a⟩:=Yh hS n (i+1) (by omega) (by omega) acc (sh++[some (BK x)]) (by omega) f;refine⟨sh',c,?_⟩;have j:aW (x::l.drop (i+1))=aW (l.drop (i+1)):=by simp only[aW,e,za4]
   rw[g182L0e]at a⊢;rw[e]at k;simp[BK]at k h1 h2;simp[BK,h1]at a;simp(disch:=omega)[-getElem?_pos,g182B0,hx,hi,aq,d.norm,b,k,h1,h2,j];rw[g182L0e];simp[a,h1]
  |false=>
   obtain⟨sh',c,a⟩:=Yh hS n (i+1) (by omega) (by omega) (acc++[x]) (sh++[some (BK x)]) (by simp;omega) f;refine⟨sh',c,?_⟩;have j:aW (x::l.drop (i+1))=x::aW (l.drop (i+1)):=by simp only[aW,e];simp
   rw[g182L0e]at a⊢;rw[e]at k;simp[BK]at k h1 h2;simp[BK,h1]at a;simp(disch:=omega)[-getElem?_pos,g182B0,hx,hi,aq,d.norm,b,k,h1,h2,j,m];rw[g182L0e];simp[a,h1]
def c182(hS:Sm H):(aE AP).p 182 [.ae (H.map En.pv)]=some [.ae ((aW H).map En.pv)]:=by
 obtain⟨sh',b,h⟩:=Yh hS _ 0 rfl (by omega) [] [] (by simp) (by intro cs a;simp at a);rw[aB g182];rw[g182L0e]at h;simp at h;simp[g182,g182L0e,h]
def any_none{a:En}:(H.any fun x=>decide (x.name=a.name))=true<->∃c,jr H a.name=some c:=by
 induction H with
 |nil=>simp[jr]
 |cons b H d=>
  simp only[zbU,zbo,d,jr,zaS];cases h:jr H a.name with
  |some c=>simp
  |none=>by_cases e:b.name=a.name<;>simp[e]
theorem Jj(l:List En)(s:List UInt8):jr (aW l) s=jr l s:=by
 induction l with
 |nil=>rfl
 |cons a r b=>
  simp only[aW];split
  .rename_i h;rw[b];simp only[jr];cases e:jr r s with
   |some c=>rfl
   |none=>
    by_cases e2:a.name=s
    .rw[any_none,e2,e]at h;simp at h
    .simp[e2]
  .simp only[jr,b]
def cd(l:List En):∀x∈aW l,x∈l:=by
 induction l with
 |nil=>simp[aW]
 |cons a r b=>
  intro x hx;simp only[aW]at hx;split at hx
  .simp[b x hx]
  .simp at hx;rcases hx with rfl|hx
   .simp
   .simp[b x hx]
def gM(l:List En):(aW l).length<=l.length:=by
 induction l with
 |nil=>simp[aW]
 |cons a r b=>
  simp only[aW];split<;>simp<;>omega
def varNames:List (List UInt8):=[[120],[121],[122],[102],[103],[118,49],[118,50],[105,100]]
def bJ(ids:List Int):List Int->List As->List As
 |[],acc=>acc
 |v::r,acc=>bJ ids r (if v∈ids then acc++[⟨v,bm acc.length⟩]else acc)
def cG(ids:List Int)(t:Ty)(vs:List Int):Sc:=⟨(bJ ids vs []).length,t.sub (bJ ids vs [])⟩
def Yi{t:Ty}{vs:List Int}(hS:Sm vs)(hi:Sm ids):∀(n i:Nat),vs.length-i=n->i<=vs.length->∀acc:List As,acc.length<=i->
   cl AP g208L0 ⟨[(1,.pv (.ae (ids.map vI))),(2,.au 2 0),(4,.au 4 0),(5,.pv (.ae (vs.map vI))),(6,.own (acc.map As.pv) 0),(7,.pv (vI i))],[(2,[.pv (vI t.kind),.pv (.str t.name),.pv (vI t.id),.pv (vI t.home),.pv (.ae (t.args.map Ty.pv))]),(4,[.pv (vI 0),.pv (vI 0),.pv (.str []),.pv (vI 0),.pv (vI 0),.own [] 1])],[],[acc.length,0]⟩=
     some (.exit 0,⟨[(1,.pv (.ae (ids.map vI))),(2,.au 2 0),(4,.au 4 0),(5,.pv (.ae (vs.map vI))),(6,.own ((bJ ids (vs.drop i) acc).map As.pv) 0),(7,.pv (vI vs.length)),(14,.pv (.bool false))],[(2,[.pv (vI t.kind),.pv (.str t.name),.pv (vI t.id),.pv (vI t.home),.pv (.ae (t.args.map Ty.pv))]),(4,[.pv (vI 0),.pv (vI 0),.pv (.str []),.pv (vI 0),.pv (vI 0),.own [] 1])],[],[(bJ ids (vs.drop i) acc).length,0]⟩)
 |0,i,hn,a,acc,f=>by
  have:i=vs.length:=by omega
  subst this;rw[g208L0e];simp[g208B0,bJ]
 |n+1,i,hn,a,acc,f=>by
  have a:i<vs.length:=(by omega);obtain⟨x,hx⟩:=aR a;unfold Sm at hS;have k:=c95 hi (y:=x);have k2:=c72 (n:=acc.length);have d:(acc.length+1)*72<=140737488355328:=(by omega);rw[aZ hx];by_cases e:x∈ids
  .have b:=Yi (t:=t) hS hi n (i+1) (by omega) (by omega) (acc++[⟨x,bm acc.length⟩]) (by simp;omega);have c:bJ ids (x::vs.drop (i+1)) acc=bJ ids (vs.drop (i+1)) (acc++[⟨x,bm acc.length⟩]):=(by simp[bJ,e]);rw[c];rw[g208L0e]at b⊢;rw[zaE e]at k;simp[bm]at b k2;simp(disch:=omega)[-getElem?_pos,g208B0,hx,a,k,k2,aq,d,bm];rw[g208L0e];simp[b,bm]
  .have b:=Yi (t:=t) hS hi n (i+1) (by omega) (by omega) acc (by omega);have c:bJ ids (x::vs.drop (i+1)) acc=bJ ids (vs.drop (i+1)) acc:=(by simp[bJ,e]);rw[c];rw[g208L0e]at b⊢;rw[zaB e]at k;simp at b;simp(disch:=omega)[-getElem?_pos,g208B0,hx,a,k,aq];rw[g208L0e];simp[b]
def qn{ids:List Int}:∀(vs:List Int)(acc:List As),(bJ ids vs acc).length<=acc.length+vs.length
 |[],acc=>by simp[bJ]
 |v::r,acc=>by
  simp only[bJ];have:=qn (ids:=ids) r (if v∈ids then acc++[⟨v,bm acc.length⟩]else acc);split at this<;>simp at this⊢<;>(split<;>simp_all<;>omega)
structure T3(t:Ty):Prop where
 ok:t.Ok
 wf:t.Wf
 ym:∃S:List Ty,S.length<1099511627776/\(∀x∈S,x.Ok)/\∀x∈t.gk 1,x∈S
def wY(h:T3 E):Sm (oY [E]):=by
 obtain⟨S,hf,a,b⟩:=h.ym;have c0:iz S []:=⟨by simp,by simp,hf,a⟩;have:=(c0.fold (l:=[E].flatMap (Ty.gk 1)) (by simpa using b)).len;unfold Sm at*;have h2:=P5 (l:=([E].flatMap (Ty.gk 1)).foldl jg []) (out:=[]);unfold oY;simp at this h2⊢;omega
def c208{t:Ty}(h:T3 t)(hi:Sm ids):(aE AP).p 208 [t.pv,.ae (ids.map vI)]=some [(cG ids t (vars [t])).pv]:=by
 obtain⟨S,hf,c,e⟩:=h.ym;have a:=c56 hf c (l:=[t]) (by simp[Sm]) (by simpa using h.ok) (by simpa using e);have b:=wY h;rw[lh (by simpa using h.wf)]at a b;have k2:=Yi (t:=t) b hi _ 0 rfl (by omega) [] (by simp);have hl:=qn (ids:=ids) (vars [t]) [];have d:=c46 (s:=bJ ids (vars [t]) []) (by unfold Sm at b⊢;simp at hl;omega) h.ok;rw[aB g208];rw[g208L0e]at k2;simp at a k2 d;simp[g208,a,g208L0e,k2,d,cG]
def bw(h:b.args=[]):b.Ok:=⟨by rw[h];simp[Sm],by rw[h];simp⟩
def y6:∀(vs:List Int)(acc:List As),(∀a∈acc,a.ty.Ok)->∀a∈bJ ids vs acc,a.ty.Ok
 |[],acc,h=>by simpa[bJ]using h
 |v::r,acc,h=>by
  simp only[bJ];refine y6 r _ ?_;split
  .intro a b;simp at b;rcases b with b|rfl
   .exact h a b
   .exact bw rfl
  .exact h
def qo{vs:List Int}(h:b.Ok):(cG ids b vs).ty.Ok:=qk (y6 vs [] (by simp)) h
inductive gw (D:Dt->Prop) (lv:List Ty):Nat->Ty->Prop
 |leaf {n:Nat} {t:Ty}:t∈lv->gw D lv n t
 |int {n:Nat}:gw D lv n a8
 |dy {n:Nat} {d:Dt} {args:List Ty}:D d->args.length=d.params.length->(∀x∈args,gw D lv n x)->gw D lv (n+1) ⟨4,d.name,0,0,args⟩
 |arrow {n:Nat} {a b:Ty}:gw D lv n a->gw D lv n b->gw D lv (n+1) ⟨4,[45,62],0,0,[a,b]⟩
variable{n:Nat}{l:List (List UInt8)}
def gw.ok(b:∀d,D d->d.params.length<=8)(h:∀E∈lv,E.args=[])(m:gw D lv n E):E.Ok:=by
 induction m with
 |leaf hl=>exact bw (h _ hl)
 |int=>exact bw rfl
 |dy hd hl _ a=>exact⟨by have:=b _ hd;unfold Sm;simp;omega,a⟩
 |arrow _ _ e c=>exact⟨by simp[Sm],by intro x hx;simp at hx;rcases hx with rfl|rfl<;>assumption⟩
def P9{f:Ty->List Ty}{b:Nat}:∀{l:List Ty},(∀x∈l,(f x).length<=b)->(l.flatMap f).length<=l.length*b
 |[],_=>by simp
 |a::r,h=>by
  have h1:=h a (by simp);have h2:=P9 (f:=f) (b:=b) (l:=r) (fun x hx=>h x (by simp[hx]));simp only[zaq,zat,zay,zaG];omega
def gw.small(e:∀d,D d->d.params.length<=8)(h:∀E∈lv,E.args=[])(m:gw D lv n E):E.nodes.length<=9 ^ n:=by
 have one:∀n:Nat,1<=9 ^ n:=fun n=>zcP n 9 (by decide);induction m with
 |leaf hl=>rw[Ty.aI,h _ hl];simpa using one _
 |int=>rw[Ty.aI];simpa[a8]using one _
 | @dy n d args hd hl _ c=>
  rw[Ty.aI];have h1:=P9 (f:=Ty.nodes) (l:=args) c;have h2:=e _ hd;have h3:=one n;have h4:args.length*9 ^ n<=8*9 ^ n:=zaH _ (by omega);simp only[zay,zcH];omega
 | @arrow n a b _ _ i g=>
  rw[Ty.aI];have h3:=one n;simp only[zay,zaq,zbO,zaJ,zat,zcH];omega
abbrev bF:=List UInt8
variable{s L:List bF}{y:bF}
def c214(hS:Sm s):(aE AP).p 214 [.ae (s.map .str),.str y]=some [.bool (decide (y∈s))]:=by
 rw[cCo Jh (m:=214) (k:=223) rfl rfl hS];simp only[zag,zbz,PV.bool.injEq,and_true];rw[za0];simp
theorem aaK(hS:Sm L)(y:bF):∀(n i:Nat),L.length-i=n->i<=L.length->
   cl AP g216L0 ⟨[(0,.pv (.ae (L.map .str))),(1,.pv (.str y)),(5,.pv (vI i))],[],[],[]⟩=
     match bI (fun x=>decide (x=y)) (L.drop i)with
     |some k=>some (.ret,⟨[(4,.pv (vI (i+k:Nat)))],[],[],[]⟩)
     |none=>some (.exit 0,⟨[(0,.pv (.ae (L.map .str))),(1,.pv (.str y)),(5,.pv (vI L.length)),(9,.pv (.bool false))],[],[],[]⟩)
 |0,i,hn,hi=>by
  have:i=L.length:=by omega
  subst this;rw[g216L0e];simp[g216B0,bI]
 |n+1,i,hn,hi=>by
  have hi:i<L.length:=(by omega);obtain⟨x,hx⟩:=aR hi;unfold Sm at hS;have a:=aaK hS y n (i+1) (by omega) (by omega);simp at a;rw[g216L0e,aZ hx];by_cases e:x=y
  .simp(disch:=omega)[-getElem?_pos,g216B0,hx,hi,e,bI]
  .simp(disch:=omega)[-getElem?_pos,g216B0,hx,hi,e,bI,aq,a];cases bI (fun x=>decide (x=y)) (L.drop (i+1))with
   |none=>rfl
   |some k=>simp;omega
def qp(s:List bF)(y:bF):Int:=mq (bI (fun x=>decide (x=y)) s)
def c216(hS:Sm L):(aE AP).p 216 [.ae (L.map .str),.str y]=some [vI (qp L y)]:=by
 unfold qp;have h:=aaK hS y _ 0 rfl (by omega);simp at h;rw[aB g216];cases hi:bI (fun x=>decide (x=y)) L with
 |none=>rw[hi]at h;simp at h;simp[g216,h,mq]
 |some k=>rw[hi]at h;simp at h;simp[g216,h,mq]
def P_:qp s y<0<->y∉s:=by
 unfold qp;have h:=wT (p:=fun x=>decide (x=y)) (s:=s);have e:s.any (fun x=>decide (x=y))=decide (y∈s):=by rw[za0];simp
 rw[e]at h;by_cases hy:y∈s
 .rw[zaE hy]at h;have h:=zca h;exact⟨fun h'=>absurd h (zdl.2 h'),fun h'=>absurd hy h'⟩
 .rw[zaB hy]at h;have h:=of_decide_eq_false h;exact⟨fun _=>hy,fun _=>zdl.1 h⟩
def Yj:List Dt->bF->Option Dt
 |[],_=>none
 |d::r,s=>if d.name=s then some d else Yj r s
def T4(ds:List Dt)(s:bF):Option Nat:=if s=[73,110,116]then some 0 else if s=[45,62]then some 2 else(Yj ds s).map (·.params.length)
def rA:Option Nat->List PV
 |some n=>[vI n,.bool true]
 |none=>[vI 0,.bool false]
def aaL(hS:Sm ds)(s:bF):∀(n i:Nat),ds.length-i=n->i<=ds.length->
   cl AP g217L0 ⟨[(0,.pv (.ae (ds.map Dt.pv))),(1,.pv (.str s)),(6,.pv (vI i))],[],[],[]⟩=
     match Yj (ds.drop i) s with
     |some d=>some (.ret,⟨[(4,.pv (vI d.params.length)),(5,.pv (.bool true))],[],[],[]⟩)
     |none=>some (.exit 1,⟨[(0,.pv (.ae (ds.map Dt.pv))),(1,.pv (.str s)),(6,.pv (vI ds.length)),(15,.pv (.bool false))],[],[],[]⟩)
 |0,i,hn,hi=>by
  have:i=ds.length:=by omega
  subst this;rw[g217L0e];simp[g217B0,Yj]
 |n+1,i,hn,hi=>by
  have hi:i<ds.length:=(by omega);obtain⟨x,hx⟩:=aR hi;unfold Sm at hS;have a:=aaL hS s n (i+1) (by omega) (by omega);rw[g217L0e]at a⊢;rw[aZ hx];simp at a;by_cases e:x.name=s
  .simp(disch:=omega)[-getElem?_pos,g217B0,hx,hi,e,Yj]
  .simp(disch:=omega)[-getElem?_pos,g217B0,hx,hi,e,Yj,aq];rw[g217L0e];simp[a]
def c217(hS:Sm ds){s:bF}:(aE AP).p 217 [.ae (ds.map Dt.pv),.str s]=some (rA (T4 ds s)):=by
 have h:=aaL hS s _ 0 rfl (by omega);rw[aB g217];rw[g217L0e]at h;simp at h;unfold T4;by_cases e1:s=[73,110,116]
 .simp[g217,e1,rA]
 .by_cases e2:s=[45,62]
  .simp[g217,e2,rA]
  .cases hl:Yj ds s with
   |none=>rw[hl]at h;simp at h;simp[g217,e1,e2,g217L0e,h,rA]
   |some d=>rw[hl]at h;simp at h;simp[g217,e1,e2,g217L0e,h,rA]
def lN(ds:List Dt)(l:List bF)(t:Ty):Int:=
 if t.kind=5 then(if t.name∈l then 0 else 7)
 else if t.kind=4 then(match T4 ds t.name with|none=>7|some n=>if n=t.args.length then 0 else 8)else 0
mutual
def Ty.formed(ds:List Dt)(l:List bF):Ty->Int
 |⟨k,n,i,h,as⟩=>if lN ds l ⟨k,n,i,h,as⟩≠0 then lN ds l ⟨k,n,i,h,as⟩else Ty.gW ds l as
def Ty.gW(ds:List Dt)(l:List bF):List Ty->Int
 |[]=>0
 |a::r=>if a.formed ds l≠0 then a.formed ds l else Ty.gW ds l r
end
def Ty.y7(ds:List Dt)(l:List bF)(t:Ty):t.formed ds l=if lN ds l t≠0 then lN ds l t else Ty.gW ds l t.args:=by
 cases t;simp only[Ty.formed]
def Yk(t:Ty):List AV:=[.pv (vI t.kind),.pv (.str t.name),.pv (vI t.id),.pv (vI t.home),.pv (.ae (t.args.map Ty.pv))]
@[simp] theorem aco(t:Ty):Yk t=[.pv (vI t.kind),.pv (.str t.name),.pv (vI t.id),.pv (vI t.home),.pv (.ae (t.args.map Ty.pv))]:=rfl
def aaM{ds:List Dt}{l:List bF}{b:Ty}(hS:Sm b.args)(h:∀x∈b.args,(aE AP).p 186 [.ae (ds.map Dt.pv),x.pv,.ae (l.map .str)]=some [vI (x.formed ds l)]):∀(n i:Nat),b.args.length-i=n->i<=b.args.length->
   cl AP g186L0 ⟨[(0,.pv (.ae (ds.map Dt.pv))),(2,.pv (.ae (l.map .str))),(4,.au 4 0),(9,.pv (vI i))],[(4,Yk b)],[],[]⟩=
     if Ty.gW ds l (b.args.drop i)≠0 then some (.ret,⟨[(6,.pv (vI (Ty.gW ds l (b.args.drop i))))],[],[],[]⟩)
     else some (.exit 1,⟨[(0,.pv (.ae (ds.map Dt.pv))),(2,.pv (.ae (l.map .str))),(4,.au 4 0),(9,.pv (vI b.args.length)),(40,.pv (.bool false))],[(4,Yk b)],[],[]⟩)
 |0,i,hn,hi=>by
  have:i=b.args.length:=by omega
  subst this;rw[g186L0e];simp[g186B0,Ty.gW]
 |n+1,i,hn,hi=>by
  have hi:i<b.args.length:=(by omega);obtain⟨x,hx⟩:=aR hi;unfold Sm at hS;have k:=h x (aM hx);have a:=aaM hS h n (i+1) (by omega) (by omega);rw[g186L0e]at a⊢;rw[aZ hx];simp at a k;by_cases e:x.formed ds l=0
  .rw[e]at k;simp(disch:=omega)[-getElem?_pos,g186B0,hx,hi,k,Ty.gW,e,aq];rw[g186L0e];simp[a]
  .simp(disch:=omega)[-getElem?_pos,g186B0,hx,hi,k,Ty.gW,e,aq]
inductive Ty.Cw:Ty->Prop
 |mk {t:Ty}:(t.kind≠4->t.args=[])->(∀x∈t.args,Ty.Cw x)->Ty.Cw t
def Ty.Cw.bare(h:b.Cw):b.kind≠4->b.args=[]:=by cases h;assumption
def Ty.Cw.df(h:b.Cw):∀x∈b.args,x.Cw:=by cases h;assumption
def c186(hd:Sm ds){l:List bF}(hl:Sm l)(b:E.Ok)(hC:E.Cw):(aE AP).p 186 [.ae (ds.map Dt.pv),E.pv,.ae (l.map .str)]=some [vI (E.formed ds l)]:=by
 revert b hC
 refine Ty.cb (p:=fun E=>E.Ok->E.Cw->(aE AP).p 186 [.ae (ds.map Dt.pv),E.pv,.ae (l.map .str)]=some [vI (E.formed ds l)]) ?_ E;intro E i b hC;have h:=aaM (ds:=ds) (l:=l) b.sm (fun x hx=>i x hx (b.df x hx) (hC.df x hx)) _ 0 rfl (by omega);have g:=c216 hl (y:=E.name);have k2:=c217 hd (s:=E.name);have d:=P_ (s:=l) (y:=E.name);rw[aB g186,Ty.y7];rw[g186L0e]at h;simp at h;by_cases e1:E.kind=5
 .by_cases e2:E.name∈l
  .simp[e2]at d;have c:¬qp l E.name<0:=by omega
   have e:=hC.bare (by rw[e1];decide);simp[g186,e1,e2,g,c,lN,e,Ty.gW]
  .simp[e2]at d;simp[g186,e1,e2,g,d,lN]
 .by_cases e4:E.kind=4
  .cases a:T4 ds E.name with
   |none=>
    rw[a]at k2;simp[rA]at k2;simp[g186,e1,e4,k2,lN,a]
   |some m=>
    rw[a]at k2;simp[rA]at k2;by_cases e5:m=E.args.length
    .by_cases e3:Ty.gW ds l E.args=0
     .simp[e3,e4]at h;simp[g186,e4,e5,e3,k2,lN,a,g186L0e,h]
     .simp[e3,e4]at h;simp[g186,e4,e5,e3,k2,lN,a,g186L0e,h]
    .have f:¬(m:Int)=E.args.length:=(by omega);simp[g186,e4,e5,f,k2,lN,a]
  .have e:=hC.bare e4;simp[g186,e1,e4,lN,e,Ty.gW]
structure dB(E:Type) where
 pos:Int
 dy:List UInt8
 vars:List (List UInt8)
 body:E
structure Ex where
 kind:Int
 pos:Int
 name:List UInt8
 num:Int
 kids:List Ex
 aF:List (dB Ex)
 ty:Ty
abbrev Ar:=dB Ex
def cA:Ty:=⟨0,[],0,0,[]⟩
instance:Inhabited Ex:=⟨⟨0,0,[],0,[],[],cA⟩⟩
instance:Inhabited Ar:=⟨⟨0,[],[],default⟩⟩
def Ty.cells(t:Ty):List PV:=[.int .i64 t.kind,.str t.name,.int .i64 t.id,.int .i64 t.home,.ae (t.args.map Ty.pv)]
mutual
def Ex.cells:Ex->List PV
 |⟨k,p,n,m,ks,as,t⟩=>.int .i64 k::.int .i64 p::.str n::.int .i64 m::.ae (Ex.eE ks)::.ae (Ex.avs as)::t.cells
def Ex.eE:List Ex->List PV
 |[]=>[]
 |e::r=>.agg (Ex.cells e)::Ex.eE r
def Ex.avs:List (dB Ex)->List PV
 |[]=>[]
 |⟨p,c,v,b⟩::r=>.agg (.int .i64 p::.str c::.ae (v.map .str)::Ex.cells b)::Ex.avs r
end
def Ex.pv(e:Ex):PV:=.agg e.cells
def Ar.pv(a:Ar):PV:=.agg (.int .i64 a.pos::.str a.dy::.ae (a.vars.map .str)::a.body.cells)
def Ex.lL:∀l:List Ex,Ex.eE l=l.map Ex.pv
 |[]=>by simp[Ex.eE]
 |e::r=>by simp[Ex.eE,Ex.lL r,Ex.pv]
def Ex.Jk:∀l:List Ar,Ex.avs l=l.map Ar.pv
 |[]=>by simp[Ex.avs]
 |⟨p,c,v,b⟩::r=>by simp[Ex.avs,Ex.Jk r,Ar.pv]
def Ex.aG(e:Ex):e.cells=[.int .i64 e.kind,.int .i64 e.pos,.str e.name,.int .i64 e.num,.ae (e.kids.map Ex.pv),.ae (e.aF.map Ar.pv),.int .i64 e.ty.kind,.str e.ty.name,.int .i64 e.ty.id,.int .i64 e.ty.home,.ae (e.ty.args.map Ty.pv)]:=by
 cases e;simp only[Ex.cells,Ex.lL,Ex.Jk,Ty.cells]
@[simp] theorem Ex.lM(e:Ex):e.pv=.agg [.int .i64 e.kind,.int .i64 e.pos,.str e.name,.int .i64 e.num,.ae (e.kids.map Ex.pv),.ae (e.aF.map Ar.pv),.int .i64 e.ty.kind,.str e.ty.name,.int .i64 e.ty.id,.int .i64 e.ty.home,.ae (e.ty.args.map Ty.pv)]:=by
 rw[Ex.pv,Ex.aG]
@[simp] theorem Ar.lM(a:Ar):a.pv=.agg [.int .i64 a.pos,.str a.dy,.ae (a.vars.map .str),.int .i64 a.body.kind,.int .i64 a.body.pos,.str a.body.name,.int .i64 a.body.num,.ae (a.body.kids.map Ex.pv),.ae (a.body.aF.map Ar.pv),.int .i64 a.body.ty.kind,.str a.body.ty.name,.int .i64 a.body.ty.id,.int .i64 a.body.ty.home,.ae (a.body.ty.args.map Ty.pv)]:=by
 rw[Ar.pv,Ex.aG]
def y8:El Ex.pv 11 true:=⟨fun x=>by simp,fun x=>by simp⟩
def Yl:El Ar.pv 14 true:=⟨fun x=>by simp,fun x=>by simp⟩
@[simp] theorem ZO{l:List Ex}:bj 11 (l.map Ex.pv)=true:=y8.head l
@[simp] theorem ZP{l:List Ar}:bj 14 (l.map Ar.pv)=true:=Yl.head l
@[simp] theorem Ym{G:List (List UInt8)}:bj 1 (G.map PV.str)=true:=HY.head G
@[simp] theorem ZQ{l:List Int}:bj 1 (l.map vI)=true:=gL.head l
def Ex.ch(e:Ex):List Ex:=e.kids++e.aF.map dB.body
def dB.sJ(a:Ar):SizeOf.sizeOf a.body<SizeOf.sizeOf a:=by cases a;simp;omega
variable{p:Ex->Prop}
def Ex.cb(h:∀e:Ex,(∀x∈e.kids,p x)->(∀a∈e.aF,p a.body)->p e):∀e,p e
 |⟨k,ps,n,m,ks,as,t⟩=>h _ (fun x b=>Ex.cb h x) (fun a c=>Ex.cb h a.body)
termination_by e=>SizeOf.sizeOf e
decreasing_by
 .have:=_root_.List.sizeOf_lt_of_mem b;simp at*;omega
 .have:=_root_.List.sizeOf_lt_of_mem c;have:=dB.sJ a;simp at*;omega
def Ex.recC(h:∀e:Ex,(∀x∈e.ch,p x)->p e):∀e,p e:=Ex.cb fun e h1 h2=>h e fun x hx=>by
 rw[Ex.ch,zae,zak]at hx;rcases hx with hx|⟨a,b,rfl⟩
 .exact h1 x hx
 .exact h2 a b
structure Sl where
 bd:Bool
 ty:Ty
 home:Int
 base:Bool
def Sl.pv(x:Sl):PV:=.agg [.bool x.bd,vI x.ty.kind,.str x.ty.name,vI x.ty.id,vI x.ty.home,.ae (x.ty.args.map Ty.pv),vI x.home,.bool x.base]
@[simp] theorem Sl.lM(x:Sl):x.pv=.agg [.bool x.bd,.int .i64 x.ty.kind,.str x.ty.name,.int .i64 x.ty.id,.int .i64 x.ty.home,.ae (x.ty.args.map Ty.pv),.int .i64 x.home,.bool x.base]:=rfl
structure Ch where
 id:Int
 aQ:Sl
 nw:Bool
def Ch.pv(x:Ch):PV:=.agg [vI x.id,.bool x.aQ.bd,vI x.aQ.ty.kind,.str x.aQ.ty.name,vI x.aQ.ty.id,vI x.aQ.ty.home,.ae (x.aQ.ty.args.map Ty.pv),vI x.aQ.home,.bool x.aQ.base,.bool x.nw]
@[simp] theorem Ch.lM(x:Ch):x.pv=.agg [.int .i64 x.id,.bool x.aQ.bd,.int .i64 x.aQ.ty.kind,.str x.aQ.ty.name,.int .i64 x.aQ.ty.id,.int .i64 x.aQ.ty.home,.ae (x.aQ.ty.args.map Ty.pv),.int .i64 x.aQ.home,.bool x.aQ.base,.bool x.nw]:=rfl
structure cK where
 sl:List Sl
 tr:List Ch
def cK.pv(s:cK):PV:=.agg [.ae (s.sl.map Sl.pv),.ae (s.tr.map Ch.pv)]
@[simp] theorem cK.lM(s:cK):s.pv=.agg [.ae (s.sl.map Sl.pv),.ae (s.tr.map Ch.pv)]:=rfl
structure cK.Ok(s:cK)(n m:Nat):Prop where
 sl:s.sl.length<=n
 tr:s.tr.length<=m
 ty:∀x∈s.sl,x.ty.Ok
def V8:El Sl.pv 8 true:=⟨fun _=>rfl,fun _=>rfl⟩
def P':El Ch.pv 10 true:=⟨fun _=>rfl,fun _=>rfl⟩
def dr(s:List Sl)(t:Ty):Option Sl:=if t.kind=1/\0<=t.id then(match s[t.id.toNat]? with|some x=>if x.bd then some x else none|none=>none)else none
variable{C:List Sl}{s:cK}
def cq{x:Sl}(h:dr C b=some x):b.kind=1/\∃i:Nat,b.id=i/\C[i]?=some x/\x.bd=true:=by
 unfold dr at h;split at h
 .rename_i q;refine⟨q.1,b.id.toNat,by omega,?_⟩;split at h
  .rename_i y hy;split at h
   .rename_i a;cases h;exact⟨hy,a⟩
   .cases h
  .cases h
 .cases h
def c392{t:Ty}:(aE AP).p 392 [s.pv,t.pv]=some [.bool (dr s.sl t).isSome]:=by
 rw[aB g392];unfold dr;by_cases k:t.kind=1
 .by_cases h0:0<=t.id
  .obtain⟨i,hi⟩:∃i:Nat,t.id=i:=⟨t.id.toNat,by omega⟩;by_cases hl:i<s.sl.length
   .obtain⟨x,hx⟩:=aR hl;simp(disch:=omega)[-getElem?_pos,g392,k,hi,hl,hx];cases x.bd<;>rfl
   .have hx:s.sl[i]?=none:=(by simp;omega);simp(disch:=omega)[-getElem?_pos,g392,k,hi,hl,hx]
  .simp(disch:=omega)[g392,k,h0]
 .simp(disch:=omega)[g392,k]
def wk(s:List Sl):Nat->Ty->Ty
 |0,t=>t
 |n+1,t=>match dr s t with|some x=>wk s n x.ty|none=>t
def pJ(hs:∀x∈C,x.ty.Ok):∀{n:Nat}{t:Ty},t.Ok->(wk C n t).Ok
 |0,t,h=>h
 |n+1,t,h=>by
  unfold wk;split
  .rename_i x hx;obtain⟨_,i,_,hi,_⟩:=cq hx;exact pJ hs (hs x (aM hi))
  .exact h
def tC(t:Ty):List AV:=[.pv (vI t.kind),.pv (.str t.name),.pv (vI t.id),.pv (vI t.home),.pv (.ae (t.args.map Ty.pv))]
def sC(s:cK):List AV:=[.pv (.ae (s.sl.map Sl.pv)),.pv (.ae (s.tr.map Ch.pv))]
def zC(k:Nat):List AV:=[.pv (vI 0),.pv (.str []),.pv (vI 0),.pv (vI 0),.own [] k]
def aaN{s:cK}(hs:Sm s.sl):∀(n i:Nat),s.sl.length+1-i=n->i<=s.sl.length+1->∀t:Ty,∃(b:Nat),
   cl AP g386L0 ⟨[(2,.au 2 0),(3,.au 3 0),(4,.au 4 0),(5,.pv (vI i))],[(2,sC s),(3,tC t),(4,zC 0)],[],[0]⟩=
     some (.exit 0,⟨[(2,.au 2 0),(3,.au 3 0),(4,.au 4 0),(5,.pv (vI b)),(15,.pv (.bool false))],[(2,sC s),(3,tC (wk s.sl n t)),(4,zC 0)],[],[0]⟩)
 |0,i,hn,hi,t=>by
  refine⟨i,?_⟩;have h1:¬(i:Int)<=s.sl.length:=by omega
  rw[g386L0e];simp[g386B0,sC,tC,zC,wk,h1]
 |n+1,i,hn,hi,t=>by
  have h1:(i:Int)<=s.sl.length:=(by omega);have k:=c392 (s:=s) (t:=t);unfold Sm at hs;rw[g386L0e];cases a:dr s.sl t with
  |none=>
   refine⟨i,?_⟩;rw[a]at k;simp at k;simp[g386B0,sC,tC,zC,wk,h1,a,k]
  |some x=>
   obtain⟨_,j,hj,hx,_⟩:=cq a;obtain⟨b,e⟩:=aaN hs n (i+1) (by omega) (by omega) x.ty;refine⟨b,?_⟩;rw[a]at k;have hl:j<s.sl.length:=by obtain⟨h,_⟩:=zaa.1 hx;exact h
   rw[g386L0e]at e;simp[hj]at k;simp[sC,tC,zC]at e;simp(disch:=omega)[-getElem?_pos,g386B0,sC,tC,zC,wk,h1,a,k,hj,hx,hl,aq];rw[g386L0e];simp[e]
def c386(hs:Sm s.sl){t:Ty}:(aE AP).p 386 [s.pv,t.pv]=some [(wk s.sl (s.sl.length+1) t).pv]:=by
 obtain⟨a,h⟩:=aaN hs _ 0 rfl (by omega) t;rw[aB g386];rw[g386L0e]at h;simp[sC,tC,zC]at h;simp[g386,g386L0e,h]
def dY(s:List Sl)(t:Ty):Ty:=wk s (s.length+1) t
inductive Tr (s:List Sl):Ty->Nat->Prop
 |mk {t:Ty} (ns:List Nat):ns.length=(dY s t).args.length->(∀(i:Nat) a n,(dY s t).args[i]?=some a->ns[i]?=some n->Tr s a n)->Tr s t (ns.sum+1)
def MY(s:List Sl)(l:List Ty)(ns:List Nat):Prop:=ns.length=l.length/\∀(i:Nat) a n,l[i]?=some a->ns[i]?=some n->Tr s a n
def MY.nil:MY C [] []:=⟨rfl,by intro i a n h;simp at h⟩
def MY.snoc{s:List Sl}{l:List Ty}{ns:List Nat}(h:MY s l ns){a:Ty}{n:Nat}(d:Tr s a n):MY s (l++[a]) (ns++[n]):=by
 refine⟨by simp[h.1],?_⟩;intro i b m c hm;have hl:=h.1;by_cases hi:i<l.length
 .rw[zao hi]at c;rw[zao (by omega)]at hm;exact h.2 i b m c hm
 .rw[zaN (by omega)]at c;rw[zaN (by omega),hl]at hm;by_cases e:i-l.length=0
  .rw[e]at c hm;simp at c hm;rw[<-c,<-hm];exact d
  .have h1:1<=i-l.length:=(by omega);have:([a]:List Ty)[i-l.length]?=none:=(by simp;omega);rw[this]at c;cases c
def Tr.inv(h:Tr C b i):∃ns,MY C (dY C b).args ns/\i=ns.sum+1:=by
 cases h with
 |mk ns h1 h2=>exact⟨ns,⟨h1,h2⟩,rfl⟩
def A6:∀{ns:List Nat}{i n:Nat},ns[i]?=some n->n<=ns.sum
 |a::r,0,n,h=>by simp at h;subst h;simp
 |a::r,i+1,n,h=>by simp at h;have:=A6 h;simp;omega
def aaO(hs:Sm s.sl)(B:∀E∈s.sl,E.ty.Ok)(hm:m<1000000)(z:∀m':Nat,m'<m->∀t,t.Ok->∃r:Nat,(aE AP).p 371 [s.pv,t.pv,vI m']=some [vI r]/\1<=r/\r<=m'+1/\(r<=m'->Tr s.sl t r)/\∀r0,Tr s.sl t r0->r0<=m'->r=r0)
    (hx:E.Ok):∀(k i n:Nat),E.args.length-i=k->i<=E.args.length->1<=n->n<=m+1->(n<=m->∃ns,MY s.sl (E.args.take i) ns/\n=ns.sum+1)->(∀ns,MY s.sl E.args ns->ns.sum+1<=m->n=(ns.take i).sum+1)->∃o n':Nat,
   cl AP g371L0 ⟨[(2,.pv (vI m)),(3,.au 3 0),(4,.au 4 0),(7,.pv (vI n)),(8,.pv (vI i))],[(3,sC s),(4,tC E)],[],[]⟩=
     some (.exit 0,⟨[(2,.pv (vI m)),(3,.au 3 0),(4,.au 4 0),(7,.pv (vI n')),(8,.pv (vI o)),(21,.pv (.bool false))],[(3,sC s),(4,tC E)],[],[]⟩)/\1<=n'/\n'<=m+1/\(n'<=m->∃ns,MY s.sl E.args ns/\n'=ns.sum+1)/\∀ns,MY s.sl E.args ns->ns.sum+1<=m->n'=ns.sum+1
 |0,i,n,A,hi,h1,h2,h3,h4=>by
  have:i=E.args.length:=by omega
  subst this;refine⟨E.args.length,n,?_,h1,h2,by simpa using h3,fun ns q h=>by have:=h4 ns q h;rwa [<-q.1,zbu]at this⟩;rw[g371L0e];simp[g371B0,sC,tC]
 |k+1,i,n,A,hi,h1,h2,h3,h4=>by
  have hi:i<E.args.length:=(by omega);obtain⟨a,g⟩:=aR hi;have u:=hx.sm;unfold Sm at u;by_cases hn:n<=m
  .have D:m-n<m:=by clear h3;omega
   obtain⟨r,e,r1,r2,r3,j⟩:=z (m-n) D a (hx.df a (aM g))
   have g6:∀ns,MY s.sl E.args ns->ns.sum+1<=m->n+r=(ns.take (i+1)).sum+1:=by
    intro ns q h;have f:=h4 ns q h;have v:i<ns.length:=by rw[q.1];exact hi
    obtain⟨w,hw⟩:=aR v;have l:(ns.take (i+1)).sum=(ns.take i).sum+w:=by rw[zaM,hw,zcm];simp
    have d:(ns.take (i+1)).sum<=ns.sum:=by
     have:=zcf (i+1) ns;rw[<-this,zcm,this];omega
    have:=j w (q.2 i a w g hw) (by clear h3 r3 h4 j;omega);rw[l,f,this];omega
   have c:((m:Int)-n)=((m-n:Nat):Int):=by clear h3 r3;omega
   have g5:n+r<=m->∃ns,MY s.sl (E.args.take (i+1)) ns/\n+r=ns.sum+1:=by
    intro h;obtain⟨ns,q,e2⟩:=h3 hn;refine⟨ns++[r],?_,by rw[zcm,e2];simp;omega⟩;rw[zaM,g];have hr:r<=m-n:=by clear h3;omega
    exact q.snoc (r3 hr)
   clear h3 h4 j;have g1:E.args.length-(i+1)=k:=by clear g5 g6 r3;omega
   have g2:1<=n+r:=by clear g5 g6 r3;omega
   have C:n+r<=m+1:=by clear g5 g6 r3;omega
   obtain⟨o,n',y,f,l,d⟩:=aaO hs B hm z hx k (i+1) (n+r) g1 hi g2 C g5 g6;refine⟨o,n',?_,f,l,d⟩;have b:(n:Int)<=m:=by clear g5 g6 d r3;omega
   rw[g371L0e]at y ⊢;simp at e;simp[sC,tC]at y;simp(disch:=omega)[-getElem?_pos,g371B0,sC,tC,hi,g,b,aq,c,e];rw[g371L0e];simp[y]
  .refine⟨i,n,?_,h1,h2,fun h=>absurd h hn,fun ns q h=>absurd (by
    have f:=h4 ns q h
    have d:(ns.take i).sum<=ns.sum:=by
     have:=zcf i ns;rw[<-this,zcm,this];omega
    clear h3;omega) hn⟩
   clear h3 h4;have b:¬(n:Int)<=m:=by omega
   rw[g371L0e];simp(disch:=omega)[-getElem?_pos,g371B0,sC,tC,hi,b]
def c371(hs:Sm s.sl)(g:∀x∈s.sl,x.ty.Ok)(m:Nat)(hm:m<1000000):∀t:Ty,t.Ok->∃r:Nat,(aE AP).p 371 [s.pv,t.pv,vI m]=some [vI r]/\1<=r/\r<=m+1/\(r<=m->Tr s.sl t r)/\∀r0,Tr s.sl t r0->r0<=m->r=r0:=by
 induction m using Nat.strongRecOn with
 |ind m i=>
  intro t ht;have k:=c386 hs (t:=t);have hw:(wk s.sl (s.sl.length+1) t).Ok:=pJ g ht;obtain⟨o,n',e,n,l,d,c⟩:=aaO hs g hm (fun m' h t ht=>i m' h (by omega) t ht) hw _ 0 1 rfl (by omega) (by omega) (by omega) (fun _=>⟨[],by simpa using MY.nil,rfl⟩) (fun _ _ _=>by simp);refine⟨min n' (m+1),?_,by clear d c;omega,by clear d c;omega,?_,fun r0 h0 hr=>?_⟩
  rotate_left
  rotate_left
  .obtain⟨ns,hT,e0⟩:=h0.inv;have:=c ns hT (by rw[<-e0];exact hr);clear d c;omega
  .rw[aB g371];rw[g371L0e]at e;have f:min (n':Int) ((m:Int)+1)=((min n' (m+1):Nat):Int):=by clear d c;omega
   generalize wk s.sl (s.sl.length+1) t=x at*;simp at k;simp[sC,tC]at e;simp(disch:=omega)[g371,k,g371L0e,e,aq,f];omega
  .intro h;have j:n'<=m:=by clear d c;omega
   obtain⟨ns,a,b⟩:=d j;have:min n' (m+1)=ns.sum+1:=by omega
   rw[this];exact .mk ns a.1 a.2
def uC(x:Ty)(acc:List Ty)(k:Nat):List AV:=[.pv (vI x.kind),.pv (.str x.name),.pv (vI x.id),.pv (vI x.home),.own (acc.map Ty.pv) k]
def aaP{P:Ty->Ty->Prop}(hx:E.Ok){ns:List Nat}(g:ns.length=E.args.length)(z:∀(i:Nat) a n,E.args[i]?=some a->ns[i]?=some n->∃u:Ty,(aE AP).p 373 [s.pv,a.pv]=some [u.pv]/\u.Ok/\u.nodes.length=n/\P a u):∀(k i:Nat),E.args.length-i=k->i<=E.args.length->∀acc:List Ty,acc.length=i->(∀u∈acc,u.Ok)->(acc.flatMap Ty.nodes).length=(ns.take i).sum->(∀(j:Nat) a b,E.args[j]?=some a->acc[j]?=some b->P a b)->∃us:List Ty,
   cl AP g373L0 ⟨[(2,.au 2 0),(3,.au 3 0),(4,.au 4 0),(5,.au 5 0),(6,.pv (vI i))],[(2,sC s),(3,tC E),(4,zC 0),(5,uC E acc 1)],[],[0,acc.length]⟩=
     some (.exit 0,⟨[(2,.au 2 0),(3,.au 3 0),(4,.au 4 0),(5,.au 5 0),(6,.pv (vI E.args.length)),(16,.pv (.bool false))],[(2,sC s),(3,tC E),(4,zC 0),(5,uC E us 1)],[],[0,us.length]⟩)/\us.length=E.args.length/\(∀u∈us,u.Ok)/\(us.flatMap Ty.nodes).length=ns.sum/\∀(j:Nat) a b,E.args[j]?=some a->us[j]?=some b->P a b
 |0,i,A,hi,acc,w,hu,t,hp=>by
  have:i=E.args.length:=by omega
  subst this;refine⟨acc,?_,w,hu,by rw[t,<-g,zbu],hp⟩;rw[g373L0e];simp[g373B0,sC,tC,zC,uC]
 |k+1,i,A,hi,acc,w,hu,t,hp=>by
  have hi:i<E.args.length:=(by omega);obtain⟨a,f⟩:=aR hi;obtain⟨n,hn⟩:=aR (l:=ns) (i:=i) (by omega);have m:=hx.sm;unfold Sm at m;obtain⟨u,e,B,r,o⟩:=z i a n f hn
  obtain⟨us,v,h1,h2,h3,h4⟩:=aaP hx g z k (i+1) (by omega) (by omega) (acc++[u]) (by simp;omega) (by
   intro y hy;simp at hy;rcases hy with hy|rfl
   .exact hu y hy
   .exact B) (by rw[zaM,hn,zco,zat,t];simp[r]) (by
   intro j b c h d;by_cases q:j<acc.length
   .rw[zao q]at d;exact hp j b c h d
   .rw[zaN (by omega)]at d
    have hj:j-acc.length=0:=by
     have:=(zaa.1 d).1;simp at this;omega
    rw[hj]at d;simp at d;have:j=i:=by omega
    subst this;rw[f]at h;cases h;subst d;exact o)
  clear hp;refine⟨us,?_,h1,h2,h3,h4⟩;have h:(acc.length+1)*64<=140737488355328:=by omega
  rw[g373L0e]at v ⊢;simp at e;simp[sC,tC,zC,uC]at v;simp(disch:=omega)[-getElem?_pos,g373B0,sC,tC,zC,uC,hi,f,aq,e,h];rw[g373L0e];simp[v]
inductive A7 (s:List Sl):Ty->Ty->Prop
 |mk {t u:Ty}:u.kind=(dY s t).kind->u.name=(dY s t).name->u.id=(dY s t).id->u.home=(dY s t).home->u.args.length=(dY s t).args.length->(∀(i:Nat) a b,(dY s t).args[i]?=some a->u.args[i]?=some b->A7 s a b)->A7 s t u
def c373(hs:Sm s.sl)(f:∀x∈s.sl,x.ty.Ok)(r:Nat):∀t:Ty,Tr s.sl t r->t.Ok->∃u:Ty,(aE AP).p 373 [s.pv,t.pv]=some [u.pv]/\u.Ok/\u.nodes.length=r/\A7 s.sl t u:=by
 induction r using Nat.strongRecOn with
 |ind r d=>
  intro t ht c;have k:=c386 hs (t:=t);have hw:(wk s.sl (s.sl.length+1) t).Ok:=pJ f c;obtain⟨ns,hn,hr⟩:=ht.inv;unfold dY at hn
  obtain⟨us,e,h1,h2,h3,h4⟩:=aaP (s:=s) (P:=A7 s.sl) hw hn.1 (fun i a n hi b=>by
   have:=A6 b;exact d n (by omega) a (hn.2 i a n hi b) (hw.df a (aM hi))) _ 0 rfl (by omega) [] rfl (by simp) rfl (by simp)
  refine⟨⟨(wk s.sl (s.sl.length+1) t).kind,(wk s.sl (s.sl.length+1) t).name,(wk s.sl (s.sl.length+1) t).id,(wk s.sl (s.sl.length+1) t).home,us⟩,?_,⟨by have:=hw.sm;unfold Sm at*;simp only;omega,h2⟩,by rw[Ty.aI];simp only[zay];omega,.mk rfl rfl rfl rfl h1 h4⟩;rw[aB g373];rw[g373L0e]at e;generalize wk s.sl (s.sl.length+1) t=x at*;simp at k;simp[sC,tC,zC,uC]at e;simp[g373,k,g373L0e,e]
def c355(hs:Sm s.sl)(b:∀x∈s.sl,x.ty.Ok)(hm:m<1000000)(ht:E.Ok):∃r:Nat,(aE AP).p 355 [s.pv,E.pv,vI m]=some [vI r]/\1<=r/\r<=m+1/\(r<=m->Tr s.sl E r):=by
 obtain⟨r,e,h,h2,h3,_⟩:=c371 hs b m hm E ht;refine⟨r,?_,h,h2,h3⟩;rw[aB g355];simp at e;have a:max (m:Int) 0=m:=by omega
 simp[g355,a,e]
def c355y(hs:Sm s.sl)(b:∀x∈s.sl,x.ty.Ok)(hm:m<1000000)(ht:E.Ok)(hT:Tr s.sl E i)(hr:i<=m):(aE AP).p 355 [s.pv,E.pv,vI m]=some [vI i]:=by
 obtain⟨c,e,_,_,_,h⟩:=c371 hs b m hm E ht;rw[h i hT hr]at e;rw[aB g355];simp at e;have a:max (m:Int) 0=m:=by omega
 simp[g355,a,e]
def c358y(hs:Sm s.sl)(b:∀x∈s.sl,x.ty.Ok)(ht:E.Ok)(hT:Tr s.sl E i)(hr:i<=4000):∃u:Ty,(aE AP).p 358 [s.pv,E.pv]=some [u.pv,.bool true]/\u.Ok/\u.nodes.length=i/\A7 s.sl E u:=by
 have e:=c355y hs b (m:=4000) (by omega) ht hT hr;obtain⟨u,e2,h⟩:=c373 hs b i E hT ht;refine⟨u,?_,h⟩;simp at e e2;have a:¬(4000:Int)<i:=by omega
 rw[aB g358];simp[g358,e,a,e2]
def c358(hs:Sm s.sl)(c:∀x∈s.sl,x.ty.Ok)(ht:E.Ok):∃(u:Ty)(b:Bool),(aE AP).p 358 [s.pv,E.pv]=some [u.pv,.bool b]/\u.Ok/\u.nodes.length<=4000:=by
 obtain⟨r,e,h1,h2,h3⟩:=c355 hs c (m:=4000) (by omega) ht;simp at e;by_cases hr:r<=4000
 .obtain⟨u,e2,hu,d,_⟩:=c373 hs c r E (h3 hr) ht;refine⟨u,true,?_,hu,by omega⟩;simp at e2;have a:¬(4000:Int)<r:=by omega
  rw[aB g358];simp[g358,e,a,e2]
 .refine⟨cA,false,?_,bw rfl,by rw[Ty.aI];simp[cA]⟩;have a:(4000:Int)<r:=by omega
  rw[aB g358];simp[g358,e,a,cA]
def c388:(aE AP).p 388 []=some [(cK.mk [] []).pv]:=by
 rw[aB g388];simp[g388]
def a7(s:cK)(home:Int)(b:Bool):cK:=⟨s.sl++[⟨false,cA,home,b⟩],s.tr++[⟨s.sl.length,⟨false,cA,0,false⟩,true⟩]⟩
def c381(hs:s.Ok n m)(hn:n<=1000000)(hm:m<=1300000000000)(home:Int)(b:Bool):(aE AP).p 381 [s.pv,vI home,.bool b]=some [(a7 s home b).pv,(az s.sl.length).pv]:=by
 have k:=c63 (n:=s.sl.length);have h1:=hs.sl;have h2:=hs.tr;have b1:s.sl.length*88<=140737488355328:=by omega
 have d:(s.sl.length+1)*88<=140737488355328:=by omega
 have c:s.tr.length*104<=140737488355328:=by omega
 have a:(s.tr.length+1)*104<=140737488355328:=by omega
 have e1:=V8.head s.sl;have e2:=P'.head s.tr;simp at k e1 e2;rw[aB g381];simp(disch:=omega)[g381,a7,cA,az,k,b1,d,c,a,e1,e2]
 (repeat' split)<;>simp_all
def tx(l:List (List UInt8)):List AV:=l.map fun s=>AV.pv (.str s)
def SA(X:Sh)(l:List (List UInt8))(t:List UInt8):Sh:=X++[some (tx l),some [.pv (.str t)]]
def oo:∀v∈tx G,∃p,v=AV.pv p:=by
 intro v a;simp only[tx,zak]at a;obtain⟨s,_,rfl⟩:=a;exact⟨_,rfl⟩
def gN(c:aY X){t:List UInt8}:aY (SA X l t):=by
 refine c.app fun cs b=>?_;simp at b;rcases b with rfl|rfl
 .exact oo
 .intro v a;simp at a;exact⟨_,a⟩
def H8{t:List UInt8}:(SA X l t)[X.length]?=some (some (tx l)):=by simp[SA]
def Qa{t:List UInt8}:(SA X G t)[X.length+1]?=some (some [.pv (.str t)]):=by simp[SA]
def Qb{l':List (List UInt8)}{t:List UInt8}:(SA X l t).set X.length (some (tx l'))=SA X l' t:=by simp[SA]
def A8{t:List UInt8}:(SA X l t).length=X.length+2:=by simp[SA]
def Qc(h:G[i]?=some F):(tx G)[i]?=some (.pv (.str F)):=by simp[tx,h]
def qq:(tx l).length=l.length:=by simp[tx]
def Yn(h:i<l.length){s:List UInt8}:a_ (tx l) i [.pv (.str s)]=tx (l.set i s):=by
 rw[zbe,zai h];simp[aU,tx,zbi,zcX]
def c413(hn:∀aQ ts,bt aQ ts SH=(SH,aQ,ts)){c:Nat}{x:List UInt8}(a:SH[c]?=some (some [.pv (.str F)]))(b:c<SH.length):
   (aE AP).i 413 [.pv (.str x),.aL c 0] SH []=some ([.pv (.bool (decide (x=F)))],SH,[]):=by
 rw[aC g413];simp[-getElem?_pos,g413,a,hn];by_cases e:x=F<;>simp[e]
def Qd(hn:∀aQ ts,bt aQ ts SH=(SH,aQ,ts))(hs:∀n,gh n SH=SH){c:Nat}{t x:List UInt8}(b:SH[c]?=some (some [.pv (.str t)]))(a:c<SH.length):
   exec (aE AP) .h_ [.fn 413 [.aL c 0],.pv (.str x)] none SH []=some ⟨.pv (.bool (decide (x=t))),none,SH,[]⟩:=by
 have k:=c413 hn b a (x:=x);simp[hn,k,hs]
theorem aaQ(hn:∀aQ ts,bt aQ ts SH=(SH,aQ,ts))(hs:∀n,gh n SH=SH){b c:Nat}(hS:Sm G)(d:SH[b]?=some (some (tx G)))(j:SH[c]?=some (some [.pv (.str F)]))(h:c<SH.length):
   ∀(n i:Nat),G.length-i=n->i<=G.length->
   cl AP (PR 1 false) ⟨[(0,.bl b 1 G.length false),(1,.fn 413 [.aL c 0]),(7,.pv (vI G.length)),(8,.pv (vI i))],[],SH,[]⟩=
     match bI (fun x=>decide (x=F)) (G.drop i)with
     |some k=>some (.ret,⟨[(4,.pv (vI (i+k:Nat)))],[],SH,[]⟩)
     |none=>some (.exit 0,⟨[(0,.bl b 1 G.length false),(1,.fn 413 [.aL c 0]),(7,.pv (vI G.length)),(8,.pv (vI G.length)),(9,.pv (.bool false))],[],SH,[]⟩)
 |0,i,o,hi=>by
  have:i=G.length:=by omega
  subst this;rw[rj];simp[A5,bI,hn]
 |n+1,i,o,hi=>by
  have hi:i<G.length:=(by omega);obtain⟨x,hx⟩:=aR hi;unfold Sm at hS;have f:=aaQ hn hs hS d j h n (i+1) (by omega) (by omega);have g:=Qc hx;have m:dR (tx G)=false:=d_ oo;have a:i+1<=(tx G).length:=(by rw[qq];omega);have q:=Qd hn hs j h (x:=x);simp at f;rw[rj,aZ hx];by_cases e:x=F
  .rw[zaE e]at q;subst e;simp(disch:=omega)[-getElem?_pos,-fE,A5,hx,hi,d,g,m,a,bI,hn,q]
  .rw[zaB e]at q;simp(disch:=omega)[-getElem?_pos,-fE,A5,hx,hi,d,g,m,a,e,bI,aq,hn,q,f];cases bI (fun x=>decide (x=F)) (G.drop (i+1))with
   |none=>rfl
   |some k=>simp;omega
structure Row{α:Type}(f:α->List PV)(sz:Nat):Prop where
 pos:0<sz
 len:∀x,(f x).length=sz
section
variable {α:Type} {f:α->List PV} {sz:Nat}
def bW(f:α->List PV)(l:List α):List AV:=l.flatMap fun x=>(f x).map .pv
theorem Jl:bW f []=[]:=rfl
theorem mw{x:α}{M:List α}:bW f (x::M)=(f x).map .pv++bW f M:=rfl
def uW{M m:List α}:bW f (M++m)=bW f M++bW f m:=by simp[bW]
def gX(h:Row f sz):∀{l:List α},(bW f l).length=l.length*sz
 |[]=>by simp[bW]
 |x::r=>by rw[mw,zat,zaD,h.len,gX h,zay,zaG];omega
def fG{M:List α}:∀v∈bW f M,∃p,v=AV.pv p:=by
 intro v a;simp only[bW,zaf,zak]at a;obtain⟨x,_,p,_,rfl⟩:=a;exact⟨p,rfl⟩
def wZ(h:Row f sz):∀{l:List α}{i:Nat}{x:α},l[i]?=some x->(bW f l).drop (i*sz)=(f x).map .pv++bW f (l.drop (i+1))
 |x::r,0,y,e=>by simp at e;subst e;simp[bW]
 |x::r,i+1,y,e=>by
  have a:=wZ h (l:=r) (i:=i) (x:=y) (by simpa using e);rw[mw,zcD,za6 (by rw[zaD,h.len,zaG];omega),zaD,h.len,show(i+1)*sz-sz=i*sz from by rw[zaG];omega,a];simp
 |[],_,_,e=>by simp at e
def DP(h:Row f sz):∀{l:List α}{i:Nat},i<=l.length->(bW f l).take (i*sz)=bW f (l.take i)
 |l,0,_=>by simp[bW]
 |x::r,i+1,e=>by
  have a:=DP h (l:=r) (i:=i) (by simpa using e);rw[mw,zb1,zaz (by rw[zaD,h.len,zaG];omega),zaD,h.len,show(i+1)*sz-sz=i*sz from by rw[zaG];omega,a];simp[mw]
 |[],i+1,e=>by simp at e
variable{i o:Nat}
def A9(h:Row f sz){M:List α}{x:α}(e:M[i]?=some x){k:Nat}(a:o+k<=sz):((bW f M).drop (i*sz+o)).take k=(((f x).drop o).take k).map .pv:=by
 rw[<-zdj,wZ h e,zcD,zb1,zcA,zaD,h.len];have e1:k-(sz-o)=0:=by omega
 rw[e1,zcQ,zaJ,<-zcX,<-zbi]
def Qe(h:Row f sz){M:List α}(hi:i<M.length){k:Nat}(a:o+k<=sz):i*sz+o+k<=(bW f M).length:=by
 rw[gX h];have:(i+1)*sz<=M.length*sz:=zaH _ hi;rw[zaG]at this;omega
def Yo(h:Row f sz){M:List α}{x:α}(e:M[i]?=some x){k:Nat}(a:o+k<=sz):cm true k (bW f M) (i*sz+o)=some (.agg ((((f x).drop o).take k).map .pv)):=by
 have hi:=(zaa.1 e).1;unfold cm;rw[zai (Qe h hi a),zai rfl,A9 h e a]
def Jm(h:Row f sz){l:List α}{x y:α}(e:l[i]?=some x){vs:List PV}(a:o+vs.length<=sz)(hy:f y=(f x).take o++vs++(f x).drop (o+vs.length)):a_ (bW f l) (i*sz+o) (vs.map .pv)=bW f (l.set i y):=by
 have hi:=(zaa.1 e).1;have e3:l.set i y=l.take i++y::l.drop (i+1):=by rw[zbe,zai hi]
 have e1:=wZ h e;have e2:=DP h (l:=l) (i:=i) (by omega);rw[e3,aU,uW,mw,<-e2,hy]
 have e4:(bW f l).drop (i*sz+o+(vs.map AV.pv).length)=((f x).drop (o+vs.length)).map .pv++bW f (l.drop (i+1)):=by
  rw[zaD,zbD,<-zdj,e1,zcD,zaD,h.len,show o+vs.length-sz=0 from by omega];simp
 have e5:(bW f l).take (i*sz+o)=(bW f l).take (i*sz)++((f x).take o).map .pv:=by
  rw[List.take_add,e1,zb1,zaD,h.len,show o-sz=0 from by omega];simp
 rw[e4,e5];simp
def Jn(h:Row f sz):∀{l:List α},∃ps,fM (bW f l)=some ps/\(chunk sz l.length ps).map PV.agg=l.map fun x=>.agg (f x)
 |[]=>⟨[],rfl,rfl⟩
 |x::r=>by
  obtain⟨ps,h1,h2⟩:=Jn h (l:=r)
  have key:∀(a:List PV)(b:List AV),fM b=some ps->fM (a.map AV.pv++b)=some (a++ps):=by
   intro a b e;induction a with
   |nil=>simpa using e
   |cons c a d=>simp only[zan,za2,fM,jH,d]
  refine⟨f x++ps,key _ _ h1,?_⟩;simp only[zay,chunk,zan];rw[List.take_left' (h.len x),List.drop_left' (h.len x),h2]
def A_(h:Row f sz){l:List α}:((fM (bW f l)).bind (ie sz true l.length)).map PV.ae=some (.ae (l.map fun x=>.agg (f x))):=by
 obtain⟨ps,h1,h2⟩:=Jn h (l:=l);rw[h1];simp only[za8,ie,za4,zaZ,h2]
theorem Jo(h:Row f sz){M:List α}:((M.map fun x=>PV.agg (f x)).flatMap bp).map AV.pv=bW f M:=by
 induction M with
 |nil=>rfl
 |cons x r a=>simp only[zan,zaq,za3,a,mw,bp]
end
abbrev nn(k:Nat):Sh:=List.replicate k none
def jQ(k:Nat):aY (nn k):=by
 intro cs a;simp[nn,zbR]at a
variable{sz n i j N b:Nat}{l:List PV}{s:cK}{o x:Sl}{E:Ty}{S:List Ty}{C:List Sl}{B:Int}{out out' p:List Int}{T:List AV}{dn:List Bool}{e:Ex}{X SH sh:Sh}{α:Type}{G:List (List UInt8)}{L:List bF}{y:bF}{cs:List ke}{ds:List Dt}{d:Dt}{as:List Ar}{P:Ex->Prop}{K K' W:Int->Prop}{r:Int->Ty}
def acp{k:IntKind}{h:Int}(h0:0<=h)(h1:h<=l.length):dC false sz false true false [.pv (.ae l),.pv (.int k h)]=some (.pv (.ae (l.take h.toNat))):=by
 simp[dC,dG,eI,h0,h1]
def aaR{τ:Nat}{k:IntKind}{h:Int}(h0:0<=h)(h1:h<=l.length):dC false sz false true false [.own l τ,.pv (.int k h)]=some (.pv (.ae (l.take h.toNat))):=by
 simp[dC,dG,eI,h0,h1]
def Sl.cells(x:Sl):List PV:=[.bool x.bd,vI x.ty.kind,.str x.ty.name,vI x.ty.id,vI x.ty.home,.ae (x.ty.args.map Ty.pv),vI x.home,.bool x.base]
def qt:Row Sl.cells 8:=⟨by omega,fun _=>rfl⟩
variable{l:List Sl}
def Yp:((fM (bW Sl.cells l)).bind (ie 8 true l.length)).map PV.ae=some (.ae (l.map Sl.pv)):=A_ qt
def Yq:((l.map Sl.pv).flatMap bp).map AV.pv=bW Sl.cells l:=Jo qt
def fH(s:cK)(i:Nat)(o x:Sl):cK:=⟨s.sl.set i x,s.tr++[⟨i,o,false⟩]⟩
def c393{m:Nat}(hs:s.Ok n m)(hn:n<=1000000)(hm:m<=1300000000000)(hi:s.sl[i]?=some o)(x:Sl):(aE AP).p 393 [s.pv,vI i,x.pv]=some [(fH s i o x).pv,.bool true]:=by
 have h1:=hs.sl;have h2:=hs.tr;have hl:i<s.sl.length:=by obtain⟨h,_⟩:=zaa.1 hi;exact h
 have b1:s.sl.length*88<=140737488355328:=by omega
 have z:s.tr.length*104<=140737488355328:=by omega
 have w:(s.tr.length+1)*104<=140737488355328:=by omega
 have r:¬s.sl.length<=i:=by omega
 have f:i*8+8<=s.sl.length*8:=by omega
 have hf:∀S:Sh,eQ S (.au 8 0)=none:=fun _=>rfl;have e1:=V8.head s.sl
 have e2:=P'.head s.tr;have j:¬s.sl=[]:=by intro h;rw[h]at hl;simp at hl
 have d:=Yq (l:=s.sl);have v:dR (bW Sl.cells s.sl)=false:=d_ fG;have t:dR (bW Sl.cells (s.sl.set i x))=false:=d_ fG;have e:(bW Sl.cells s.sl).length=s.sl.length*8:=gX qt;have c:(bW Sl.cells (s.sl.set i x)).length=s.sl.length*8:=by rw[gX qt];simp
 have q:=Qe qt hl (o:=0) (k:=8) (by omega)
 have a:=Jm qt hi (y:=x) (o:=0) (vs:=x.cells) (by rw[qt.len];omega) (by
  simp[Sl.cells])
 have u:∀aQ ts,bt aQ ts [some (bW Sl.cells s.sl)]=([some (bW Sl.cells s.sl)],aQ,ts):=(aY.one fG).norm;have g:∀aQ ts,bt aQ ts [some (bW Sl.cells (s.sl.set i x))]=([some (bW Sl.cells (s.sl.set i x))],aQ,ts):=(aY.one fG).norm;have b:=Yp (l:=s.sl.set i x);rw[zbJ]at b;simp only[zb0]at a q;generalize bW Sl.cells (s.sl.set i x)=A at*;generalize bW Sl.cells s.sl=T at*;simp[Sl.cells]at a;simp at b d e1 e2;rw[aB g393];simp(disch:=omega)[-getElem?_pos,g393,hi,hl,b1,z,w,e1,e2,j,d,v,t,e,c,a,u,g,b,fH,r,f,hf]
def c194g(ht:E.Ok):∃(a b:Ty)(c:Bool),(aE AP).p 194 [E.pv]=some [a.pv,b.pv,.bool c]/\a.Ok/\b.Ok/\(c=true->E=⟨4,[45,62],E.id,E.home,[a,b]⟩):=by
 by_cases h:E.kind=4/\E.name=[45,62]/\E.args.length=2
 .obtain⟨h1,h2,h3⟩:=h
  match e:E.args,h3 with
  |[a,b],_=>
   refine⟨a,b,true,?_,ht.df a (by simp[e]),ht.df b (by simp[e]),?_⟩
   .rw[aB g194];simp[g194,h1,h2,e]
   .intro _;cases E;simp at h1 h2 e⊢;simp[h1,h2,e]
 .refine⟨cA,cA,false,?_,bw rfl,bw rfl,by simp⟩;rw[aB g194];by_cases h1:E.kind=4
  .by_cases h2:E.name=[45,62]
   .have h3:¬(E.args.length:Int)=2:=by
     intro q;exact h ⟨h1,h2,by omega⟩
    simp[g194,h1,h2,h3,cA]
   .simp[g194,h1,h2,cA]
  .simp[g194,h1,cA]
variable{l:List Ty}
def L59(hS:Sm l)(e:∀t∈l,t.Ok)(d:∀x∈l.flatMap (Ty.gk 3),x∈S):∀(n i:Nat),l.length-i=n->i<=l.length->∀out,iz S out->
   cl AP g59L0 ⟨[(0,.pv (.ae (l.map Ty.pv))),(3,.own (out.map Ty.pv) 0),(4,.pv (vI i))],[],[],[out.length]⟩=
     some (.exit 0,⟨[(0,.pv (.ae (l.map Ty.pv))),(3,.own ((((l.drop i).flatMap (Ty.gk 3)).foldl jg out).map Ty.pv) 0),(4,.pv (vI l.length)),(8,.pv (.bool false))],[],[],[(((l.drop i).flatMap (Ty.gk 3)).foldl jg out).length]⟩)
 |0,i,hn,hi,out,c=>by
  have:i=l.length:=by omega
  subst this;rw[g59L0e];simp[g59B0]
 |n+1,i,hn,hi,out,c=>by
  have hi:i<l.length:=(by omega);obtain⟨x,hx⟩:=aR hi;unfold Sm at hS;have a:∀y∈x.gk 3,y∈S:=fun y hy=>d y (by simp only[zaf];exact⟨x,aM hx,hy⟩)
  have k:=c99 (kd:=3) (e x (aM hx)) a out c;have b:=L59 hS e d n (i+1) (by omega) (by omega) _ (c.fold a);rw[g59L0e]at b⊢;rw[aZ hx];simp at k b;simp(disch:=omega)[-getElem?_pos,g59B0,hx,hi,k,aq];rw[g59L0e];simp[b]
def c59(hf:S.length<1099511627776)(a:∀x∈S,x.Ok)(hS:Sm l)(d:∀t∈l,t.Ok)(b:∀x∈l.flatMap (Ty.gk 3),x∈S):∃r:List Ty,(aE AP).p 59 [.ae (l.map Ty.pv)]=some [.ae (r.map Ty.pv)]/\Sm r/\∀x∈r,x∈S:=by
 have c0:iz S []:=⟨by simp,by simp,hf,a⟩;have h:=L59 hS d b _ 0 rfl (by omega) [] c0;have c:=c0.fold b;refine⟨_,?_,c.len,c.sub⟩;rw[aB g59];rw[g59L0e]at h;simp at h;simp[g59,g59L0e,h]
def pK(s:List Sl)(t:Ty):Bool:=decide (t.kind=1/\0<=t.id/\t.id<s.length)
def c396{t:Ty}:(aE AP).p 396 [s.pv,t.pv]=some [.bool (pK s.sl t)]:=by
 rw[aB g396];by_cases h1:t.kind=1
 .by_cases h2:0<=t.id
  .by_cases h3:t.id<s.sl.length
   .simp[g396,pK,h1,h2,h3]
   .simp[g396,pK,h1,h2,h3]
  .simp[g396,pK,h1,h2]
 .simp[g396,pK,h1]
inductive cf:Ty->Int->Prop
 |var {t:Ty}:t.kind=1->cf t t.id
 |arg {t a:Ty} {v:Int}:t.kind≠1->a∈t.args->cf a v->cf t v
def Edge(s:List Sl)(i v:Int):Prop:=∃(k:Nat)(x:Sl),i=k/\s[k]?=some x/\x.bd=true/\cf x.ty v
inductive t8 (s:List Sl):Int->Int->Prop
 |refl (i:Int):t8 s i i
 |step {i j k:Int}:Edge s i j->t8 s j k->t8 s i k
def t8.trans{s:List Sl}{i j k:Int}(h:t8 s i j)(h':t8 s j k):t8 s i k:=by
 induction h with
 |refl=>exact h'
 |step e _ a=>exact .step e (a h')
def xS(s:List Sl):Prop:=∃a:Int->Nat,∀i v,Edge s i v->a v<a i
def xS.of{s':List Sl}(h:xS C)(b:∀i v,Edge s' i v->Edge C i v):xS s':=by
 obtain⟨a,hr⟩:=h;exact⟨a,fun i v e=>hr i v (b i v e)⟩
def cf.bound(d:Int->Nat)(t:Ty):∃M,∀v,cf t v->d v<M:=by
 refine Ty.cb (p:=fun t=>∃M,∀v,cf t v->d v<M) ?_ t;intro t i;by_cases k:t.kind=1
 .refine⟨d t.id+1,?_⟩;intro v h;cases h with
  |var _=>omega
  |arg q _ _=>exact absurd k q
 .have key:∀l:List Ty,(∀a∈l,∃M,∀v,cf a v->d v<M)->∃M,∀a∈l,∀v,cf a v->d v<M:=by
   intro l;induction l with
   |nil=>intro _;exact⟨0,by simp⟩
   |cons a r e=>
    intro h;obtain⟨M,f⟩:=h a (by simp);obtain⟨N,hN⟩:=e fun b c=>h b (by simp[c]);refine⟨M+N,?_⟩;intro b c v g;simp at c;rcases c with rfl|c
    .have:=f v g;omega
    .have:=hN b c v g;omega
  obtain⟨M,f⟩:=key t.args i;refine⟨M,?_⟩;intro v h;cases h with
  |var q=>exact absurd q k
  |arg _ j h=>exact f _ j v h
def DR{k:Nat}{v:Int}(h:Edge (C.set k x) B v):(B=k/\x.bd=true/\cf x.ty v)\/(B≠k/\Edge C B v):=by
 obtain⟨j,y,rfl,hy,b,a⟩:=h;rw[zax]at hy;by_cases e:k=j
 .subst e;by_cases hl:k<C.length
  .simp[hl]at hy;subst hy;exact .inl ⟨rfl,b,a⟩
  .simp[hl]at hy
 .simp[e]at hy;exact .inr ⟨by omega,j,y,rfl,hy,b,a⟩
def DS{k:Nat}(h:xS C)(c:C[k]?=some o)(d:x.bd=o.bd)(ht:x.ty=o.ty):xS (C.set k x):=by
 refine h.of ?_;intro i v e;rcases DR e with⟨rfl,b,a⟩|⟨_,e⟩
 .exact⟨k,o,rfl,c,by rw[<-d];exact b,by rw[<-ht];exact a⟩
 .exact e
def DT{k:Nat}(h:xS C)(hn:∀v,cf x.ty v->¬t8 C v k):xS (C.set k x):=by
 classical
 obtain⟨a,hr⟩:=h;obtain⟨M,d⟩:=cf.bound a x.ty;refine⟨fun j=>if t8 C j k then a j+M else a j,?_⟩;intro i v e;show(if t8 C v k then a v+M else a v)<(if t8 C i k then a i+M else a i);rcases DR e with⟨rfl,b,c⟩|⟨_,e⟩
 .have h1:=d v c;rw[zad (hn v c),zai (.refl _)];omega
 .have h1:=hr i v e;by_cases q:t8 C v k
  .rw[zai q,zai (.step e q)];omega
  .rw[zad q];split<;>omega
def Qf(h:xS C)(a:x.bd=false):xS (C++[x]):=by
 refine h.of ?_
 rintro i v ⟨k,y,rfl,hy,b,o⟩
 by_cases hl:k<C.length
 .rw[zao hl]at hy;exact⟨k,y,rfl,hy,b,o⟩
 .rw[zaN (by omega)]at hy;by_cases e:k-C.length=0
  .rw[e]at hy;simp at hy;subst hy;rw[a]at b;cases b
  .have:([x]:List Sl)[k-C.length]?=none:=by simp;omega
   rw[this]at hy;cases hy
def ub(s:List Sl):Nat:=s.countP fun x=>!x.bd
def uX:∀{s:List Sl}{k:Nat}{o x:Sl},s[k]?=some o->x.bd=o.bd->ub (s.set k x)=ub s
 |[],k,o,x,h,_=>by simp at h
 |a::r,0,o,x,h,b=>by simp at h;subst h;simp[ub,zcE,b]
 |a::r,k+1,o,x,h,b=>by
  simp at h;have:=uX h b;simp only[ub]at this;simp[ub,zcE,this]
def Ba:∀{s:List Sl}{k:Nat}{o x:Sl},s[k]?=some o->o.bd=false->x.bd=true->ub (s.set k x)+1=ub s
 |[],k,o,x,h,_,_=>by simp at h
 |a::r,0,o,x,h,b,hx=>by simp at h;subst h;simp[ub,zcE,b,hx]
 |a::r,k+1,o,x,h,b,hx=>by
  simp at h;have:=Ba h b hx;simp only[ub]at this;simp[ub,zcE];omega
def bT(dn:List Bool):List AV:=dn.map fun b=>.pv (.bool b)
def fX(s:cK)(T:List AV)(n:Nat)(out:List Int):Sh:=[some T,some [.pv (.ae (s.sl.map Sl.pv)),.pv (.ae (s.tr.map Ch.pv)),.own (out.map vI) 0,.bl 0 1 n false]]
structure V9(T:List AV):Prop where
 norm:∀aQ ts,bo aQ ts T=(T,aQ,ts)
 mp:dR T=false
 sh:∀k,T.map (dj k)=T
variable{S:List Int}
def aaS{t:Ty}(b:t.kind=1)(f:dr s.sl t=none)(e:gV S out)(hT:V9 T):
   (aE AP).i 387 [.aL 1 0,.pv t.pv] (fX s T n out) [out.length]=some ([],fX s T n (if t.id∈out then out else out++[t.id]),[(if t.id∈out then out else out++[t.id]).length]):=by
 have a:=c392 (s:=s) (t:=t);have hl:=e.len;have k2:=c95 hl (y:=t.id);unfold Sm at hl;have c:(out.length+1)*8<=140737488355328:=by omega
 have d:bj 1 (out.map vI)=true:=gL.head out;have hn:=hT.norm;rw[f]at a;simp[b]at a;rw[aC g387];by_cases e2:t.id∈out
 .rw[zaE e2]at k2;simp[g387,fX,b,a,k2,e2,hn]
 .rw[zaB e2]at k2;simp[g387,fX,b,a,k2,e2,hn,c,d]
def aaT{t:Ty}(hi:t.id=i)(f:t.kind=1)(hx:s.sl[i]?=some x)(h:dr s.sl t=some x)(hT:V9 T)(hn:T.length=n)(e:i<n)(hd:T[i]?=some (.pv (.bool true))):
   (aE AP).i 387 [.aL 1 0,.pv t.pv] (fX s T n out) [out.length]=some ([],fX s T n out,[out.length]):=by
 have a:=c392 (s:=s) (t:=t);have b:=hT.norm;have c:=hT.mp;have g:=hT.sh;have d:i+1<=T.length:=by omega
 rw[h]at a;simp[f,hi]at a;rw[aC g387];simp(disch:=omega)[-getElem?_pos,g387,fX,f,hi,a,b,e,hd,c,d,cm]
def aaU{t:Ty}(hi:t.id=i)(q:t.kind=1)(hx:s.sl[i]?=some x)(r:dr s.sl t=some x){T1 T2:List AV}(hT:V9 T)(g:V9 T1)(f:V9 T2)(hn:T.length=n)(p:i<n)(hd:T[i]?=some (.pv (.bool false)))
   (hs:a_ T i [.pv (.bool true)]=T1) (e:(aE AP).i 387 [.aL 1 0,.pv x.ty.pv] (fX s T1 n out) [out.length]=some ([],fX s T2 n out',[out'.length])):
   (aE AP).i 387 [.aL 1 0,.pv t.pv] (fX s T n out) [out.length]=some ([],fX s T2 n out',[out'.length]):=by
 have j:=c392 (s:=s) (t:=t);have l:=hT.norm;have d:=g.norm;have c:=f.norm;have b:=g.sh;have a:=f.sh;have m:=hT.mp;have k:=hT.sh;have hl:i<s.sl.length:=by obtain⟨h,_⟩:=zaa.1 hx;exact h
 have o:i+1<=T.length:=by omega
 rw[r]at j;simp[q,hi]at j;simp[fX]at e;simp at hs;rw[aC g387];simp(disch:=omega)[-getElem?_pos,g387,fX,q,hi,j,l,d,c,p,hd,hx,hl,m,hs,o,e,cm,k,b,a]
def Yr(s:cK)(n:Nat)(t:Ty)(T:List AV)(out:List Int)(a:List AV)(out':List Int):Prop:=(aE AP).i 387 [.aL 1 0,.pv t.pv] (fX s T n out) [out.length]=some ([],fX s a n out',[out'.length])
def aaV(ht:E.Ok)(J:Nat->List AV->List Int->Prop)(d:∀i T out,J i T out->V9 T)
   (o:∀i a,E.args[i]?=some a->∀T out,J i T out->∃c out',Yr s n a T out c out'/\J (i+1) c out'):∀(k i:Nat),E.args.length-i=k->i<=E.args.length->∀T out,J i T out->∃c out',
   cl AP g387L0 ⟨[(0,.aL 1 0),(3,.au 3 0),(4,.pv (vI i))],[(3,tC E)],fX s T n out,[out.length]⟩=
     some (.exit 1,⟨[(0,.aL 1 0),(3,.au 3 0),(4,.pv (vI E.args.length)),(68,.pv (.bool false))],[(3,tC E)],fX s c n out',[out'.length]⟩)/\J E.args.length c out'
 |0,i,p,hi,T,out,h=>by
  have:i=E.args.length:=by omega
  subst this;refine⟨T,out,?_,h⟩;have hn:=(d _ _ _ h).norm;rw[g387L0e];simp[g387B0,tC,fX,hn]
 |k+1,i,p,hi,T,out,h=>by
  have hi:i<E.args.length:=(by omega);obtain⟨a,m⟩:=aR hi;have g:=ht.sm;unfold Sm at g;obtain⟨q,f,e,h1⟩:=o i a m T out h;obtain⟨c,out',l,h2⟩:=aaV ht J d o k (i+1) (by omega) (by omega) q f h1;refine⟨c,out',?_,h2⟩;have hn:=(d _ _ _ h).norm;have b:=(d _ _ _ h1).norm;have hs:=(d _ _ _ h).sh;have j:=(d _ _ _ h1).sh;unfold Yr at e;rw[g387L0e]at l ⊢;simp[fX]at e;simp[tC,fX,b]at l;simp(disch:=omega)[-getElem?_pos,g387B0,tC,fX,hi,m,hn,b,hs,j,aq,e];rw[g387L0e];simp[l,b]
def aaW(ht:E.Ok)(g:E.kind≠1)(J:Nat->List AV->List Int->Prop)(c:∀i T out,J i T out->V9 T)
   (j:∀i a,E.args[i]?=some a->∀T out,J i T out->∃b out',Yr s n a T out b out'/\J (i+1) b out')   (h:J 0 T out):∃b out',Yr s n E T out b out'/\J E.args.length b out':=by
 obtain⟨b,out',e,h1⟩:=aaV (s:=s) (n:=n) ht J c j _ 0 rfl (by omega) T out h;refine⟨b,out',?_,h1⟩;have hn:=(c _ _ _ h).norm;have f:=(c _ _ _ h1).norm;have d:=(c _ _ _ h1).sh;unfold Yr;rw[aC g387];rw[g387L0e]at e;simp[tC,fX,hn]at e;simp[g387,fX,g,hn,f,d,g387L0e,e]
def jR(s:List Sl)(v:Int):Prop:=∃(k:Nat)(x:Sl),v=k/\s[k]?=some x/\x.bd=true
def iF(a:E.kind=1)(h:dr C E=none):¬jR C E.id:=by
 rintro⟨k,x,e,hx,b⟩
 unfold dr at h;have:0<=E.id:=by omega
 rw[zai ⟨a,this⟩]at h;have hn:E.id.toNat=k:=by omega
 rw[hn,hx]at h;simp[b]at h
def Qg{v:Int}(h:Edge C B v):jR C B:=by
 obtain⟨k,x,e,hx,a,_⟩:=h;exact⟨k,x,e,hx,a⟩
theorem oq{v:Int}(h:t8 C B v)(a:¬jR C B):v=B:=by
 cases h with
 |refl=>rfl
 |step e _=>exact absurd (Qg e) a
theorem da{t:Ty}(a:t.kind=1)(h:cf t B):B=t.id:=by
 cases h with
 |var _=>rfl
 |arg q _ _=>exact absurd a q
def Ys{a:Int->Nat}(hr:∀B v,Edge C B v->a v<a B){v:Int}(h:t8 C B v):a v<=a B:=by
 induction h with
 |refl=>omega
 |step e _ b=>have:=hr _ _ e;omega
def T5(s:List Sl)(j:Int)(out:List Int):Prop:=∀v,t8 s j v->¬jR s v->v∈out
def RT(s:List Sl)(t:Ty)(v:Int):Prop:=∃w,cf t w/\t8 s w v
def T5.mono(h:T5 C B out)(b:∀v∈out,v∈out'):T5 C B out':=fun v a c=>b v (h v a c)
def Qh:∀v∈bT dn,∃p,v=AV.pv p:=by
 intro v a;simp only[bT,zak]at a;obtain⟨b,_,rfl⟩:=a;exact⟨_,rfl⟩
def lj:V9 (bT dn):=⟨fun _ _=>i6 Qh,d_ Qh,fun _=>sH Qh⟩
def Yt(hi:i<dn.length)(b:Bool):a_ (bT dn) i [.pv (.bool b)]=bT (dn.set i b):=by
 have:(bT dn).length=dn.length:=by simp[bT]
 simp only[a_,bT,zay,zcL,zbK];rw[<-zbi,<-zcX,zbe,zai hi];simp
def Qi(h:dn[j]?=some true):(dn.set i true)[j]?=some true:=by
 rw[zax];have hj:j<dn.length:=by obtain⟨h,_⟩:=zaa.1 h;exact h
 by_cases e:i=j
 .subst e;simp[hj]
 .simp[e,h]
def DU(h:(dn.set i true)[j]?=some true):i=j\/dn[j]?=some true:=by
 rw[zax]at h;by_cases e:i=j
 .exact .inl e
 .simp[e]at h;exact .inr h
structure aaX(s:cK)(S:List Int)(t:Ty)(dn:List Bool)(out:List Int)(dn':List Bool)(out':List Int):Prop where
 DV:Yr s s.sl.length t (bT dn) out (bT dn') out'
 len:dn'.length=s.sl.length
 MZ:gV S out'
 sub:∀v∈out,v∈out'
 mono:∀j:Nat,dn[j]?=some true->dn'[j]?=some true
 all:∀v,RT s.sl t v->¬jR s.sl v->v∈out'
 new:∀j:Nat,dn'[j]?=some true->dn[j]?=some true\/T5 s.sl j out'
 own:∀v∈out',v∈out\/(RT s.sl t v/\¬jR s.sl v)
structure Jst(s:cK)(S:List Int)(t:Ty)(dn:List Bool)(out:List Int)(i:Nat)(dn':List Bool)(out':List Int):Prop where
 len:dn'.length=s.sl.length
 MZ:gV S out'
 sub:∀v∈out,v∈out'
 mono:∀j:Nat,dn[j]?=some true->dn'[j]?=some true
 all:∀a∈t.args.take i,∀v,RT s.sl a v->¬jR s.sl v->v∈out'
 new:∀j:Nat,dn'[j]?=some true->dn[j]?=some true\/T5 s.sl j out'
 own:∀v∈out',v∈out\/((∃a∈t.args.take i,RT s.sl a v)/\¬jR s.sl v)
def PH{z:Int->Nat}(hr:∀i v,Edge s.sl i v->z v<z i)(L:∀x∈s.sl,x.ty.Ok)(hS:∀x∈s.sl,∀w,cf x.ty w->w∈S)(N:Nat):
   ∀t:Ty,t.Ok->(∀w,cf t w->z w<N)->(∀w,cf t w->w∈S)->∀(dn:List Bool)(out:List Int),dn.length=s.sl.length->gV S out->(∀j:Nat,dn[j]?=some true->RT s.sl t j->T5 s.sl j out)->
     ∃dn' out',aaX s S t dn out dn' out':=by
 induction N using Nat.strongRecOn with
 |ind N O=>
  intro t
  refine Ty.cb (p:=fun t=>t.Ok->(∀w,cf t w->z w<N)->(∀w,cf t w->w∈S)->∀(dn:List Bool)(out:List Int),dn.length=s.sl.length->gV S out->(∀j:Nat,dn[j]?=some true->RT s.sl t j->T5 s.sl j out)->
    ∃dn' out',aaX s S t dn out dn' out') ?_ t
  intro t K ht hN hw dn out hd E u;by_cases r:t.kind=1
  .have B:cf t t.id:=.var r;cases m:dr s.sl t with
   |none=>
    have hf:=iF r m;have e:=aaS (n:=s.sl.length) r m E (lj (dn:=dn))
    have M:(if t.id∈out then out else out++[t.id])=bP out t:=by
     unfold bP;by_cases q:t.id∈out<;>simp[q,r]
    rw[M]at e
    have hs:∀v∈out,v∈bP out t:=by
     intro v c;unfold bP;split
     .simp[c]
     .exact c
    refine⟨dn,bP out t,e,hd,E.add (fun _=>hw _ B),hs,fun _ h=>h,?_,fun _ h=>.inl h,fun v c=>?_⟩
    rotate_left
    .unfold bP at c;split at c
     .simp only[zae,zaU]at c;rcases c with c|rfl
      .exact .inl c
      .exact .inr ⟨⟨t.id,B,.refl _⟩,hf⟩
     .exact .inl c
    rintro v ⟨w,f,c⟩ _
    have h1:=da r f;subst h1;rw[oq c hf];unfold bP;by_cases q:t.id∈out<;>simp[q,r]
   |some x=>
    obtain⟨_,i,hi,hx,F⟩:=cq m;have hl:i<s.sl.length:=by obtain⟨h,_⟩:=zaa.1 hx;exact h
    have G:(bT dn).length=s.sl.length:=(by simp[bT,hd]);obtain⟨b,D⟩:=aR (l:=dn) (i:=i) (by omega);have H:(bT dn)[i]?=some (.pv (.bool b)):=(by simp[bT,D]);have H9:∀w,cf x.ty w->Edge s.sl t.id w:=fun w f=>⟨i,x,hi,hx,F,f⟩
    cases b with
    |true=>
     have e:=aaT (out:=out) hi r hx m (lj (dn:=dn)) G hl H;refine⟨dn,out,e,hd,E,fun _ h=>h,fun _ h=>h,?_,fun _ h=>.inl h,fun _ h=>.inl h⟩
     rintro v ⟨w,f,c⟩ g
     have h1:=da r f;subst h1;have:=u i D ⟨t.id,B,by rw[hi];exact .refl _⟩;rw[hi]at c;exact this v c g
    |false=>
     have I:z t.id<N:=hN _ B
     obtain⟨dn',out',P⟩:=O (z t.id) I x.ty (L x (aM hx)) (fun w f=>hr _ _ (H9 w f)) (hS x (aM hx)) (dn.set i true) out (by simp[hd]) E (by
      intro j hj ⟨w,f,c⟩;have C:z j<z t.id:=by have:=Ys hr c;have:=hr _ _ (H9 w f);omega
      rcases DU hj with rfl|hj
      .rw[hi]at C;omega
      .exact u j hj ⟨t.id,B,.step (H9 w f) c⟩)
     have e:=aaU hi r hx m (lj (dn:=dn)) (lj (dn:=dn.set i true)) (lj (dn:=dn')) G hl H (Yt (by omega) true) P.DV
     have fin:T5 s.sl t.id out':=by
      intro v c g;cases c with
      |refl=>exact absurd ⟨i,x,hi,hx,F⟩ g
      |step e2 c=>
       obtain⟨k,y,e3,hy,_,f⟩:=e2;have:k=i:=by omega
       subst this;rw[hx]at hy;cases hy;exact P.all v ⟨_,f,c⟩ g
     refine⟨dn',out',e,P.len,P.MZ,P.sub,fun j h=>P.mono j (Qi h),?_,?_,fun v c=>(P.own v c).imp_right fun⟨⟨w,f,c⟩,m⟩=>⟨⟨t.id,B,.step (H9 w f) c⟩,m⟩⟩
     .rintro v ⟨w,f,c⟩ g
      have h1:=da r f;subst h1;exact fin v c g
     .intro j hj;rcases P.new j hj with h|h
      .rcases DU h with rfl|h
       .exact .inr (by rw[<-hi];exact fin)
       .exact .inl h
      .exact .inr h
  .obtain⟨Q,out',e,dn',rfl,h⟩:=aaW (s:=s) (n:=s.sl.length) ht r (fun i T o=>∃d,T=bT d/\Jst s S t dn out i d o) (by rintro i T o ⟨d,rfl,_⟩;exact lj) (by
    rintro i a A T o ⟨d,rfl,h⟩
    have hm:=aM A
    obtain⟨J,o',P⟩:=K a hm (ht.df a hm) (fun w f=>hN w (.arg r hm f)) (fun w f=>hw w (.arg r hm f)) d o h.len h.MZ (by
     intro j hj ⟨w,f,c⟩;rcases h.new j hj with hj|hj
     .exact(u j hj ⟨w,.arg r hm f,c⟩).mono h.sub
     .exact hj)
    refine⟨bT J,o',P.DV,J,rfl,P.len,P.MZ,fun v c=>P.sub v (h.sub v c),fun j hj=>P.mono j (h.mono j hj),?_,?_,fun v c=>?_⟩
    rotate_left
    rotate_left
    .rw[zaM,A];rcases P.own v c with c|⟨c,m⟩
     .exact(h.own v c).imp_right fun⟨⟨b,m,hr⟩,h2⟩=>⟨⟨b,by simp[m],hr⟩,h2⟩
     .exact .inr ⟨⟨a,by simp,c⟩,m⟩
    .intro b m v c g;rw[zaM,A]at m;simp at m;rcases m with m|rfl
     .exact P.sub v (h.all b m v c g)
     .exact P.all v c g
    .intro j hj;rcases P.new j hj with hj|hj
     .rcases h.new j hj with hj|hj
      .exact .inl hj
      .exact .inr (hj.mono P.sub)
     .exact .inr hj) ⟨dn,rfl,hd,E,fun _ h=>h,fun _ h=>h,by simp,fun _ h=>.inl h,fun _ h=>.inl h⟩
   refine⟨dn',out',e,h.len,h.MZ,h.sub,h.mono,?_,h.new,fun v c=>(h.own v c).imp_right fun⟨⟨a,A,w,f,hr⟩,m⟩=>⟨⟨w,.arg r (zbh A) f,hr⟩,m⟩⟩
   rintro v ⟨w,f,c⟩ g
   cases f with
   |var q=>exact absurd q r
   |arg _ A f=>exact h.all _ (by simpa using A) v ⟨w,f,c⟩ g
inductive Ex.Ok:Ex->Prop
 |mk {e:Ex}:e.kids.length<=1000->e.aF.length<=1000->(∀a∈e.aF,a.vars.length<=1000)->e.ty.Ok->(∀x∈e.ch,x.Ok)->e.Ok
def Ex.Ok.k(h:e.Ok):e.kids.length<=1000:=by cases h;assumption
def Ex.Ok.a(h:e.Ok):e.aF.length<=1000:=by cases h;assumption
def Ex.Ok.v(h:e.Ok):∀a∈e.aF,a.vars.length<=1000:=by cases h;assumption
def Ex.Ok.t(h:e.Ok):e.ty.Ok:=by cases h;assumption
def Ex.Ok.c(h:e.Ok):∀x∈e.ch,x.Ok:=by cases h;assumption
def Ex.i_:e.ch.length=e.kids.length+e.aF.length:=by simp[Ex.ch]
@[simp] def Ex.cl(e:Ex):List AV:=[.pv (vI e.kind),.pv (vI e.pos),.pv (.str e.name),.pv (vI e.num),.pv (.ae (e.kids.map Ex.pv)),.pv (.ae (e.aF.map Ar.pv)),.pv (vI e.ty.kind),.pv (.str e.ty.name),.pv (vI e.ty.id),.pv (vI e.ty.home),.pv (.ae (e.ty.args.map Ty.pv))]
def sK:Row Ex.cells 11:=⟨by omega,fun x=>by rw[Ex.aG];rfl⟩
def Ar.cells(a:Ar):List PV:=.int .i64 a.pos::.str a.dy::.ae (a.vars.map .str)::a.body.cells
def w6:Row Ar.cells 14:=⟨by omega,fun x=>by simp[Ar.cells,Ex.aG]⟩
def Ex.w7(e:Ex):e.cells.map AV.pv=e.cl:=by rw[Ex.aG];rfl
@[simp] def Ex.clA(e:Ex)(A:AV):List AV:=[.pv (vI e.kind),.pv (vI e.pos),.pv (.str e.name),.pv (vI e.num),.pv (.ae (e.kids.map Ex.pv)),A,.pv (vI e.ty.kind),.pv (.str e.ty.name),.pv (vI e.ty.id),.pv (vI e.ty.home),.pv (.ae (e.ty.args.map Ty.pv))]
def AIs(A:AV)(as:List Ar)(X:Sh):Prop:=A=.pv (.ae (as.map Ar.pv))\/∃b,b<X.length/\A=.bl b 14 as.length true/\X[b]?=some (some (bW Ar.cells as))
def AIs.app{A:AV}{as:List Ar}{X Y:Sh}(h:AIs A as X):AIs A as (X++Y):=by
 rcases h with h|⟨b,h1,h2,h3⟩
 .exact .inl h
 .exact .inr ⟨b,by rw[zat];omega,h2,by rw[zao h1];exact h3⟩
def hV(X:Sh)(l:List Ex):AV:=if l=[]then .own [] 0 else .bl X.length 11 l.length true
def hS(X:Sh)(l:List Ex):Sh:=if l=[]then X else X++[some (bW Ex.cells l)]
def hT(l:List Ex):aH:=if l=[]then[0]else[]
def DW(h:aY X)(l:List Ex):aY (hS X l):=by
 unfold hS;by_cases h0:l=[]
 .rw[zai h0];exact h
 .rw[zad h0];exact h.app (aY.one fG)
def Yu{A:AV}(J:e.aF.length<=1000):∀(n i:Nat),e.aF.length-i=n->i<=e.aF.length->∀(X:Sh)(acc:List Ex),aY X->AIs A e.aF X->acc.length+n<=1000000->∃k,
   cl AP g145L0 ⟨[(1,.au 1 0),(3,hV X acc),(4,.pv (vI i))],[(1,e.clA A)],hS X acc,hT acc⟩=
     some (.exit 0,⟨[(1,.au 1 0),(3,hV (X++nn k) (acc++(e.aF.drop i).map dB.body)),(4,.pv (vI e.aF.length)),(12,.pv (.bool false))],[(1,e.clA A)],hS (X++nn k) (acc++(e.aF.drop i).map dB.body),hT (acc++(e.aF.drop i).map dB.body)⟩)
 |0,i,hn,hi,X,acc,d,p,hl=>by
  have:i=e.aF.length:=by omega
  subst this;refine⟨0,?_⟩;rw[za9,zbc,zaJ,show nn 0=[] from rfl,zaJ];have hn:=(DW d acc).norm
  have L:(hV X acc=.own [] 0/\hT acc=[0])\/(∃b z k g,hV X acc=.bl b z k g/\hT acc=[]):=by
   unfold hV hT;by_cases h0:acc=[]
   .left;simp[h0]
   .right;exact⟨X.length,11,acc.length,true,by simp[h0],by simp[h0]⟩
  rw[g145L0e]
  rcases L with⟨G,t1⟩|⟨b1,z1,O,f1,G,t1⟩<;>rw[G,t1]<;>generalize hS X acc=R at hn⊢ <;>
    rcases p with rfl|⟨b,E,rfl,hx⟩<;>simp[g145B0,hn]
 |n+1,i,hn,hi,X,acc,d,p,hl=>by
  have hi:i<e.aF.length:=(by omega);obtain⟨x,hx⟩:=aR hi;have q:=d.norm;have K:∀m:Nat,m<=1000000->m*152<=140737488355328:=(by omega);have t:=Ex.aG x.body;rw[aZ hx,zan]
  have step:∃k,cl AP g145L0 ⟨[(1,.au 1 0),(3,hV (if acc=[]then X else X++[none]) (acc++[x.body])),(4,.pv (vI (i+1:Nat)))],[(1,e.clA A)],hS (if acc=[]then X else X++[none]) (acc++[x.body]),hT (acc++[x.body])⟩=
    some (.exit 0,⟨[(1,.au 1 0),(3,hV (X++nn k) (acc++(x.body::(e.aF.drop (i+1)).map dB.body))),(4,.pv (vI e.aF.length)),(12,.pv (.bool false))],[(1,e.clA A)],hS (X++nn k) (acc++(x.body::(e.aF.drop (i+1)).map dB.body)),hT (acc++(x.body::(e.aF.drop (i+1)).map dB.body))⟩):=by
    by_cases h0:acc=[]
    .rw[zai h0];obtain⟨k,c⟩:=Yu J n (i+1) (by omega) (by omega) X (acc++[x.body]) d p (by simp;omega);refine⟨k,?_⟩;rw[c];simp only[zaF,zcg]
    .rw[zad h0];obtain⟨k,c⟩:=Yu J n (i+1) (by omega) (by omega) (X++[none]) (acc++[x.body]) (d.app (jQ 1)) p.app (by simp;omega);refine⟨k+1,?_⟩;have e1:X++[none]++nn k=X++nn (k+1):=by simp[nn,zbs]
     rw[c,e1];simp only[zaF,zcg]
  obtain⟨k,c⟩:=step;refine⟨k,?_⟩;generalize hV (X++nn k) (acc++(x.body::(e.aF.drop (i+1)).map dB.body))=V2 at c⊢;generalize hS (X++nn k) (acc++(x.body::(e.aF.drop (i+1)).map dB.body))=Q at c⊢;generalize hT (acc++(x.body::(e.aF.drop (i+1)).map dB.body))=P at c⊢;have j:acc++[x.body]≠[]:=by simp
  have s:∀Y,aY Y->∀aQ ts,bt aQ ts (Y++[some (bW Ex.cells (acc++[x.body]))])=(Y++[some (bW Ex.cells (acc++[x.body]))],aQ,ts):=fun Y N=>(N.app (aY.one fG)).norm;have l:bW Ex.cells (acc++[x.body])=bW Ex.cells acc++x.body.cl:=by rw[uW,<-Ex.w7];simp[bW]
  by_cases h0:acc=[]
  .subst h0;rw[zai rfl]at c;have a:=s X d;simp only[zaQ]at j a l c;simp only[hV,hS,hT,zad j,za4]at c⊢;rw[l]at a c;simp only[Jl,zaQ]at a c;simp only[Ex.cl]at a;rw[g145L0e]at c⊢;rcases p with rfl|⟨b,E,rfl,h⟩
   .simp[a]at c;simp(disch:=omega)[-getElem?_pos,g145B0,hx,hi,aq,q];rw[g145L0e];simp[a,c]
   .have f:=A9 w6 hx (o:=3) (k:=11) (by omega);have D:i*14+3+11<=e.aF.length*14:=(by omega);have C:(bW Ar.cells e.aF).length=e.aF.length*14:=gX w6;have B:dR (bW Ar.cells e.aF)=false:=d_ fG;have y:(((Ar.cells x).drop 3).take 11).map AV.pv=x.body.cl:=(by simp[Ar.cells,t]);rw[y]at f;generalize bW Ar.cells e.aF=T at*;simp[a]at c f;simp(disch:=omega)[-getElem?_pos,g145B0,hx,hi,aq,q,h,f,D,C,B];rw[g145L0e];simp[a,c]
  .rw[zad h0]at c;have a:=s (X++[none]) (d.app (jQ 1));have r:∀aQ ts,bt aQ ts (X++[some (bW Ex.cells acc)])=(X++[some (bW Ex.cells acc)],aQ,ts):=(d.app (aY.one fG)).norm;simp only[hV,hS,hT,zad j,zad h0]at c⊢;have r1:(bW Ex.cells acc).length=acc.length*11:=gX sK;have r2:dR (bW Ex.cells acc)=false:=d_ fG;have r3:(bW Ex.cells acc).take (acc.length*11)=bW Ex.cells acc:=zaz (by omega);have v:(acc.length+1)*152<=140737488355328:=by omega
   rw[l]at a c;rw[zat,zbm,zat,zbm]at c;have I:∀u w:Option (List AV),(X++[u]).set X.length w=X++[w]:=fun u w=>by simp
   have H:∀u:Option (List AV),(X++[u])[X.length]?=some u:=fun u=>by simp
   simp only[Ex.cl]at a;rw[g145L0e]at c⊢;rcases p with rfl|⟨b,E,rfl,h⟩
   .generalize bW Ex.cells acc=F at*;simp[a]at c;simp(disch:=omega)[-getElem?_pos,g145B0,hx,hi,aq,r,r1,r2,r3,I,H,v];rw[g145L0e];simp[a,c]
   .have f:=A9 w6 hx (o:=3) (k:=11) (by omega);have D:i*14+3+11<=e.aF.length*14:=(by omega);have C:(bW Ar.cells e.aF).length=e.aF.length*14:=gX w6;have B:dR (bW Ar.cells e.aF)=false:=d_ fG;have y:(((Ar.cells x).drop 3).take 11).map AV.pv=x.body.cl:=(by simp[Ar.cells,t]);have M:∀u:Option (List AV),(X++[u])[b]?=X[b]?:=fun u=>zao E
    rw[y]at f;generalize bW Ar.cells e.aF=T at*;generalize bW Ex.cells acc=F at*;simp[a]at c f;simp(disch:=omega)[-getElem?_pos,g145B0,hx,hi,aq,r,r1,r2,r3,I,H,v,h,f,D,C,B,M];rw[g145L0e];simp[a,c]
def Qj{l:List Ex}:((fM (bW Ex.cells l)).bind (ie 11 true l.length)).map PV.ae=some (.ae (l.map Ex.pv)):=A_ sK
def Qk{l:List Ex}:((l.map Ex.pv).flatMap bp).map AV.pv=bW Ex.cells l:=Jo sK
def c145(h:e.Ok):(aE AP).p 145 [e.pv]=some [.ae (e.ch.map Ex.pv)]:=by
 have n:=h.k;have j:=h.a;obtain⟨k,h2⟩:=Yu (A:=.pv (.ae (e.aF.map Ar.pv))) j _ 0 rfl (by omega) [] e.kids (by intro cs h;simp at h) (.inl rfl) (by omega);rw[zar]at h2
 change cl AP g145L0 _=some (.exit 0,⟨[(1,.au 1 0),(3,hV ([]++nn k) e.ch),(4,.pv (vI e.aF.length)),(12,.pv (.bool false))],[(1,e.clA (.pv (.ae (e.aF.map Ar.pv))))],hS ([]++nn k) e.ch,hT e.ch⟩)at h2
 have g:e.kids.length*152<=140737488355328:=by omega
 have hm:=Qk (l:=e.kids);have hl:=Qj (l:=e.ch);have b:(bW Ex.cells e.ch).length=e.ch.length*11:=gX sK;have d:∀aQ ts,bt aQ ts ([some (bW Ex.cells e.kids)])=([some (bW Ex.cells e.kids)],aQ,ts):=(aY.one fG).norm;rw[aB g145];by_cases f:e.ch=[]
 .have h0:e.kids=[]/\e.aF=[]:=by have:=f;simpa[Ex.ch]using this
  simp only[f,hV,hS,hT,za4,h0.1]at h2⊢;rw[g145L0e]at h2;simp[h0.1,h0.2]at h2;simp[g145,h0.1,h0.2,g145L0e,h2]
 .have i:∀Z:Option (List AV),([]++nn k++[Z])[k]?=some Z:=fun Z=>by simp
  by_cases h0:e.kids=[]
  .simp only[hV,hS,hT,zad f,h0,za4]at h2⊢;have c:=i (some (bW Ex.cells e.ch));generalize []++nn k++[some (bW Ex.cells e.ch)]=m at*;generalize bW Ex.cells e.ch=F at*;rw[g145L0e]at h2;simp[h0]at h2;simp at hl;simp[-getElem?_pos,g145,h0,g145L0e,h2,c,b,hl]
  .simp only[hV,hS,hT,zad f,zad h0]at h2⊢;have c:=i (some (bW Ex.cells e.ch));generalize []++nn k++[some (bW Ex.cells e.ch)]=m at*;generalize bW Ex.cells e.ch=F at*;generalize bW Ex.cells e.kids=o at*;rw[g145L0e]at h2;simp[d]at h2 hl;simp[-getElem?_pos,g145,h0,g,hm,d,g145L0e,h2,c,b,hl]
def Yv(q:e.aF.length<=1000):∀(n i:Nat),e.aF.length-i=n->i<=e.aF.length->∀(X:Sh)(acc:List Ex),aY X->acc.length+n<=1000000->∃k,
   cl AP g414L0 ⟨[(3,hV X acc),(10,.pv (.ae (e.aF.map Ar.pv))),(11,.pv (vI e.aF.length)),(12,.pv (vI i))],[],hS X acc,hT acc⟩=
     some (.exit 0,⟨[(3,hV (X++nn k) (acc++(e.aF.drop i).map dB.body)),(10,.pv (.ae (e.aF.map Ar.pv))),(11,.pv (vI e.aF.length)),(12,.pv (vI e.aF.length)),(13,.pv (.bool false))],[],hS (X++nn k) (acc++(e.aF.drop i).map dB.body),hT (acc++(e.aF.drop i).map dB.body)⟩)
 |0,i,hn,hi,X,acc,d,hl=>by
  have:i=e.aF.length:=by omega
  subst this;refine⟨0,?_⟩;rw[za9,zbc,zaJ,show nn 0=[] from rfl,zaJ];have hn:=(DW d acc).norm
  have r:(hV X acc=.own [] 0/\hT acc=[0])\/(∃b z k g,hV X acc=.bl b z k g/\hT acc=[]):=by
   unfold hV hT;by_cases h0:acc=[]
   .left;simp[h0]
   .right;exact⟨X.length,11,acc.length,true,by simp[h0],by simp[h0]⟩
  rw[g414L0e];rcases r with⟨p,t1⟩|⟨b1,z1,A,f1,p,t1⟩<;>rw[p,t1]<;>generalize hS X acc=D at hn⊢<;>simp[g414B0,hn]
 |n+1,i,hn,hi,X,acc,d,hl=>by
  have hi:i<e.aF.length:=(by omega);obtain⟨x,hx⟩:=aR hi;have l:=d.norm;have v:=Ex.aG x.body;rw[aZ hx,zan]
  have step:∃k,cl AP g414L0 ⟨[(3,hV (if acc=[]then X else X++[none]) (acc++[x.body])),(10,.pv (.ae (e.aF.map Ar.pv))),(11,.pv (vI e.aF.length)),(12,.pv (vI (i+1:Nat)))],[],hS (if acc=[]then X else X++[none]) (acc++[x.body]),hT (acc++[x.body])⟩=
    some (.exit 0,⟨[(3,hV (X++nn k) (acc++(x.body::(e.aF.drop (i+1)).map dB.body))),(10,.pv (.ae (e.aF.map Ar.pv))),(11,.pv (vI e.aF.length)),(12,.pv (vI e.aF.length)),(13,.pv (.bool false))],[],hS (X++nn k) (acc++(x.body::(e.aF.drop (i+1)).map dB.body)),hT (acc++(x.body::(e.aF.drop (i+1)).map dB.body))⟩):=by
    by_cases h0:acc=[]
    .rw[zai h0];obtain⟨k,c⟩:=Yv q n (i+1) (by omega) (by omega) X (acc++[x.body]) d (by simp;omega);refine⟨k,?_⟩;rw[c];simp only[zaF,zcg]
    .rw[zad h0];obtain⟨k,c⟩:=Yv q n (i+1) (by omega) (by omega) (X++[none]) (acc++[x.body]) (d.app (jQ 1)) (by simp;omega);refine⟨k+1,?_⟩;have e1:X++[none]++nn k=X++nn (k+1):=by simp[nn,zbs]
     rw[c,e1];simp only[zaF,zcg]
  obtain⟨k,c⟩:=step;refine⟨k,?_⟩;generalize hV (X++nn k) (acc++(x.body::(e.aF.drop (i+1)).map dB.body))=V2 at c⊢;generalize hS (X++nn k) (acc++(x.body::(e.aF.drop (i+1)).map dB.body))=C at c⊢;generalize hT (acc++(x.body::(e.aF.drop (i+1)).map dB.body))=B at c⊢;have f:acc++[x.body]≠[]:=by simp
  have j:∀Y,aY Y->∀aQ ts,bt aQ ts (Y++[some (bW Ex.cells (acc++[x.body]))])=(Y++[some (bW Ex.cells (acc++[x.body]))],aQ,ts):=fun Y y=>(y.app (aY.one fG)).norm;have h:bW Ex.cells (acc++[x.body])=bW Ex.cells acc++x.body.cl:=by rw[uW,<-Ex.w7];simp[bW]
  by_cases h0:acc=[]
  .subst h0;rw[zai rfl]at c;have a:=j X d;simp only[zaQ]at f a h c;simp only[hV,hS,hT,zad f,za4]at c⊢;rw[h]at a c;simp only[Jl,zaQ]at a c;simp only[Ex.cl]at a;rw[g414L0e]at c⊢;simp[a]at c;simp(disch:=omega)[-getElem?_pos,g414B0,hx,hi,aq,l];rw[g414L0e];simp[a,c]
  .rw[zad h0]at c;have a:=j (X++[none]) (d.app (jQ 1));have m:∀aQ ts,bt aQ ts (X++[some (bW Ex.cells acc)])=(X++[some (bW Ex.cells acc)],aQ,ts):=(d.app (aY.one fG)).norm;simp only[hV,hS,hT,zad f,zad h0]at c⊢;have r1:(bW Ex.cells acc).length=acc.length*11:=gX sK;have r2:dR (bW Ex.cells acc)=false:=d_ fG;have r3:(bW Ex.cells acc).take (acc.length*11)=bW Ex.cells acc:=zaz (by omega);have o:(acc.length+1)*152<=140737488355328:=by omega
   rw[h]at a c;rw[zat,zbm,zat,zbm]at c;have t:∀u w:Option (List AV),(X++[u]).set X.length w=X++[w]:=fun u w=>by simp
   have s:∀u:Option (List AV),(X++[u])[X.length]?=some u:=fun u=>by simp
   simp only[Ex.cl]at a;rw[g414L0e]at c⊢;generalize bW Ex.cells acc=F at*;simp[a]at c;simp(disch:=omega)[-getElem?_pos,g414B0,hx,hi,aq,m,r1,r2,r3,t,s,o];rw[g414L0e];simp[a,c]
def c414(h:e.Ok):(aE AP).p 414 [e.pv]=some [.ae (e.ch.map Ex.pv)]:=by
 have n:=h.k;have j:=h.a;obtain⟨k,h2⟩:=Yv j _ 0 rfl (by omega) [] e.kids (by intro cs h;simp at h) (by omega);rw[zar]at h2
 change cl AP g414L0 _=some (.exit 0,⟨[(3,hV ([]++nn k) e.ch),(10,.pv (.ae (e.aF.map Ar.pv))),(11,.pv (vI e.aF.length)),(12,.pv (vI e.aF.length)),(13,.pv (.bool false))],[],hS ([]++nn k) e.ch,hT e.ch⟩)at h2
 have g:e.kids.length*152<=140737488355328:=by omega
 have hm:=Qk (l:=e.kids);have hl:=Qj (l:=e.ch);have b:(bW Ex.cells e.ch).length=e.ch.length*11:=gX sK;have d:∀aQ ts,bt aQ ts ([some (bW Ex.cells e.kids)])=([some (bW Ex.cells e.kids)],aQ,ts):=(aY.one fG).norm;rw[aB g414];by_cases f:e.ch=[]
 .have h0:e.kids=[]/\e.aF=[]:=by have:=f;simpa[Ex.ch]using this
  simp only[f,hV,hS,hT,za4,h0.1]at h2⊢;rw[g414L0e]at h2;simp[h0.1,h0.2]at h2;simp[g414,h0.1,h0.2,g414L0e,h2]
 .have i:∀Z:Option (List AV),([]++nn k++[Z])[k]?=some Z:=fun Z=>by simp
  by_cases h0:e.kids=[]
  .simp only[hV,hS,hT,zad f,h0,za4]at h2⊢;have c:=i (some (bW Ex.cells e.ch));generalize []++nn k++[some (bW Ex.cells e.ch)]=m at*;generalize bW Ex.cells e.ch=F at*;rw[g414L0e]at h2;simp[h0]at h2;simp at hl;simp[-getElem?_pos,g414,h0,g414L0e,h2,c,b,hl]
  .simp only[hV,hS,hT,zad f,zad h0]at h2⊢;have c:=i (some (bW Ex.cells e.ch));generalize []++nn k++[some (bW Ex.cells e.ch)]=m at*;generalize bW Ex.cells e.ch=F at*;generalize bW Ex.cells e.kids=o at*;rw[g414L0e]at h2;simp[d]at h2 hl;simp[-getElem?_pos,g414,h0,g,hm,d,g414L0e,h2,c,b,hl]
def exZ:Ex:=⟨0,0,[],0,[],[],cA⟩
def Ex.at:Ex->List Int->Option Ex
 |e,[]=>some e
 |e,i::r=>if 0<=i/\i<e.ch.length then match e.ch[i.toNat]? with|some x=>x.at r|none=>none else none
def zO:List AV:=[.pv (vI 0),.pv (vI 0),.pv (.str []),.pv (vI 0),.own [] 0,.own [] 1,.pv (vI 0),.pv (.str []),.pv (vI 0),.pv (vI 0),.own [] 2]
def zK:List AV:=[.pv (vI 0),.pv (vI 0),.pv (.str []),.pv (vI 0),.dm [],.dm [],.pv (vI 0),.pv (.str []),.pv (vI 0),.pv (vI 0),.dm []]
def atR:Option Ex->List PV
 |some x=>[x.pv,.bool true]
 |none=>[exZ.pv,.bool false]
def M1(p:List Int):Option Ex->Option (aX×St)
 |some x=>some (.exit 0,⟨[(2,.au 2 0),(4,.au 4 0),(9,.pv (.ae (p.map vI))),(10,.pv (vI p.length)),(11,.pv (vI p.length)),(12,.pv (.bool false))],[(2,x.cl),(4,zO)],[],[0,0,0]⟩)
 |none=>some (.ret,⟨[(4,.au 4 0),(5,.pv (.bool false))],[(4,zK)],[],[0,0,0]⟩)
def aaY(hp:Sm p):∀(n i:Nat),p.length-i=n->i<=p.length->∀e:Ex,e.Ok->
   cl AP g410L0 ⟨[(2,.au 2 0),(4,.au 4 0),(9,.pv (.ae (p.map vI))),(10,.pv (vI p.length)),(11,.pv (vI i))],[(2,e.cl),(4,zO)],[],[0,0,0]⟩=M1 p (e.at (p.drop i))
 |0,i,hn,hi,e,f=>by
  have:i=p.length:=by omega
  subst this;rw[g410L0e];simp[g410B0,Ex.at,M1,zO]
 |n+1,i,hn,hi,e,f=>by
  have hi:i<p.length:=(by omega);obtain⟨k,b⟩:=aR hi;unfold Sm at hp;have c:=c414 f;simp at c;rw[aZ b,g410L0e];simp only[Ex.at];by_cases h1:0<=k/\k<e.ch.length
  .rw[zai h1];obtain⟨m,rfl,hm⟩:=yl h1.1 h1.2;obtain⟨x,hx⟩:=aR hm;have g:=aaY hp n (i+1) (by omega) (by omega) x (f.c x (aM hx));have d:¬e.ch.length<=m:=by omega
   simp[hx,zO]at g⊢;generalize e.ch=C at*;simp(disch:=omega)[-getElem?_pos,g410B0,b,hi,aq,c,hx,hm,d,g]
  .rw[zad h1];by_cases h2:0<=k
   .have h3:¬k<e.ch.length:=fun h=>h1 ⟨h2,h⟩;have a:¬k<0:=by omega
    have h4:(e.ch.length:Int)<=k:=(by omega);generalize e.ch=C at*;simp(disch:=omega)[-getElem?_pos,g410B0,b,hi,aq,c,M1,zO,zK,h3,a,h4]
   .have a:k<0:=(by omega);generalize e.ch=C at*;simp(disch:=omega)[-getElem?_pos,g410B0,b,hi,aq,c,M1,zO,zK,a]
def c410(h:e.Ok)(hp:Sm p):(aE AP).p 410 [e.pv,.ae (p.map vI)]=some (atR (e.at p)):=by
 have h2:=aaY hp _ 0 rfl (by omega) e h;simp at h2;rw[aB g410];rw[g410L0e]at h2;cases hx:e.at p with
 |none=>rw[hx]at h2;simp[M1,zO,zK]at h2;simp[g410,g410L0e,h2,atR,exZ,cA]
 |some x=>rw[hx]at h2;simp[M1,zO,zK]at h2;simp[g410,g410L0e,h2,atR,exZ,cA]
def bX(e:Ex)(i:Nat):List (List UInt8):=
 if e.kind=4\/e.kind=7\/(e.kind=6/\i=1)then[e.name]
 else if e.kind=8/\0<i then match e.aF[i-1]? with|some a=>a.vars|none=>[]
 else []
def c380(hi:i<e.ch.length)(h8:e.kind=8->e.kids.length=1)(g:e.Ok):(aE AP).p 380 [e.pv,vI i]=some [.ae ((bX e i).map .str)]:=by
 have j:=g.a;rw[Ex.i_]at hi;rw[aB g380];unfold bX;by_cases h1:e.kind=4
 .simp[g380,h1]
 .by_cases h2:e.kind=7
  .simp[g380,h1,h2]
  .by_cases h3:e.kind=6
   .by_cases h4:i=1
    .simp[g380,h1,h2,h3,h4]
    .have f:¬(i:Int)=1:=(by omega);simp[g380,h1,h2,h3,h4,f]
   .by_cases h5:e.kind=8
    .by_cases h6:0<i
     .have d:(0:Int)<i:=(by omega);have h:=h8 h5;obtain⟨a,hx⟩:=aR (l:=e.aF) (i:=i-1) (by omega);obtain⟨m,rfl⟩:∃m:Nat,i=m+1:=⟨i-1,by omega⟩;have hm:((m+1:Nat):Int)-1=m:=(by omega);have b:((m:Int)+1)-1=m:=(by omega);simp at hx hi;have c:m<e.aF.length:=(by omega);simp(disch:=omega)[-getElem?_pos,g380,h1,h2,h3,h5,h6,d,aq,hm,b,hx,c]
     .have:i=0:=by omega
      subst this;simp[g380,h1,h2,h3,h5]
    .simp[g380,h1,h2,h3,h5]
def c411(hi:i<e.ch.length)(h8:e.kind=8->e.kids.length=1)(j:e.Ok):(aE AP).p 411 [e.pv,vI i]=some [.ae ((bX e i).map .str)]:=by
 have k:=j.a;rw[Ex.i_]at hi;rw[aB g411];unfold bX;by_cases h1:e.kind=4
 .simp[g411,h1]
 .by_cases h2:e.kind=7
  .simp[g411,h1,h2]
  .by_cases h3:e.kind=6
   .by_cases h4:i=1
    .simp[g411,h1,h2,h3,h4]
    .have g:¬(i:Int)=1:=(by omega);simp[g411,h1,h2,h3,h4,g]
   .by_cases h5:e.kind=8
    .have h:=h8 h5;by_cases h6:0<i
     .have f:(1:Int)<=i:=(by omega);obtain⟨a,hx⟩:=aR (l:=e.aF) (i:=i-1) (by omega);obtain⟨m,rfl⟩:∃m:Nat,i=m+1:=⟨i-1,by omega⟩;have hm:((m+1:Nat):Int)-1=m:=(by omega);have c:((m:Int)+1)-1=m:=(by omega);simp at hx hi;have d:m<e.aF.length:=(by omega);have b:(1:Int)<=(m:Int)+1:=(by omega);simp(disch:=omega)[-getElem?_pos,g411,h1,h2,h3,h5,h,h6,f,b,aq,hm,c,hx,d]
     .have:i=0:=by omega
      subst this;simp[g411,h1,h2,h3,h5,h]
    .simp[g411,h1,h2,h3,h5]
def yn{l:List α}{x:α}(h:i<l.length):(l.set i x).take (i+1)=l.take i++[x]:=by
 rw[zbe,zai h,zb1,zaz (by simp;omega)];have:i+1-(l.take i).length=1:=by simp;omega
 rw[this];rfl
def DX{l:List α}{x:α}(h:i<j):(l.set i x).drop j=l.drop j:=by
 rw[zcV h]
def Yw{X:Sh}(k:aY X){t:List UInt8}(hN:N<1099511627776):∀(n j:Nat),N-j=n->j<=N->∀(a:List (List UInt8))(i:Nat),a.length=N->i<j->∃(d:List (List UInt8))(f:Nat),
   cl AP g412L0 ⟨[(0,.bl X.length 1 N false),(1,.fn 413 [.aL (X.length+1) 0]),(5,.pv (vI i)),(6,.pv (vI j))],[],SA X a t,[]⟩=
     some (.exit 0,⟨[(0,.bl X.length 1 N false),(1,.fn 413 [.aL (X.length+1) 0]),(5,.pv (vI f)),(6,.pv (vI N)),(19,.pv (.bool false))],[],SA X d t,[]⟩)/\
     d.length=N/\f<=N/\d.take f=a.take i++(a.drop j).filter (fun x=>!decide (x=t))
 |0,j,z,hj,a,i,p,hi=>by
  have:j=N:=by omega
  subst this;have hn:=(gN k (l:=a) (t:=t)).norm;refine⟨a,i,?_,p,by omega,by rw[List.drop_of_length_le (by omega)];simp⟩;generalize SA X a t=y at hn⊢;rw[g412L0e];simp[g412B0,hn]
 |n+1,j,z,hj,a,i,p,hi=>by
  have hj:j<N:=(by omega);obtain⟨x,hx⟩:=aR (l:=a) (i:=j) (by omega);have hn:=(gN k (l:=a) (t:=t)).norm;have hs:=(gN k (l:=a) (t:=t)).shift;have v:=Qc hx;have w:dR (tx a)=false:=d_ oo;have o:j+1<=(tx a).length:=(by rw[qq];omega);have m:i+1<=(tx a).length:=(by rw[qq];omega);have r:=H8 (X:=X) (l:=a) (t:=t);have q:=Qd hn hs Qa (by rw[A8];omega) (x:=x) (t:=t) (c:=X.length+1);by_cases e:x=t
  .obtain⟨d,f,e1,e2,e3,e4⟩:=Yw k (t:=t) hN n (j+1) (by omega) (by omega) a i p (by omega);refine⟨d,f,?_,e2,e3,by rw[e4,aZ hx];simp[e]⟩;rw[zaE e]at q;generalize SA X d t=A at e1⊢;generalize SA X a t=y at hn hs r q e1⊢;rw[g412L0e]at e1⊢;simp[hn]at e1;simp(disch:=omega)[-getElem?_pos,-fE,g412B0,hj,hn,r,v,w,o,q,aq];rw[g412L0e];simp[hn,e1]
  .obtain⟨d,f,e1,e2,e3,e4⟩:=Yw k (t:=t) hN n (j+1) (by omega) (by omega) (a.set i x) (i+1) (by simpa using p) (by omega);refine⟨d,f,?_,e2,e3,by rw[e4,aZ hx,yn (by omega),DX (by omega)];simp[e]⟩;rw[zaB e]at q;have u:i<N:=by omega
   have g:=Yn (l:=a) (i:=i) (by omega) (s:=x);have b:=Qb (X:=X) (l:=a) (l':=a.set i x) (t:=t);have h:=(gN k (l:=a.set i x) (t:=t)).norm;generalize SA X d t=A at e1⊢;generalize SA X (a.set i x) t=C at b h e1;generalize SA X a t=y at hn hs r q b⊢;generalize tx (a.set i x)=B at g b;rw[g412L0e]at e1⊢;simp[h]at e1 g;simp(disch:=omega)[-getElem?_pos,-fE,g412B0,hj,hn,r,v,w,o,m,u,q,aq,g,b];rw[g412L0e];simp[h,e1]
def c421(hn:∀aQ ts,bt aQ ts SH=(SH,aQ,ts))(hs:∀n,gh n SH=SH){c:Nat}{F:List UInt8}(hS:Sm G)(e:SH[b]?=some (some (tx G)))(d:SH[c]?=some (some [.pv (.str F)]))(a:c<SH.length):
   (aE AP).i 421 [.bl b 1 G.length false,.fn 413 [.aL c 0]] SH []=some ([.pv (vI (mq (bI (fun x=>decide (x=F)) G)))],SH,[]):=by
 have h:=aaQ hn hs hS e d a _ 0 rfl (by omega);simp at h;rw[fF (af:=uy 1 false) rfl (by simp[uy])];cases hi:bI (fun x=>decide (x=F)) G with
 |none=>rw[hi]at h;simp at h;simp[uy,h,hn,mq]
 |some k=>rw[hi]at h;simp at h;simp[uy,h,hn,mq]
theorem Jp{p:α->Bool}:∀{l:List α},bI p l=none->l.filter (fun x=>!p x)=l
 |[],_=>rfl
 |x::r,h=>by
  simp only[bI]at h;split at h
  .simp at h
  .rename_i e;cases h':bI p r with
   |none=>simp[e,Jp h']
   |some k=>rw[h']at h;simp at h
def Jq{p:α->Bool}:∀{l:List α}{k:Nat},bI p l=some k->k<l.length/\l.filter (fun x=>!p x)=l.take k++(l.drop (k+1)).filter (fun x=>!p x)
 |[],_,h=>by simp[bI]at h
 |x::r,k,h=>by
  simp only[bI]at h;split at h
  .rename_i e;simp at h;subst h;simp[e]
  .rename_i e;cases h':bI p r with
   |none=>rw[h']at h;simp at h
   |some k'=>
    rw[h']at h;simp at h;subst h;obtain⟨h1,h2⟩:=Jq h';exact⟨by simpa using h1,by simp[e,h2]⟩
theorem Ql(hN:G.length=N)(h:i<=N):a_ (tx G) i ((List.replicate (N-i) [AV.pv (.str [])]).flatten)=tx (G.take i++List.replicate (N-i) []):=by
 have e:∀k,(List.replicate k [AV.pv (.str [])]).flatten=List.replicate k (AV.pv (.str [])):=by
  intro k;induction k with
  |zero=>rfl
  |succ k b=>simp only[zbs,zc2,b];rfl
 rw[e,aU,za6 (by rw[qq];simp;omega)];simp[tx,zbi]
def c412(q:aY X){t:List UInt8}{l:List (List UInt8)}(hS:Sm l):∃a:List (List UInt8),a.length=l.length/\a.take (l.filter fun x=>!decide (x=t)).length=l.filter (fun x=>!decide (x=t))/\
   (aE AP).i 412 [.bl X.length 1 l.length false,.fn 413 [.aL (X.length+1) 0]] (SA X l t) []=some ([.bl X.length 1 (l.filter fun x=>!decide (x=t)).length false],SA X a t,[]):=by
 have w:=hS;unfold Sm at w;have hn:=(gN q (l:=l) (t:=t)).norm;have hs:=(gN q (l:=l) (t:=t)).shift;have k:=c421 hn hs (b:=X.length) (c:=X.length+1) hS H8 Qa (by rw[A8];omega);have d:=A8 (X:=X) (l:=l) (t:=t);cases hi:bI (fun x=>decide (x=t)) l with
 |none=>
  rw[hi]at k;have hf:=Jp hi;refine⟨l,rfl,by rw[hf];simp,?_⟩;rw[hf,aC g412];generalize SA X l t=SH at hn hs k d⊢;simp[mq]at k;have ht:SH.take SH.length=SH:=zbu;simp[-getElem?_pos,g412,hn,hs,k,mq,d];rw[<-d,ht];simp[hn]
 |some i0=>
  rw[hi]at k;obtain⟨h0,hf⟩:=Jq hi;obtain⟨g,e,e1,e2,e3,e4⟩:=Yw q (t:=t) (N:=l.length) (by omega) _ (i0+1) rfl (by omega) l i0 rfl (by omega);rw[<-hf]at e4;have p:(l.filter fun x=>!decide (x=t)).length=e:=by rw[<-e4];simp;omega
  refine⟨g.take e++List.replicate (l.length-e) [],by simp;omega,?_,?_⟩
  .rw[p,<-e4,zbQ (by simp;omega),List.take_take];simp
  .rw[p,aC g412];have u:=(gN q (l:=g) (t:=t)).norm;have j:=(gN q (l:=g.take e++List.replicate (l.length-e) []) (t:=t)).norm;have A:dR (tx g)=false:=d_ oo;have y:=H8 (X:=X) (l:=g) (t:=t);have n:(tx g).length=l.length:=by rw[qq,e2]
   have h:=Ql e2 e3;have f:=Qb (X:=X) (l:=g) (l':=g.take e++List.replicate (l.length-e) []) (t:=t);have m:=A8 (X:=X) (l:=g.take e++List.replicate (l.length-e) []) (t:=t);generalize SA X (g.take e++List.replicate (l.length-e) []) t=S2 at j f m⊢;generalize SA X g t=C at u y f e1;generalize SA X l t=SH at hn hs k d e1⊢;generalize tx (g.take e++List.replicate (l.length-e) [])=B at h f;have ht:S2.take S2.length=S2:=zbu;rw[g412L0e]at e1;simp[hn]at e1;have o:¬((i0:Int)=-1):=(by omega);have v:e+(l.length-e)<=l.length:=(by omega);rcases Nat.eq_zero_or_pos e with z|z
   .subst z;simp at h;simp(disch:=omega)[-getElem?_pos,g412,hn,hs,k,mq,o,aq,g412L0e,e1,me,eI,y,A,n,h,f,d];rw[<-m,ht];simp[j]
   .have s:¬((e:Int)=0):=(by omega);have r:¬e=0:=(by omega);simp[e3]at h;simp(disch:=omega)[-getElem?_pos,g412,hn,hs,k,mq,o,aq,g412L0e,e1,me,eI,s,r,e3,y,A,n,v,h,f,d];rw[<-m,ht];simp[j]
def o6(l:List (List UInt8))(t:List UInt8):List (List UInt8):=(l.filter fun x=>!decide (x=t))++[t]
def c412e(hn:∀aQ ts,bt aQ ts SH=(SH,aQ,ts))(hs:∀n,gh n SH=SH){c:Nat}:
   (aE AP).i 412 [.own [] 0,.fn 413 [.aL c 0]] SH [0]=some ([.own [] 0],SH,[0]):=by
 have k:(aE AP).i 421 [.pv (.ae []),.fn 413 [.aL c 0]] SH []=some ([.pv (vI (-1))],SH,[]):=by
  rw[fF (af:=uy 1 false) rfl (by simp[uy])];simp[uy,hn,rj,A5]
 rw[aC g412];have ht:SH.take SH.length=SH:=zbu;simp[-getElem?_pos,g412,hn,hs,k,ht]
def EN(X:Sh)(l:List (List UInt8)):AV:=if l=[]then .own [] 0 else .bl X.length 1 l.length false
def BL(X:Sh)(l:List (List UInt8)):Sh:=if l=[]then X else X++[some (tx l)]
def EO(l:List (List UInt8)):aH:=if l=[]then[0]else[]
def Qm{e:List AV}(E:∀v∈e,∃p,v=AV.pv p){i9 i22:Int}{p20:PV}{n21:Int}{V:List (List UInt8)}(hV:V.length<1000000):∀(n j:Nat),V.length-j=n->j<=V.length->∀(X:Sh)(l:List (List UInt8)),aY X->l.length+n<1000000000->∃X',aY X' /\
   cl AP g404L1 ⟨[(2,.au 2 0),(7,EN X l),(9,.pv (vI i9)),(20,.pv p20),(21,.pv (vI n21)),(22,.pv (vI i22)),(28,.pv (.ae (V.map .str))),(29,.pv (vI V.length)),(30,.pv (vI j))],[(2,e)],BL X l,EO l⟩=
     some (.exit 2,⟨[(2,.au 2 0),(7,EN X' ((V.drop j).foldl o6 l)),(9,.pv (vI i9)),(20,.pv p20),(21,.pv (vI n21)),(22,.pv (vI i22)),(28,.pv (.ae (V.map .str))),(29,.pv (vI V.length)),(30,.pv (vI V.length)),(31,.pv (.bool false))],[(2,e)],BL X' ((V.drop j).foldl o6 l),EO ((V.drop j).foldl o6 l)⟩)
 |0,j,O,hj,X,l,i,hl=>by
  have:j=V.length:=by omega
  subst this;refine⟨X,i,?_⟩;rw[za9];simp only[List.foldl_nil];have hn:=i.norm;have b:∀aQ ts,bo aQ ts e=(e,aQ,ts):=fun aQ ts=>i6 E
  by_cases h0:l=[]
  .rw[g404L1e];simp[g404B1,EN,BL,EO,h0,hn,b]
  .have d:∀aQ ts,bt aQ ts (X++[some (tx l)])=(X++[some (tx l)],aQ,ts):=(i.app (aY.one oo)).norm;rw[g404L1e];simp only[EN,BL,EO,zad h0];generalize X++[some (tx l)]=S1 at d;simp[g404B1,d,b]
 |n+1,j,O,hj,X,l,i,hl=>by
  have hj:j<V.length:=(by omega);obtain⟨t,ht⟩:=aR hj;have b:∀aQ ts,bo aQ ts e=(e,aQ,ts):=fun aQ ts=>i6 E
  have hn:=i.norm;have hs:=i.shift;have q:(l.filter fun x=>!decide (x=t)).length<=l.length:=zcN _ _;have N:(o6 l t).length<=l.length+1:=(by simp[o6,q]);rw[aZ ht,zaO];by_cases h0:l=[]
  .subst h0;have h:aY (X++[some [.pv (.str t)]]):=i.app (aY.one (by intro v o;simp at o;exact⟨_,o⟩));have k:=c412e h.norm h.shift (c:=X.length);obtain⟨X',z,f⟩:=Qm E (i9:=i9) (i22:=i22) (p20:=p20) (n21:=n21) hV n (j+1) (by omega) (by omega) (X++[some [.pv (.str t)]]) [t] h (by simp at hl⊢;omega);refine⟨X',z,?_⟩;have Q:o6 [] t=[t]:=by simp[o6]
   rw[Q]
   have g:∀aQ ts,bt aQ ts (X++[some [.pv (.str t)],some [.pv (.str t)]])=(X++[some [.pv (.str t)],some [.pv (.str t)]],aQ,ts):=by
    have:=(h.app (aY.one (cs:=[AV.pv (.str t)]) (by intro v o;simp at o;exact⟨_,o⟩))).norm;simpa using this
   have d:=h.norm;have G:=h.shift;generalize (V.drop (j+1)).foldl o6 [t]=r at f⊢;rw[g404L1e]at f⊢;simp[EN,BL,EO,b,tx,g]at f⊢;simp(disch:=omega)[-getElem?_pos,g404B1,ht,hj,hn,d,G,b,k,aq];rw[g404L1e];simp[b,g,f]
  .obtain⟨a,S,R,k⟩:=c412 i (t:=t) (l:=l) (by unfold Sm;omega);have D:aY (X++[none,some [.pv (.str t)]]):=i.app (by intro cs J v o;simp at J;subst J;simp at o;exact⟨_,o⟩);obtain⟨X',z,f⟩:=Qm E (i9:=i9) (i22:=i22) (p20:=p20) (n21:=n21) hV n (j+1) (by omega) (by omega) (X++[none,some [.pv (.str t)]]) (o6 l t) D (by omega);refine⟨X',z,?_⟩;have F:o6 l t≠[]:=by simp[o6]
   have C:∀aQ ts,bt aQ ts (X++[some (tx l)])=(X++[some (tx l)],aQ,ts):=(i.app (aY.one oo)).norm;have d:=(gN i (l:=l) (t:=t)).norm;have g:=(gN i (l:=a) (t:=t)).norm;have s:=(gN i (l:=a) (t:=t)).shift
   have y:∀aQ ts,bt aQ ts (X++[none,some [.pv (.str t)],some (tx (o6 l t))])=(X++[none,some [.pv (.str t)],some (tx (o6 l t))],aQ,ts):=by
    have:=(D.app (aY.one (cs:=tx (o6 l t)) oo)).norm;simpa using this
   have L:dR (tx a)=false:=d_ oo;have B:(tx a).length=l.length:=(by rw[qq,S]);have A:(o6 l t).length=(l.filter fun x=>!decide (x=t)).length+1:=by simp[o6]
   have m:tx (o6 l t)=(tx a).take (l.filter fun x=>!decide (x=t)).length++[.pv (.str t)]:=by
    have:(tx a).take (l.filter fun x=>!decide (x=t)).length=tx (l.filter fun x=>!decide (x=t)):=by
     conv=>rhs;rw[<-R]
     simp[tx,zbi]
    rw[this];simp[tx,o6]
   have P:∀u v:Option (List AV),(X++[u,v])[X.length]?=some u:=fun u v=>by simp
   have g1:∀u v:Option (List AV),(X++[u,v])[X.length+1]?=some v:=fun u v=>by simp
   have s0:∀u v w:Option (List AV),(X++[u,v]).set X.length w=X++[w,v]:=fun u v w=>by simp
   have M:∀u v w:Option (List AV),(X++[u,v]).set (X.length+1) w=X++[u,w]:=fun u v w=>by simp
   unfold SA at k d g s;simp only[EN,BL,EO,zad h0,zad F]at f⊢;generalize (V.drop (j+1)).foldl o6 (o6 l t)=r at f⊢;rw[A]at f;generalize (l.filter fun x=>!decide (x=t)).length=K at k m f q;have I:(K+1)*16<=140737488355328:=by omega
   have H:K<=l.length:=q;generalize tx (o6 l t)=U at m y f;generalize tx a=Z at k g s L B m;generalize tx l=Y at k C d⊢;generalize (if r=[]then AV.own [] 0 else AV.bl X'.length 1 r.length false)=T at f⊢;generalize (if r=[]then X' else X'++[some (tx r)])=SR at f⊢;generalize (if r=[]then([0]:aH)else[])=W at f⊢;rw[g404L1e]at f⊢;simp[b,y]at f;simp(disch:=omega)[-getElem?_pos,g404B1,ht,hj,C,d,g,s,b,k,aq,L,B,I,H,P,g1,s0,M,<-m];rw[g404L1e];simp[b,y,f]
def aaZ(hS:Sm L){y:bF}:∀(n i:Nat),L.length-i=n->i<=L.length->
   cl AP g364L0 ⟨[(0,.pv (.ae (L.map .str))),(1,.pv (.str y)),(5,.pv (vI i))],[],[],[]⟩=
     if y∈L.drop i then some (.ret,⟨[(4,.pv (.bool true))],[],[],[]⟩)
     else some (.exit 0,⟨[(0,.pv (.ae (L.map .str))),(1,.pv (.str y)),(5,.pv (vI L.length)),(9,.pv (.bool false))],[],[],[]⟩)
 |0,i,hn,hi=>by
  have:i=L.length:=by omega
  subst this;rw[g364L0e];simp[g364B0]
 |n+1,i,hn,hi=>by
  have hi:i<L.length:=(by omega);obtain⟨x,hx⟩:=aR hi;unfold Sm at hS;have a:=aaZ hS (y:=y) n (i+1) (by omega) (by omega);simp at a;rw[g364L0e,aZ hx];by_cases e:x=y
  .subst e;simp(disch:=omega)[-getElem?_pos,g364B0,hx,hi]
  .have b:¬y=x:=fun h=>e h.symm;simp(disch:=omega)[-getElem?_pos,g364B0,hx,hi,e,b,aq,a]
def c364{s:List bF}(hS:Sm s):(aE AP).p 364 [.ae (s.map .str),.str y]=some [.bool (decide (y∈s))]:=by
 have h:=aaZ hS (y:=y) _ 0 rfl (by omega);simp at h;rw[aB g364];by_cases e:y∈s<;>simp[e]at h<;>simp[g364,h,e]
noncomputable def gO:List bF->List bF
 |[]=>[]
 |x::r=>if x∈r then gO r else x::gO r
inductive Ex.One:Ex->Prop
 |mk {e:Ex}:(e.kind=8->e.kids.length=1)->(∀x∈e.ch,x.One)->e.One
def Ex.One.h(h:e.One):e.kind=8->e.kids.length=1:=by cases h;assumption
def Ex.One.c(h:e.One):∀x∈e.ch,x.One:=by cases h;assumption
def Ex.DV:Ex->List Int->List bF
 |_,[]=>[]
 |e,i::r=>bX e i.toNat++match e.ch[i.toNat]? with|some x=>x.DV r|none=>[]
def ot(h:e.Ok):(bX e i).length<=1000:=by
 unfold bX;split
 .simp
 .split
  .cases hx:e.aF[i-1]? with
   |none=>simp
   |some a=>exact h.v a (aM hx)
  .simp
def T6{r:List Int}{y:Ex}(h:e.at (B::r)=some y):∃(m:Nat)(x:Ex),B=m/\m<e.ch.length/\e.ch[m]?=some x/\x.at r=some y:=by
 simp only[Ex.at]at h;split at h
 .rename_i h1;obtain⟨m,rfl,hm⟩:=yl h1.1 h1.2;obtain⟨x,hx⟩:=aR hm;simp[hx]at h;exact⟨m,x,rfl,hm,hx,h⟩
 .cases h
noncomputable def T7(e:Ex)(p:List Int):List bF:=match e.at p with|some _=>gO (e.DV p)|none=>[]
def V_(hp:p.length<100000){y:Ex}:∀(n i:Nat),p.length-i=n->i<=p.length->∀(e:Ex)(X:Sh)(l:List bF),e.Ok->e.One->aY X->e.at (p.drop i)=some y->l.length<=i*1000->∃(s:Sh)(q:List AV),aY s /\
   cl AP g404L0 ⟨[(2,.au 2 0),(7,EN X l),(20,.pv (.ae (p.map vI))),(21,.pv (vI p.length)),(22,.pv (vI i))],[(2,e.cl)],BL X l,EO l⟩=
     some (.exit 0,⟨[(2,.au 2 0),(7,EN s ((e.DV (p.drop i)).foldl o6 l)),(20,.pv (.ae (p.map vI))),(21,.pv (vI p.length)),(22,.pv (vI p.length)),(23,.pv (.bool false))],[(2,q)],BL s ((e.DV (p.drop i)).foldl o6 l),EO ((e.DV (p.drop i)).foldl o6 l)⟩)
 |0,i,hn,hi,e,X,l,w,h1,f,I,hl=>by
  have:i=p.length:=by omega
  subst this;refine⟨X,e.cl,f,?_⟩;have F:=f.norm;have d:∀aQ ts,bt aQ ts (X++[some (tx l)])=(X++[some (tx l)],aQ,ts):=(f.app (aY.one oo)).norm;rw[g404L0e];by_cases h0:l=[]
  .subst h0;simp[g404B0,Ex.DV,EN,BL,EO,F]
  .simp only[za9,Ex.DV,List.foldl_nil,EN,BL,EO,zad h0];generalize X++[some (tx l)]=R at*;simp[g404B0,d]
 |n+1,i,hn,hi,e,X,l,w,h1,f,I,hl=>by
  have hi:i<p.length:=(by omega);obtain⟨k,P⟩:=aR hi;rw[aZ P]at I⊢;obtain⟨m,x,rfl,hm,hx,hy⟩:=T6 I;have Q:=ot w (i:=m);have H:∀v∈e.cl,∃p,v=AV.pv p:=by intro v O;simp at O;rcases O with rfl|rfl|rfl|rfl|rfl|rfl|rfl|rfl|rfl|rfl|rfl<;>exact⟨_,rfl⟩
  obtain⟨K,A,e1⟩:=Qm H (i9:=m) (i22:=i) (p20:=.ae (p.map vI)) (n21:=p.length) (V:=bX e m) (by omega) _ 0 rfl (by omega) X l f (by omega)
  have E:∀(V l:List bF),(V.foldl o6 l).length<=l.length+V.length:=by
   intro V;induction V with
   |nil=>intro l;simp
   |cons t r j=>
    intro l;have:=j (o6 l t);have hf:(l.filter fun x=>!decide (x=t)).length<=l.length:=zcN _ _;have:(o6 l t).length<=l.length+1:=by simp[o6,hf]
    simp only[zaO,zay];omega
  have G:=E (bX e m) l;obtain⟨s,q,J,j⟩:=V_ hp n (i+1) (by omega) (by omega) x K ((bX e m).foldl o6 l) (w.c x (aM hx)) (h1.c x (aM hx)) A hy (by omega);refine⟨s,q,J,?_⟩;have c:=c414 w;have c2:=c411 hm h1.h w;simp only[Ex.DV,zcs,hx,zcb];rw[zar]at e1;generalize T:(x.DV (p.drop (i+1))).foldl o6 ((bX e m).foldl o6 l)=r at j⊢;generalize (bX e m).foldl o6 l=D at e1 j G
  have u:∀{X:Sh}{l:List bF},aY X->∀aQ ts,bt aQ ts (BL X l)=(BL X l,aQ,ts):=by
   intro X l f aQ ts;unfold BL;by_cases h0:l=[]
   .rw[zai h0];exact f.norm aQ ts
   .rw[zad h0];exact(f.app (aY.one oo)).norm aQ ts
  have d:=u f (l:=l);have o:=u A (l:=D)
  have a:∀(X:Sh)(l:List bF),(EN X l=.own [] 0/\EO l=[0])\/(∃b z k g,EN X l=.bl b z k g/\EO l=[]):=by
   intro X l;unfold EN EO;by_cases h0:l=[]
   .left;simp[h0]
   .right;exact⟨X.length,1,l.length,false,by simp[h0],by simp[h0]⟩
  rw[g404L0e]at j⊢;rw[g404L1e]at e1;generalize e.ch=C at*;generalize bX e m=B at*;simp at c c2
  rcases a X l with⟨M,t1⟩|⟨b1,z1,S,f1,M,t1⟩<;>rcases a K D with⟨L,N⟩|⟨U,z2,k2,f2,L,N⟩<;>simp only[M,t1,L,N]at e1 j⊢<;>generalize BL X l=Z at*<;> generalize BL K D=R at*<;> generalize BL s r=Y at*<;> generalize EN s r=V2 at*<;> generalize EO r=W at*<;>
    simp[d,o]at e1 j⊢ <;>
    simp (disch:=omega) [-getElem?_pos,g404B0,P,hi,aq,c,c2,hx,hm,d,o,g404L1e,e1]<;>rw[g404L0e]<;>simp[o,j]
def nf(t:bF):∀l:List bF,gO (l++[t])=(gO l).filter (fun x=>!decide (x=t))++[t]
 |[]=>by simp[gO]
 |x::r=>by
  simp only[za2,gO,zae,zaU];by_cases e:x∈r
  .simp[e,nf t r]
  .by_cases e2:x=t
   .subst e2;simp[e,nf x r]
   .simp[e,e2,nf t r]
def M3(l:List bF):l.foldl o6 []=gO l:=by
 have:∀k,∀l:List bF,l.length=k->l.foldl o6 []=gO l:=by
  intro k;induction k with
  |zero=>intro l h;have:=zba.1 h;subst this;simp[gO]
  |succ k b=>
   intro l h;have a:l≠[]:=by intro e;subst e;simp at h
   obtain⟨r,t,rfl⟩:∃r t,l=r++[t]:=⟨l.dropLast,l.getLast a,(List.dropLast_concat_getLast a).symm⟩;rw[zcb,b r (by simpa using h),nf];rfl
 exact this _ l rfl
theorem Qn:∀r:List bF,fM (tx r)=some (r.map .str)
 |[]=>rfl
 |t::r=>by
  have a:=Qn r;unfold tx at a⊢;simp only[zan,fM,jH,a]
def c404(f:e.Ok)(h1:e.One)(hp:p.length<100000):(aE AP).p 404 [e.pv,.ae (p.map vI)]=some [.ae ((T7 e p).map .str)]:=by
 have c:=c410 f (p:=p) (by unfold Sm;omega);rw[aB g404];unfold T7;cases hx:e.at p with
 |none=>
  rw[hx]at c;simp[atR,exZ,cA]at c;simp[g404,c]
 |some y=>
  rw[hx]at c;simp[atR]at c;obtain⟨X',q,b,h⟩:=V_ hp _ 0 rfl (by omega) e [] [] f h1 (by intro cs h;simp at h) hx (by simp);rw[zar,M3]at h;generalize gO (e.DV p)=r at*;have hn:=b.norm;have g:∀aQ ts,bt aQ ts (X'++[some (tx r)])=(X'++[some (tx r)],aQ,ts):=(b.app (aY.one oo)).norm;have d:=Qn r;have a:=qq (l:=r);rw[g404L0e]at h;by_cases h0:r=[]
  .subst h0;simp[EN,BL,EO]at h;simp[g404,c,g404L0e,h]
  .simp[EN,BL,EO,h0]at h;generalize tx r=T at*;simp[g404,c,g404L0e,h,d,a,ie]
def H_(cs:List ke)(s:bF):Option Nat:=bI (fun c=>decide (c.name=s)) cs
def gP:List Dt->bF->Nat->Option (Nat×Nat)
 |[],_,_=>none
 |d::r,s,i=>match H_ d.cons s with
  |some k=>some (i,k)
  |none=>gP r s (i+1)
def rF:Option (Nat×Nat)->List PV
 |some (i,k)=>[vI i,vI k,.bool true]
 |none=>[vI 0,vI 0,.bool false]
theorem Wa{ds:List Dt}{s:bF}{i:Nat}(hS:Sm cs):∀(n k:Nat),cs.length-k=n->k<=cs.length->
   cl AP g190L1 ⟨[(1,.pv (.str s)),(7,.pv (vI i)),(11,.pv (.ae (ds.map Dt.pv))),(12,.pv (vI ds.length)),(13,.pv (vI i)),(19,.pv (.ae (cs.map ke.pv))),(20,.pv (vI cs.length)),(21,.pv (vI k))],[],[],[]⟩=
     match bI (fun c=>decide (c.name=s)) (cs.drop k)with
     |some j=>some (.ret,⟨[(4,.pv (vI i)),(5,.pv (vI (k+j:Nat))),(6,.pv (.bool true))],[],[],[]⟩)
     |none=>some (.exit 2,⟨[(1,.pv (.str s)),(7,.pv (vI i)),(11,.pv (.ae (ds.map Dt.pv))),(12,.pv (vI ds.length)),(13,.pv (vI i)),(19,.pv (.ae (cs.map ke.pv))),(20,.pv (vI cs.length)),(21,.pv (vI cs.length)),(22,.pv (.bool false))],[],[],[]⟩)
 |0,k,hn,a=>by
  have:k=cs.length:=by omega
  subst this;rw[g190L1e];simp[g190B1,bI]
 |n+1,k,hn,a=>by
  have a:k<cs.length:=(by omega);obtain⟨x,hx⟩:=aR a;unfold Sm at hS;have b:=Wa (ds:=ds) (s:=s) (i:=i) hS n (k+1) (by omega) (by omega);rw[g190L1e]at b⊢;rw[aZ hx];simp at b;by_cases e:x.name=s
  .simp(disch:=omega)[-getElem?_pos,g190B1,hx,a,e,bI]
  .simp(disch:=omega)[-getElem?_pos,g190B1,hx,a,e,bI,aq];rw[g190L1e];simp[b];cases bI (fun c=>decide (c.name=s)) (cs.drop (k+1))with
   |none=>rfl
   |some j=>simp;omega
def aa0{ds:List Dt}(hS:Sm ds)(b:∀d∈ds,Sm d.cons)(s:bF):∀(n i:Nat),ds.length-i=n->i<=ds.length->
   cl AP g190L0 ⟨[(1,.pv (.str s)),(11,.pv (.ae (ds.map Dt.pv))),(12,.pv (vI ds.length)),(13,.pv (vI i))],[],[],[]⟩=
     match gP (ds.drop i) s i with
     |some q=>some (.ret,⟨[(4,.pv (vI q.1)),(5,.pv (vI q.2)),(6,.pv (.bool true))],[],[],[]⟩)
     |none=>some (.exit 0,⟨[(1,.pv (.str s)),(11,.pv (.ae (ds.map Dt.pv))),(12,.pv (vI ds.length)),(13,.pv (vI ds.length)),(14,.pv (.bool false))],[],[],[]⟩)
 |0,i,hn,hi=>by
  have:i=ds.length:=by omega
  subst this;rw[g190L0e];simp[g190B0,gP]
 |n+1,i,hn,hi=>by
  have hi:i<ds.length:=(by omega);obtain⟨d,hd⟩:=aR hi;unfold Sm at hS;have a:=aa0 hS b s n (i+1) (by omega) (by omega);have h:=Wa (ds:=ds) (s:=s) (i:=i) (b d (aM hd)) _ 0 rfl (by omega);rw[g190L1e]at h;rw[g190L0e]at a⊢;rw[aZ hd];simp at a h;cases e:bI (fun c=>decide (c.name=s)) d.cons with
  |some k=>
   rw[e]at h;simp at h;simp(disch:=omega)[-getElem?_pos,g190B0,hd,hi,gP,H_,e,g190L1e,h]
  |none=>
   rw[e]at h;simp at h;simp(disch:=omega)[-getElem?_pos,g190B0,hd,hi,gP,H_,e,g190L1e,h,aq];rw[g190L0e];simp[a]
def c190(hS:Sm ds)(a:∀d∈ds,Sm d.cons){s:bF}:(aE AP).p 190 [.ae (ds.map Dt.pv),.str s]=some (rF (gP ds s 0)):=by
 have h:=aa0 hS a s _ 0 rfl (by omega);rw[aB g190];rw[g190L0e]at h;simp at h;cases e:gP ds s 0 with
 |none=>rw[e]at h;simp at h;simp[g190,g190L0e,h,rF]
 |some q=>rw[e]at h;simp at h;simp[g190,g190L0e,h,rF]
theorem Wc{s:bF}(hd:ds[i]?=some d)(hS:Sm d.cons):∀(n k:Nat),d.cons.length-k=n->k<=d.cons.length->
   cl AP g191L1 ⟨[(0,.pv (.ae (ds.map Dt.pv))),(1,.pv (.str s)),(7,.pv (vI i)),(8,.pv (vI k))],[],[],[]⟩=
     match bI (fun c=>decide (c.name=s)) (d.cons.drop k)with
     |some j=>some (.ret,⟨[(4,.pv (vI i)),(5,.pv (vI (k+j:Nat))),(6,.pv (.bool true))],[],[],[]⟩)
     |none=>some (.exit 2,⟨[(0,.pv (.ae (ds.map Dt.pv))),(1,.pv (.str s)),(7,.pv (vI i)),(8,.pv (vI d.cons.length)),(22,.pv (.bool false))],[],[],[]⟩)
 |0,k,hn,a=>by
  have:k=d.cons.length:=by omega
  subst this;rw[g191L1e];simp[-getElem?_pos,g191B1,bI,hd]
 |n+1,k,hn,a=>by
  have a:k<d.cons.length:=(by omega);obtain⟨x,hx⟩:=aR a;unfold Sm at hS;have b:=Wc (s:=s) hd hS n (k+1) (by omega) (by omega);rw[g191L1e]at b⊢;rw[aZ hx];simp at b;by_cases e:x.name=s
  .simp(disch:=omega)[-getElem?_pos,g191B1,hd,hx,a,e,bI]
  .simp(disch:=omega)[-getElem?_pos,g191B1,hd,hx,a,e,bI,aq];rw[g191L1e];simp[b];cases bI (fun c=>decide (c.name=s)) (d.cons.drop (k+1))with
   |none=>rfl
   |some j=>simp;omega
def aa1(hS:Sm ds)(b:∀d∈ds,Sm d.cons)(s:bF):∀(n i:Nat),ds.length-i=n->i<=ds.length->
   cl AP g191L0 ⟨[(0,.pv (.ae (ds.map Dt.pv))),(1,.pv (.str s)),(7,.pv (vI i))],[],[],[]⟩=
     match gP (ds.drop i) s i with
     |some q=>some (.ret,⟨[(4,.pv (vI q.1)),(5,.pv (vI q.2)),(6,.pv (.bool true))],[],[],[]⟩)
     |none=>some (.exit 0,⟨[(0,.pv (.ae (ds.map Dt.pv))),(1,.pv (.str s)),(7,.pv (vI ds.length)),(12,.pv (.bool false))],[],[],[]⟩)
 |0,i,hn,hi=>by
  have:i=ds.length:=by omega
  subst this;rw[g191L0e];simp[g191B0,gP]
 |n+1,i,hn,hi=>by
  have hi:i<ds.length:=(by omega);obtain⟨d,hd⟩:=aR hi;unfold Sm at hS;have a:=aa1 hS b s n (i+1) (by omega) (by omega);have h:=Wc (s:=s) hd (b d (aM hd)) _ 0 rfl (by omega);rw[g191L1e]at h;rw[g191L0e]at a⊢;rw[aZ hd];simp at a h;cases e:bI (fun c=>decide (c.name=s)) d.cons with
  |some k=>
   rw[e]at h;simp at h;simp(disch:=omega)[-getElem?_pos,g191B0,hd,hi,gP,H_,e,g191L1e,h]
  |none=>
   rw[e]at h;simp at h;simp(disch:=omega)[-getElem?_pos,g191B0,hd,hi,gP,H_,e,g191L1e,h,aq];rw[g191L0e];simp[a]
def c191(hS:Sm ds)(a:∀d∈ds,Sm d.cons){s:bF}:(aE AP).p 191 [.ae (ds.map Dt.pv),.str s]=some (rF (gP ds s 0)):=by
 have h:=aa1 hS a s _ 0 rfl (by omega);rw[aB g191];rw[g191L0e]at h;simp at h;cases e:gP ds s 0 with
 |none=>rw[e]at h;simp at h;simp[g191,g191L0e,h,rF]
 |some q=>rw[e]at h;simp at h;simp[g191,g191L0e,h,rF]
def T8(h:H_ cs y=some i):∃c,cs[i]?=some c/\c.name=y:=by
 unfold H_ at h;induction cs generalizing i with
 |nil=>simp[bI]at h
 |cons a r b=>
  simp only[bI]at h;split at h
  .rename_i e;cases h;exact⟨a,rfl,by simpa using e⟩
  .simp only[zac]at h;obtain⟨j,hj,rfl⟩:=h;obtain⟨c,h1,h2⟩:=b hj;exact⟨c,by simpa using h1,h2⟩
def jE:∀{ds:List Dt}{n:Nat}{q:Nat×Nat},gP ds y n=some q->n<=q.1/\∃d c,ds[q.1-n]?=some d/\d.cons[q.2]?=some c/\c.name=y
 |[],n,q,h=>by simp[gP]at h
 |d::r,n,q,h=>by
  simp only[gP]at h;split at h
  .rename_i k e;cases h;obtain⟨c,h1,h2⟩:=T8 e;exact⟨zal _,d,c,by simp,h1,h2⟩
  .obtain⟨h1,a,c,h2,h3,h4⟩:=jE h;refine⟨by omega,a,c,?_,h3,h4⟩;rw[show q.1-n=(q.1-(n+1))+1 from by omega];simpa using h2
def iA(d:Dt)(as:List Ar):Bool:=decide (d.cons.map ke.name=as.map dB.dy)
def eS(ds:List Dt)(as:List Ar):Option Nat:=bI (fun d=>iA d as) ds
def ja:Option Nat->List PV
 |some i=>[vI i,.bool true]
 |none=>[vI 0,.bool false]
def T9:ZM ke.pv (fun c:ke=>[vI c.pos,.str c.name,.ae (c.fields.map Ty.pv)]) 3:=⟨fun _=>rfl,fun _=>rfl,fun _=>by simp⟩
def Yx:ZM Ar.pv Ar.cells 14:=⟨fun _=>rfl,fun x=>w6.len x,fun x=>by simp[Ar.cells,Ex.aG]⟩
def w8:∀{cs:List ke}{as:List Ar},nH (fun(c:ke)(a:Ar)=>decide (c.name=a.dy)) cs as=decide (cs.map ke.name=as.map dB.dy)
 |[],[]=>by simp[nH]
 |c::cs,a::as=>by simp only[nH,w8 (cs:=cs) (as:=as),zan,zbz,Bool.decide_and]
 |[],_::_=>by simp[nH]
 |_::_,[]=>by simp[nH]
def Yy(b:aY sh):P0 (.fn 419 []) sh (fun c:ke=>[vI c.pos,.str c.name,.ae (c.fields.map Ty.pv)]) Ar.cells (fun(c:ke)(a:Ar)=>decide (c.name=a.dy)) cs:=by
 intro x _ y
 have c:(aE AP).i 419 [.pv x.pv,.pv (Ar.pv y)] sh []=some ([.pv (.bool (decide (x.name=y.dy)))],sh,[]):=by
  rw[aC g419];by_cases e:x.name=y.dy<;>simp[g419,b.norm,e]
 simp at c;simp[Ar.cells,Ex.aG,b.norm,b.shift,c]
def c418(a:aY sh)(hS:Sm cs):(aE AP).i 418 [.pv (.ae (cs.map ke.pv)),.pv (.ae (as.map Ar.pv)),.fn 419 []] sh []=some ([.pv (.bool (decide (cs.map ke.name=as.map dB.dy)))],sh,[]):=by
 rw[<-w8];exact cEq T9 Yx (z1:=[vI 0,.str [],.ae []]) (z2:=[vI 0,.str [],.ae [],vI 0,vI 0,.str [],vI 0,.ae [],.ae [],vI 0,.str [],vI 0,vI 0,.ae []]) rfl rfl (m:=418) rfl hS a rfl (Yy a)
def Yz(a:aY sh)(f:sh[b]?=some (some [.pv (.ae (as.map Ar.pv))]))(e:∀d∈ds,Sm d.cons):HZ (.fn 417 [.aL b 0]) sh Dt.pv (fun d=>iA d as) ds:=by
 intro d hd;have k:=c418 a (e d hd) (as:=as)
 have c:(aE AP).i 417 [.pv d.pv,.aL b 0] sh []=some ([.pv (.bool (iA d as))],sh,[]):=by
  rw[aC g417];simp[-getElem?_pos,g417,a.norm,a.shift,f,k,iA]
 simp at c;simp[a.norm,a.shift,c]
def c407(hS:Sm ds)(f:∀d∈ds,Sm d.cons):(aE AP).p 407 [.ae (ds.map Dt.pv),.ae (as.map Ar.pv)]=some (ja (eS ds as)):=by
 have c:aY [some [AV.pv (.ae (as.map Ar.pv))]]:=aY.one (by intro v a;simp at a;exact⟨_,a⟩);have k:=aay aaw (k:=416) rfl hS c (g:=417) (cap:=[.aL 0 0]) rfl (Yz c (b:=0) rfl f);rw[aB g407];unfold eS;cases e:bI (fun d=>iA d as) ds with
 |none=>rw[e]at k;simp[mq]at k;simp[g407,k,ja]
 |some i=>rw[e]at k;simp[mq]at k;simp[g407,k,ja]
abbrev BM:=Int×Int
def fP(f:BM):PV:=.agg [vI f.1,vI f.2]
@[simp] theorem Pw(f:BM):fP f=.agg [vI f.1,vI f.2]:=rfl
def c365{a b:Int}:(aE AP).p 365 [vI a,vI b]=some [fP (a,b)]:=by
 rw[aB g365];simp[g365]
def findF(ds:List Dt):List Ar->Option BM
 |[]=>none
 |a::r=>match gP ds a.dy 0 with
  |none=>some (9,a.pos)
  |some _=>findF ds r
noncomputable def w9:List bF->List bF->Bool
 |_,[]=>false
 |p,x::r=>decide (x∈p)|| w9 (p++[x]) r
noncomputable def Bb:List ke->List Ar->BM
 |c::cs,a::as=>if a.vars.length≠c.fields.length then(8,a.pos)else if w9 [] a.vars=true then(6,a.pos)else Bb cs as
 |_,_=>(0,0)
noncomputable def rn(ds:List Dt)(e:Ex):BM:=match findF ds e.aF with
 |some f=>f
 |none=>match eS ds e.aF with
  |none=>(10,e.pos)
  |some i=>match ds[i]? with
   |some d=>Bb d.cons e.aF
   |none=>(0,0)
def Wd(hd:ds[i]?=some d)(hS:Sm as):∀(n k:Nat),as.length-k=n->k<=as.length->∀s:Bool,(s=true->as.length=d.cons.length)->∃j:Int,
   cl AP g390L1 ⟨[(0,.pv (.ae (ds.map Dt.pv))),(1,.pv (.ae (as.map Ar.pv))),(6,.pv (vI i)),(7,.pv (.bool s)),(8,.pv (vI k))],[],[],[]⟩=
     some (.exit 2,⟨[(0,.pv (.ae (ds.map Dt.pv))),(1,.pv (.ae (as.map Ar.pv))),(6,.pv (vI i)),(7,.pv (.bool (s && decide ((d.cons.drop k).map ke.name=(as.drop k).map dB.dy)))),(8,.pv (vI j)),(30,.pv (.bool false))],[],[],[]⟩)
 |0,k,hn,f,s,hs=>by
  have:k=as.length:=by omega
  subst this;refine⟨as.length,?_⟩;rw[g390L1e];cases s with
  |false=>simp[g390B1]
  |true=>simp[g390B1,hs rfl]
 |n+1,k,hn,f,s,hs=>by
  have f:k<as.length:=(by omega);unfold Sm at hS;have h:=(zaa.1 hd).1;cases s with
  |false=>
   refine⟨k,?_⟩;rw[g390L1e];simp[g390B1]
  |true=>
   have hl:=hs rfl;obtain⟨a,m⟩:=aR f;obtain⟨c,l⟩:=aR (hl ▸ f);have g:k<d.cons.length:=(by omega);obtain⟨j,b⟩:=Wd hd hS n (k+1) (by omega) (by omega) (decide (a.dy=c.name)) (fun _=>hl);refine⟨j,?_⟩;rw[aZ m,aZ l]
   have key:(true && decide ((c::d.cons.drop (k+1)).map ke.name=(a::as.drop (k+1)).map dB.dy))=(decide (a.dy=c.name) && decide ((d.cons.drop (k+1)).map ke.name=(as.drop (k+1)).map dB.dy)):=by
    rw[za0];simp[eq_comm (a:=c.name)]
   rw[key];generalize (decide (a.dy=c.name) && decide ((d.cons.drop (k+1)).map ke.name=(as.drop (k+1)).map dB.dy))=r at b⊢;rw[g390L1e]at b⊢;simp at b;by_cases e:a.dy=c.name
   .simp[e]at b;simp(disch:=omega)[-getElem?_pos,g390B1,f,g,h,m,l,hd,aq,e];rw[g390L1e];simp[b]
   .simp[e]at b;have o:(a.dy == c.name)=false:=by simpa using e
    simp (disch:=omega) [-getElem?_pos,g390B1,f,g,h,m,l,hd,aq,o];rw[g390L1e];simp[b]
theorem aa2(hS:Sm ds)(c:Sm as):∀(n i:Nat),ds.length-i=n->i<=ds.length->
   cl AP g390L0 ⟨[(0,.pv (.ae (ds.map Dt.pv))),(1,.pv (.ae (as.map Ar.pv))),(6,.pv (vI i))],[],[],[]⟩=
     match bI (fun d=>iA d as) (ds.drop i)with
     |some k=>some (.ret,⟨[(4,.pv (vI (i+k:Nat))),(5,.pv (.bool true))],[],[],[]⟩)
     |none=>some (.exit 0,⟨[(0,.pv (.ae (ds.map Dt.pv))),(1,.pv (.ae (as.map Ar.pv))),(6,.pv (vI ds.length)),(12,.pv (.bool false))],[],[],[]⟩)
 |0,i,hn,hi=>by
  have:i=ds.length:=by omega
  subst this;rw[g390L0e];simp[g390B0,bI]
 |n+1,i,hn,hi=>by
  have hi:i<ds.length:=(by omega);obtain⟨d,hd⟩:=aR hi;have a:=aa2 hS c n (i+1) (by omega) (by omega);obtain⟨j,h⟩:=Wd hd c _ 0 rfl (by omega) (decide (as.length=d.cons.length)) (by simp);unfold Sm at hS
  have key:(decide (as.length=d.cons.length) && decide (d.cons.map ke.name=as.map dB.dy))=iA d as:=by
   unfold iA;by_cases e:d.cons.map ke.name=as.map dB.dy
   .have:=zcp List.length e;simp at this;simp[e,this]
   .simp[e]
  rw[zar,zar,key]at h;rw[g390L1e]at h;rw[g390L0e]at a⊢;rw[aZ hd];simp only[bI];simp at a;by_cases e:iA d as=true
  .rw[zai e];rw[e]at h;have hl:as.length=d.cons.length:=by simp[iA]at e;simpa using(zcp List.length e).symm
   simp[hl]at h;simp(disch:=omega)[-getElem?_pos,g390B0,hi,hd,hl,g390L1e,h]
  .rw[zad e];have e:iA d as=false:=by simpa using e
   rw[e]at h;by_cases hl:as.length=d.cons.length
   .simp[hl]at h;simp(disch:=omega)[-getElem?_pos,g390B0,hi,hd,hl,g390L1e,h,aq];rw[g390L0e];simp[a];cases bI (fun d=>iA d as) (ds.drop (i+1))with
    |none=>rfl
    |some k=>simp;omega
   .have b:((as.length:Int)== (d.cons.length:Int))=false:=(by rw[beq_eq_false_iff_ne];omega);simp[hl]at h;simp(disch:=omega)[-getElem?_pos,g390B0,hi,hd,b,g390L1e,h,aq];rw[g390L0e];simp[a];cases bI (fun d=>iA d as) (ds.drop (i+1))with
    |none=>rfl
    |some k=>simp;omega
def c390(hS:Sm ds)(a:Sm as):(aE AP).p 390 [.ae (ds.map Dt.pv),.ae (as.map Ar.pv)]=some (ja (eS ds as)):=by
 have h:=aa2 hS a _ 0 rfl (by omega);simp at h;rw[aB g390];unfold eS;cases e:bI (fun d=>iA d as) ds with
 |none=>rw[e]at h;simp at h;simp[g390,h,ja]
 |some i=>rw[e]at h;simp at h;simp[g390,h,ja]
abbrev m2(f:BM):List AV:=[.pv (vI f.1),.pv (vI f.2)]
def We(hS:Sm ds)(h:∀d∈ds,Sm d.cons)(j:e.aF.length<=1000):∀(n i:Nat),e.aF.length-i=n->i<=e.aF.length->
   cl AP g379L0 ⟨[(0,.pv (.ae (ds.map Dt.pv))),(3,.au 3 0),(4,.au 4 0),(5,.pv (vI i))],[(3,e.cl),(4,m2 (0,0))],[],[]⟩=
     match findF ds (e.aF.drop i)with
     |some f=>some (.ret,⟨[(4,.au 4 0)],[(4,m2 f)],[],[]⟩)
     |none=>some (.exit 0,⟨[(0,.pv (.ae (ds.map Dt.pv))),(3,.au 3 0),(4,.au 4 0),(5,.pv (vI e.aF.length)),(18,.pv (.bool false))],[(3,e.cl),(4,m2 (0,0))],[],[]⟩)
 |0,i,hn,hi=>by
  have:i=e.aF.length:=by omega
  subst this;rw[g379L0e];simp[g379B0,findF]
 |n+1,i,hn,hi=>by
  have hi:i<e.aF.length:=(by omega);obtain⟨a,g⟩:=aR hi;have c:=We hS h j n (i+1) (by omega) (by omega);have k:=c191 hS h (s:=a.dy);have k2:=c365 (a:=9) (b:=a.pos);simp at k2;rw[g379L0e]at c⊢;rw[aZ g];simp only[findF];simp at c;cases q:gP ds a.dy 0 with
  |none=>
   rw[q]at k;simp[rF]at k;simp(disch:=omega)[-getElem?_pos,g379B0,hi,g,k,k2]
  |some r=>
   rw[q]at k;simp[rF]at k;simp(disch:=omega)[-getElem?_pos,g379B0,hi,g,k,aq];rw[g379L0e];simp[c]
def Wg{ds:List Dt}{i9:Nat}{a:Ar}(m:e.aF[i]?=some a)(r:a.vars.length<=1000):∀(n k:Nat),a.vars.length-k=n->k<=a.vars.length->
   cl AP g379L2 ⟨[(0,.pv (.ae (ds.map Dt.pv))),(3,.au 3 0),(4,.au 4 0),(9,.pv (vI i9)),(11,.pv (vI i)),(12,.pv (.ae (a.vars.map .str))),(13,.pv (vI k))],[(3,e.cl),(4,m2 (0,0))],[],[]⟩=
     if w9 (a.vars.take k) (a.vars.drop k)=true then some (.ret,⟨[(4,.au 4 0)],[(4,m2 (6,a.pos))],[],[]⟩)
     else some (.exit 4,⟨[(0,.pv (.ae (ds.map Dt.pv))),(3,.au 3 0),(4,.au 4 0),(9,.pv (vI i9)),(11,.pv (vI i)),(12,.pv (.ae (a.vars.map .str))),(13,.pv (vI a.vars.length)),(90,.pv (.bool false))],[(3,e.cl),(4,m2 (0,0))],[],[]⟩)
 |0,k,hn,g=>by
  have:k=a.vars.length:=by omega
  subst this;rw[g379L2e];simp[g379B2,w9]
 |n+1,k,hn,g=>by
  have g:k<a.vars.length:=(by omega);have j:=(zaa.1 m).1;obtain⟨x,hx⟩:=aR g;have f:=Wg (ds:=ds) (i9:=i9) m r n (k+1) (by omega) (by omega);have d:=c364 (s:=a.vars.take k) (by unfold Sm;simp;omega) (y:=x);have k2:=c365 (a:=6) (b:=a.pos);have c:=acp (sz:=1) (l:=a.vars.map PV.str) (k:=.i64) (h:=k) (by omega) (by simp;omega);simp at k2 c;rw[zbi]at d;rw[zaM,hx]at f;simp only[zcq]at f;rw[g379L2e]at f⊢;rw[aZ hx];simp at f;by_cases q:x∈a.vars.take k
  .have o:w9 (a.vars.take k) (x::a.vars.drop (k+1))=true:=(by simp[w9,q]);rw[o];rw[zaE q]at d;simp(disch:=omega)[-getElem?_pos,g379B2,g,j,m,hx,c,d,k2]
  .have o:w9 (a.vars.take k) (x::a.vars.drop (k+1))=w9 (a.vars.take k++[x]) (a.vars.drop (k+1)):=(by simp[w9,q]);rw[o];rw[zaB q]at d;simp(disch:=omega)[-getElem?_pos,g379B2,g,j,m,hx,c,d,aq];rw[g379L2e];simp[f]
   try (by_cases p:w9 (a.vars.take k++[x]) (a.vars.drop (k+1))=true<;>simp[p])
def Wh{ds:List Dt}{i9:Nat}(hd:ds[i9]?=some d)(s:e.aF.length<=1000)(p:∀a∈e.aF,a.vars.length<=1000)(hl:e.aF.length=d.cons.length):∀(n i:Nat),e.aF.length-i=n->i<=e.aF.length->
   cl AP g379L1 ⟨[(0,.pv (.ae (ds.map Dt.pv))),(3,.au 3 0),(4,.au 4 0),(9,.pv (vI i9)),(11,.pv (vI i))],[(3,e.cl),(4,m2 (0,0))],[],[]⟩=
     if (Bb (d.cons.drop i) (e.aF.drop i)).1≠0 then some (.ret,⟨[(4,.au 4 0)],[(4,m2 (Bb (d.cons.drop i) (e.aF.drop i)))],[],[]⟩)
     else some (.exit 2,⟨[(0,.pv (.ae (ds.map Dt.pv))),(3,.au 3 0),(4,.au 4 0),(9,.pv (vI i9)),(11,.pv (vI e.aF.length)),(58,.pv (.bool false))],[(3,e.cl),(4,m2 (0,0))],[],[]⟩)
 |0,i,hn,hi=>by
  have:i=e.aF.length:=by omega
  subst this;rw[g379L1e,yZ (l:=d.cons) (by omega),yZ (l:=e.aF) (by omega)];simp[g379B1,Bb]
 |n+1,i,hn,hi=>by
  have hi:i<e.aF.length:=(by omega);have f:i<d.cons.length:=(by omega);have g:=(zaa.1 hd).1;obtain⟨a,j⟩:=aR hi;obtain⟨c,m⟩:=aR f;have o:=Wh hd s p hl n (i+1) (by omega) (by omega);have h:=Wg (ds:=ds) (i9:=i9) j (p a (aM j)) _ 0 rfl (by omega);have k2:=c365 (a:=8) (b:=a.pos);simp at k2;rw[zcQ,zar]at h;rw[g379L2e]at h;rw[g379L1e]at o⊢;rw[aZ j,aZ m];simp only[Bb];simp at o h;by_cases q:a.vars.length=c.fields.length
  .by_cases k:w9 [] a.vars=true
   .simp[k,q]at h;simp(disch:=omega)[-getElem?_pos,g379B1,hi,f,g,j,m,hd,q,k,g379L2e,h]
   .simp[k,q]at h;simp(disch:=omega)[-getElem?_pos,g379B1,hi,f,g,j,m,hd,q,k,g379L2e,h,aq];rw[g379L1e];simp[o]
  .have r:¬(a.vars.length:Int)=c.fields.length:=(by omega);simp(disch:=omega)[-getElem?_pos,g379B1,hi,f,g,j,m,hd,q,r,k2]
def DY(h:eS ds as=some i):∃d,ds[i]?=some d/\as.length=d.cons.length:=by
 unfold eS at h
 have key:∀{l:List Dt}{k:Nat},bI (fun d=>iA d as) l=some k->∃d,l[k]?=some d/\iA d as=true:=by
  intro l;induction l with
  |nil=>intro k h;simp[bI]at h
  |cons x r a=>
   intro k h;simp only[bI]at h;split at h
   .rename_i e;cases h;exact⟨x,rfl,e⟩
   .cases h':bI (fun d=>iA d as) r with
    |none=>rw[h']at h;simp at h
    |some k'=>rw[h']at h;simp at h;subst h;simpa using a h'
 obtain⟨d,h1,h2⟩:=key h;refine⟨d,h1,?_⟩;unfold iA at h2;have:=zcp List.length (zca h2);simpa using this.symm
def w_:∀{cs:List ke}{as:List Ar},(Bb cs as).1=0->Bb cs as=(0,0)
 |[],_,_=>by simp[Bb]
 |_::_,[],_=>by simp[Bb]
 |c::cs,a::as,h=>by
  simp only[Bb]at h⊢;split at h
  .simp at h
  .rename_i h1;rw[zad h1];split at h
   .simp at h
   .rename_i h2;rw[zad h2];exact w_ h
def c379(hS:Sm ds)(m:∀d∈ds,Sm d.cons)(j:e.Ok):(aE AP).p 379 [.ae (ds.map Dt.pv),e.pv]=some [fP (rn ds e)]:=by
 have l:=j.a;have h:=We hS m l _ 0 rfl (by omega);rw[aB g379];unfold rn;rw[zar]at h;cases q:findF ds e.aF with
 |some f=>
  rw[q]at h;simp at h;simp[g379,h]
 |none=>
  rw[q]at h;simp at h;have k:=c390 hS (as:=e.aF) (by unfold Sm;omega);cases c:eS ds e.aF with
  |none=>
   rw[c]at k;have k2:=c365 (a:=10) (b:=e.pos);simp[ja]at k k2;simp[g379,h,k,k2]
  |some i=>
   rw[c]at k;simp[ja]at k;obtain⟨d,hd,hl⟩:=DY c;have h2:=Wh hd l j.v hl _ 0 rfl (by omega);rw[zar,zar]at h2;simp only[hd];by_cases g:(Bb d.cons e.aF).1=0
   .have:=w_ g;rw[this]at h2⊢;simp at h2;simp[g379,h,k,h2]
   .simp[g]at h2;simp[g379,h,k,h2]
inductive Ex.Wi (P:Ex->Prop):Ex->Prop
 |mk {e:Ex}:P e->(∀x∈e.ch,Ex.Wi P x)->Ex.Wi P e
def Ex.Wi.h(h:e.Wi P):P e:=by cases h;assumption
def Ex.Wi.c(h:e.Wi P):∀x∈e.ch,x.Wi P:=by cases h;assumption
inductive Ex.BN:Nat->Ex->Prop
 |mk {n:Nat} {e:Ex}:(∀x∈e.ch,Ex.BN n x)->Ex.BN (n+1) e
def Ex.BN.c(h:Ex.BN (n+1) e):∀x∈e.ch,Ex.BN n x:=by cases h;assumption
noncomputable def fm(ds:List Dt)(a:List bF)(e:Ex):BM:=
 if e.kind=1 then(if e.name∈a then(0,0)else(9,e.pos))
 else if e.kind=2 then(if(gP ds e.name 0).isSome then(0,0)else(9,e.pos))
 else if e.kind=8 then rn ds e
 else if e.kind=9 then(if e.ty.formed ds []=0 then(0,0)else(e.ty.formed ds [],e.pos))
 else (0,0)
def xa(f:Nat->Ex->BM):Nat->List Ex->BM
 |_,[]=>(0,0)
 |i,x::r=>if(f i x).1≠0 then f i x else xa f (i+1) r
theorem y9{f g:Nat->Ex->BM}:∀{l:List Ex}{i:Nat},(∀i,∀x∈l,f i x=g i x)->xa f i l=xa g i l
 |[],_,_=>rfl
 |x::r,i,h=>by
  simp only[xa];rw[h i x (by simp),y9 (l:=r) fun i y hy=>h i y (by simp[hy])]
def Ex.T_{x:Ex}(h:x∈e.ch):SizeOf.sizeOf x<SizeOf.sizeOf e:=by
 rw[Ex.ch,zae,zak]at h;cases e;rcases h with h|⟨a,b,rfl⟩
 .have:=_root_.List.sizeOf_lt_of_mem h;simp at*;omega
 .have:=_root_.List.sizeOf_lt_of_mem b;have:=dB.sJ a;simp at*;omega
open Classical in
noncomputable def Ex.bW(ds:List Dt)(e:Ex)(a:List bF):BM:=
 if (fm ds a e).1≠0 then fm ds a e
 else xa (fun i x=>if b:x∈e.ch then Ex.bW ds x (a++bX e i)else(0,0)) 0 e.ch
termination_by e
decreasing_by exact Ex.T_ b
def Ex.Bc(ds:List Dt)(e:Ex)(a:List bF):e.bW ds a=if(fm ds a e).1≠0 then fm ds a e else xa (fun i x=>x.bW ds (a++bX e i)) 0 e.ch:=by
 rw[Ex.bW];split
 .rfl
 .exact y9 fun i x hx=>by rw[dif_pos hx]
theorem H'(h:(rn ds e).1=0):rn ds e=(0,0):=by
 unfold rn at h⊢
 have hf:∀{as:List Ar}{f:BM},findF ds as=some f->f.1=9:=by
  intro as;induction as with
  |nil=>intro f h;simp[findF]at h
  |cons a r g=>
   intro f h;simp only[findF]at h;split at h
   .cases h;rfl
   .exact g h
 cases q:findF ds e.aF with
 |some f=>rw[q]at h;simp only at h;rw[hf q]at h;cases h
 |none=>
  rw[q]at h;simp only at h⊢;cases b:eS ds e.aF with
  |none=>rw[b]at h;simp at h
  |some i=>
   rw[b]at h;simp only at h⊢;cases c:ds[i]? with
   |none=>rfl
   |some d=>rw[c]at h;exact w_ h
def Ia(h:(fm ds L e).1=0):fm ds L e=(0,0):=by
 unfold fm at h⊢;split
 .rename_i h1;rw[zai h1]at h;split
  .rfl
  .rename_i h2;rw[zad h2]at h;cases h
 .rename_i h1;rw[zad h1]at h;split
  .rename_i h2;rw[zai h2]at h;split
   .rfl
   .rename_i h3;rw[zad h3]at h;cases h
  .rename_i h2;rw[zad h2]at h;split
   .rename_i h3;rw[zai h3]at h;exact H' h
   .rename_i h3;rw[zad h3]at h;split
    .rename_i h4;rw[zai h4]at h;split
     .rfl
     .rename_i h5;rw[zad h5]at h;exact absurd h h5
    .rfl
def Qo:∀{e:Ex}{a:List bF},(e.bW ds a).1=0->e.bW ds a=(0,0):=by
 intro e;refine Ex.recC (p:=fun e=>∀{a:List bF},(e.bW ds a).1=0->e.bW ds a=(0,0)) ?_ e;intro e c a h;rw[Ex.Bc]at h⊢;split
 .rename_i h1;rw[zai h1]at h;exact absurd h h1
 .rename_i h1;rw[zad h1]at h
  have key:∀{l:List Ex}{i:Nat},(∀x∈l,x∈e.ch)->(xa (fun i x=>x.bW ds (a++bX e i)) i l).1=0->xa (fun i x=>x.bW ds (a++bX e i)) i l=(0,0):=by
   intro l;induction l with
   |nil=>intro i _ _;rfl
   |cons x r b=>
    intro i hl h;simp only[xa]at h⊢;split
    .rename_i h1;rw[zai h1]at h;exact absurd h h1
    .rename_i h1;rw[zad h1]at h;exact b (fun y hy=>hl y (by simp[hy])) h
  exact key (fun x hx=>hx) h
structure YA(e:Ex):Prop where
 ok:e.Ok
 one:e.One
 cw:e.Wi fun x=>x.ty.Cw
def YA.c{x:Ex}(h:YA e)(hx:x∈e.ch):YA x:=⟨h.ok.c x hx,h.one.c x hx,h.cw.c x hx⟩
def rq(b:Nat):List AV:=[.pv (vI 0),.pv (vI 0),.pv (.str []),.pv (vI 0),.own [] b,.own [] (b+1),.pv (vI 0),.pv (.str []),.pv (vI 0),.pv (vI 0),.own [] (b+2)]
theorem M4{ag:Bool}:S7 sz n ag none=none:=rfl
theorem Uc{o:Option (List PV)}:qY none o=none:=rfl
theorem Ud{p:PV}:qY (some p) none=none:=rfl
def aa3{c:Int->Nat}(hr:∀i v,Edge s.sl i v->c v<c i)(q:∀x∈s.sl,x.ty.Ok)(hS:∀x∈s.sl,∀w,cf x.ty w->w∈S)(hl:Sm l)(ht:∀t∈l,t.Ok)(hw:∀t∈l,∀w,cf t w->w∈S):
   ∀(n i:Nat),l.length-i=n->i<=l.length->∀(dn:List Bool)(out:List Int),dn.length=s.sl.length->gV S out->(∀j:Nat,dn[j]?=some true->T5 s.sl j out)->(∀v,v∈out<->∃t∈l.take i,RT s.sl t v/\¬jR s.sl v)->∃(dn':List Bool)(out':List Int),
   cl AP g372L0 ⟨[(1,.pv (.ae (l.map Ty.pv))),(5,.aL 1 0),(6,.pv (vI i))],[],fX s (bT dn) s.sl.length out,[out.length]⟩=
     some (.exit 0,⟨[(1,.pv (.ae (l.map Ty.pv))),(5,.aL 1 0),(6,.pv (vI l.length)),(17,.pv (.bool false))],[],fX s (bT dn') s.sl.length out',[out'.length]⟩)/\gV S out'/\∀v,v∈out'<->∃t∈l,RT s.sl t v/\¬jR s.sl v
 |0,i,hn,hi,dn,out,hd,f,hp,b=>by
  have:i=l.length:=by omega
  subst this;refine⟨dn,out,?_,f,by simpa using b⟩;have u:=(lj (dn:=dn)).norm;rw[g372L0e];simp[g372B0,fX,u]
 |n+1,i,hn,hi,dn,out,hd,f,hp,b=>by
  have hi:i<l.length:=(by omega);obtain⟨a,g⟩:=aR hi;have hm:=aM g;unfold Sm at hl;obtain⟨N,hN⟩:=cf.bound c a;obtain⟨m,o1,P⟩:=PH hr q hS N a (ht a hm) hN (hw a hm) dn out hd f (fun j hj _=>hp j hj)
  obtain⟨dn',out',k,h1,h2⟩:=aa3 hr q hS hl ht hw n (i+1) (by omega) (by omega) m o1 P.len P.MZ (fun j hj=>by
   rcases P.new j hj with h|h
   .exact(hp j h).mono P.sub
   .exact h) (fun v=>by
   rw[zaM,g];constructor
   .intro h;rcases P.own v h with h|h
    .obtain⟨t,h1,h2⟩:=(b v).1 h;exact⟨t,by simp[h1],h2⟩
    .exact⟨a,by simp,h⟩
   .rintro⟨t,h1,h2⟩
    simp at h1;rcases h1 with h1|rfl
    .exact P.sub v ((b v).2 ⟨t,h1,h2⟩)
    .exact P.all v h2.1 h2.2)
  refine⟨dn',out',?_,h1,h2⟩;have e:=P.DV;have p:=lj (dn:=dn);have o:=lj (dn:=m);have n0:=p.norm;have d:=o.norm;have s0:=p.sh;have r:=o.sh;unfold Yr at e;generalize bT m=y at*;generalize bT dn=T at*;rw[g372L0e]at k ⊢;simp[fX]at e;simp[fX,d]at k;simp(disch:=omega)[-getElem?_pos,g372B0,fX,hi,g,n0,d,s0,r,aq,e];rw[g372L0e];simp[k,d]
theorem c372(hs:s.sl.length<=1000000)(m:xS s.sl)(o:∀x∈s.sl,x.ty.Ok)(hS:∀x∈s.sl,∀w,cf x.ty w->w∈S)(hf:S.length<1099511627776)(hl:Sm l)(ht:∀t∈l,t.Ok)(hw:∀t∈l,∀w,cf t w->w∈S):
   ∃out,(aE AP).p 372 [s.pv,.ae (l.map Ty.pv)]=some [.ae (out.map vI)]/\gV S out/\∀v,v∈out<->∃t∈l,RT s.sl t v/\¬jR s.sl v:=by
 obtain⟨u,hr⟩:=m
 obtain⟨dn',out,e,i,g⟩:=aa3 hr o hS hl ht hw _ 0 rfl (by omega) (List.replicate s.sl.length false) [] (by simp) (mu hf) (by
  intro j hj;exfalso;by_cases q:j<s.sl.length
  .simp[List.getElem?_replicate,q]at hj
  .simp[List.getElem?_replicate,q]at hj) (by simp)
 refine⟨out,?_,i,g⟩;have k:bT (List.replicate s.sl.length false)=List.replicate s.sl.length (.pv (.bool false)):=by simp[bT]
 have hp:=lj (dn:=List.replicate s.sl.length false);have a:=lj (dn:=dn');rw[k]at e hp;have b1:(s.sl.length:Int)<=9223372036854775807:=by omega
 have r:(s.sl.length:Int)<=140737488355328:=by omega
 have hn:=hp.norm;have b:=a.norm;have h:=hp.sh;have c:=a.sh;have hm:=hp.mp;generalize bT dn'=y at*
 have d:(List.replicate s.sl.length [AV.pv (.bool false)]).flatten=List.replicate s.sl.length (.pv (.bool false)):=by
  generalize s.sl.length=n;induction n with
  |zero=>rfl
  |succ n f=>rw[zbs,zc2,f,zbs];rfl
 generalize List.replicate s.sl.length (AV.pv (.bool false))=T at*;rw[g372L0e]at e;simp[fX,hn,b]at e;rw[aB g372];simp(disch:=omega)[g372,b1,r,hn,b,h,c,hm,d,g372L0e,e,aq,M4,Uc,Ud,wu]
def t9(l:List Ty)(t:Ty):Option Ty:=if t.kind=2/\0<=t.id/\t.id<l.length then l[t.id.toNat]? else none
variable{b:Ty}{s S:List Ty}
def jb(h:t9 l b=some E):b.kind=2/\0<=b.id/\b.id<l.length/\l[b.id.toNat]?=some E:=by
 unfold t9 at h;split at h
 .rename_i c;exact⟨c.1,c.2.1,c.2.2,h⟩
 .cases h
def xd(h:t9 l b=none):¬(b.kind=2/\0<=b.id/\b.id<l.length):=by
 intro c;unfold t9 at h;rw[zai c]at h;rw[List.getElem?_eq_none_iff]at h;omega
mutual
def Ty.d7(l:List Ty):Ty->Ty
 |⟨k,n,i,h,as⟩=>(t9 l ⟨k,n,i,h,as⟩).getD ⟨k,n,i,h,Ty.Qp l as⟩
def Ty.Qp(l:List Ty):List Ty->List Ty
 |[]=>[]
 |a::r=>a.d7 l::Ty.Qp l r
end
def Ty.DZ(l:List Ty):∀as:List Ty,Ty.Qp l as=as.map (Ty.d7 l)
 |[]=>by simp[Ty.Qp]
 |a::r=>by simp[Ty.Qp,Ty.DZ l r]
def Ty.gm(l:List Ty)(t:Ty):t.d7 l=(t9 l t).getD ⟨t.kind,t.name,t.id,t.home,t.args.map (Ty.d7 l)⟩:=by
 cases t;simp only[Ty.d7,Ty.DZ]
def L48(hS:Sm E.args)(h:∀x∈E.args,(aE AP).p 48 [x.pv,.ae (s.map Ty.pv)]=some [(x.d7 s).pv]):∀(n i:Nat),E.args.length-i=n->i<=E.args.length->∀acc:List Ty,acc=(E.args.take i).map (Ty.d7 s)->
   cl AP g48L0 ⟨[(1,.pv (.ae (s.map Ty.pv))),(2,.au 2 0),(4,.au 4 0),(5,.au 5 0),(6,.pv (vI i))],
     [(2,[.pv (vI E.kind),.pv (.str E.name),.pv (vI E.id),.pv (vI E.home),.pv (.ae (E.args.map Ty.pv))]),(4,[.pv (vI 0),.pv (.str []),.pv (vI 0),.pv (vI 0),.own [] 0]),
       (5,[.pv (vI E.kind),.pv (.str E.name),.pv (vI E.id),.pv (vI E.home),.own (acc.map Ty.pv) 1])],[],[0,acc.length]⟩=
     some (.exit 0,⟨[(1,.pv (.ae (s.map Ty.pv))),(2,.au 2 0),(4,.au 4 0),(5,.au 5 0),(6,.pv (vI E.args.length)),(33,.pv (.bool false))],
     [(2,[.pv (vI E.kind),.pv (.str E.name),.pv (vI E.id),.pv (vI E.home),.pv (.ae (E.args.map Ty.pv))]),(4,[.pv (vI 0),.pv (.str []),.pv (vI 0),.pv (vI 0),.own [] 0]),
       (5,[.pv (vI E.kind),.pv (.str E.name),.pv (vI E.id),.pv (vI E.home),.own ((E.args.map (Ty.d7 s)).map Ty.pv) 1])],[],[0,E.args.length]⟩)
 |0,i,hn,hi,acc,a=>by
  have:i=E.args.length:=by omega
  subst this;subst a;rw[g48L0e];simp[g48B0]
 |n+1,i,hn,hi,acc,a=>by
  have hi:i<E.args.length:=(by omega);obtain⟨x,hx⟩:=aR hi;unfold Sm at hS;have d:(acc.length+1)*64<=140737488355328:=by subst a;simp;omega
  have c:=h x (aM hx);have b:=L48 hS h n (i+1) (by omega) (by omega) (acc++[x.d7 s]) (by rw[zaM,hx,a];simp);rw[g48L0e]at b⊢;simp at b c;simp(disch:=omega)[-getElem?_pos,g48B0,hx,hi,c,d,aq];rw[g48L0e];simp[b]
def c48(hs:Sm s){t:Ty}(e:t.Ok):(aE AP).p 48 [t.pv,.ae (s.map Ty.pv)]=some [(t.d7 s).pv]:=by
 revert e
 refine Ty.cb (p:=fun t=>t.Ok->(aE AP).p 48 [t.pv,.ae (s.map Ty.pv)]=some [(t.d7 s).pv]) ?_ t;intro t f e;rw[aB g48];unfold Sm at hs;have h:=L48 (s:=s) e.sm (fun x hx=>f x hx (e.df x hx)) _ 0 rfl (by omega) [] (by simp);rw[g48L0e]at h;simp at h;cases hp:t9 s t with
 |some u=>
  obtain⟨a,b,c,d⟩:=jb hp;have b1:¬t.id<0:=by omega
  simp (disch:=omega) [-getElem?_pos,g48,a,b,b1,c,d,Ty.gm s t,hp]
 |none=>
  have q:=xd hp;by_cases a:t.kind=2
  .by_cases b:0<=t.id
   .have c:¬t.id<s.length:=fun c=>q ⟨a,b,c⟩;simp[a]at h;simp(disch:=omega)[-getElem?_pos,g48,a,b,c,g48L0e,h,Ty.gm s t,hp]
   .simp[a]at h;simp(disch:=omega)[-getElem?_pos,g48,a,b,g48L0e,h,Ty.gm s t,hp]
  .simp(disch:=omega)[-getElem?_pos,g48,a,g48L0e,h,Ty.gm s t,hp]
def lO(s:List Ty)(x:Ty):Ty:=(t9 s x).getD x
inductive Ty.Wb:Ty->Prop
 |mk {t:Ty}:(t.kind=2->t.args=[])->(∀x∈t.args,Ty.Wb x)->Ty.Wb t
def Ty.Wb.var{t:Ty}(h:t.Wb):t.kind=2->t.args=[]:=by cases h;assumption
def Ty.Wb.df(h:b.Wb):∀x∈b.args,x.Wb:=by cases h;assumption
def Ue(h:E.Wb):E.t5 (lO l)=E.d7 l:=by
 revert h
 refine Ty.cb (p:=fun E=>E.Wb->E.t5 (lO l)=E.d7 l) ?_ E;intro E a h;by_cases hn:E.args=[]
 .rw[Ty.A0 hn,Ty.gm];unfold lO;cases E;simp at hn;simp[hn]
 .have b:¬E.kind=2:=fun e=>hn (h.var e);have hp:t9 l E=none:=by unfold t9;rw[zad];exact fun c=>b c.1
  rw[Ty.wQ hn,Ty.gm,hp];simp only[zaT];congr 1;exact zaP fun x hx=>a x hx (h.df x hx)
def c93(hs:Sm l):PO 93 [.aL 0 0] [.pv (.ae (l.map Ty.pv))] (lO l):=by
 intro sh x e h0 hx;rw[aC g93];unfold Sm at hs;cases hp:t9 l x with
 |some u=>
  obtain⟨a,b,c,d⟩:=jb hp;have b1:¬x.id<0:=by omega
  simp (disch:=omega) [-getElem?_pos,g93,a,b,b1,c,d,h0,e.norm,e.shift,lO,hp]
 |none=>
  have q:=xd hp;by_cases a:x.kind=2
  .by_cases b:0<=x.id
   .have c:¬x.id<l.length:=fun c=>q ⟨a,b,c⟩;simp(disch:=omega)[-getElem?_pos,g93,a,b,c,h0,e.norm,e.shift,lO,hp,hx]
   .simp(disch:=omega)[-getElem?_pos,g93,a,b,h0,e.norm,e.shift,lO,hp,hx]
  .simp(disch:=omega)[-getElem?_pos,g93,a,h0,e.norm,e.shift,lO,hp,hx]
def c47(hS:Sm l){t:Ty}(d:t.Ok)(c:t.Wb):(aE AP).p 47 [t.pv,.ae (l.map Ty.pv)]=some [(t.d7 l).pv]:=by
 have h:=c91 (c93 hS) rfl rfl rfl (fun _ _=>rfl) rfl d [some [.pv (.ae (l.map Ty.pv))]] (by intro cs b v a;simp at b;subst b;simp at a;exact⟨_,a⟩) rfl;rw[Ue c]at h;simp at h;rw[aB g47];simp[g47,h]
def ou(hs:∀a∈l,a.Ok)(h:E.Ok):(E.d7 l).Ok:=by
 revert h
 refine Ty.cb (p:=fun E=>E.Ok->(E.d7 l).Ok) ?_ E;intro E b h;rw[Ty.gm];cases hp:t9 l E with
 |some u=>exact hs u (aM (jb hp).2.2.2)
 |none=>
  refine⟨?_,?_⟩
  .have:=h.sm;unfold Sm at this⊢;simpa using this
  .intro x hx;simp at hx;obtain⟨y,hy,rfl⟩:=hx;exact b y hy (h.df y hy)
structure Good(S:List Ty)(t:Ty):Prop where
 ok:t.Ok
 wf:t.Wf
 sub:∀x∈t.gk 1,x∈S
def mz(a:E.Wf):∀x∈E.nodes,x.kind=1->x∈E.gk 1:=by
 revert a
 refine Ty.cb (p:=fun E=>E.Wf->∀x∈E.nodes,x.kind=1->x∈E.gk 1) ?_ E;intro E c a x hx b;rw[Ty.aI]at hx;rw[Ty.lU];simp only[zah,zaf]at hx;rcases hx with rfl|⟨y,hy,hx⟩
 .have d:=a.var b;simp[b,d]
 .have:¬(E.kind=1/\E.args.length=0):=by
   rintro⟨_,h⟩
   have:E.args=[]:=by simpa using h
   rw[this]at hy;simp at hy
  rw[zad this];simp only[zaf];exact⟨y,hy,c y hy (a.df y hy) x hx b⟩
def YB(hf:S.length<1099511627776)(hS:Sm l)(a:∀t∈l,Good S t):(aE AP).p 55 [.ae (l.map Ty.pv)]=some [.ae ((vars l).map vI)]:=by
 refine c55 (S:=S.map Ty.id) (by simpa using hf) hS (fun t ht=>(a t ht).ok) ?_;intro x hx b;simp only[zaf]at hx;obtain⟨t,ht,hx⟩:=hx;exact zbt ((a t ht).sub x (mz (a t ht).wf x hx b))
def Be(hf:S.length<1099511627776)(b:∀x∈S,x.Ok)(hS:Sm l)(a:∀t∈l,Good S t):(aE AP).p 56 [.ae (l.map Ty.pv)]=some [.ae ((vars l).map vI)]:=by
 rw[<-lh (fun t ht=>(a t ht).wf)];refine c56 hf b hS (fun t ht=>(a t ht).ok) ?_;intro x hx;simp only[zaf]at hx;obtain⟨t,ht,hx⟩:=hx;exact(a t ht).sub x hx
def aa4{H:List En}(hS:Sm H):∀(n i:Nat),H.length-i=n->i<=H.length->∀acc:List Sc,acc.length<=i->
   cl AP g226L0 ⟨[(0,.pv (.ae (H.map En.pv))),(3,.own (acc.map As.pv) 0),(4,.pv (vI i))],[],[],[acc.length]⟩=
     some (.exit 0,⟨[(0,.pv (.ae (H.map En.pv))),(3,.own ((acc++(H.drop i).map En.sc).map As.pv) 0),(4,.pv (vI H.length)),(8,.pv (.bool false))],[],[],[(acc++(H.drop i).map En.sc).length]⟩)
 |0,i,hn,hi,acc,c=>by
  have:i=H.length:=by omega
  subst this;rw[g226L0e];simp[g226B0]
 |n+1,i,hn,hi,acc,c=>by
  have hi:i<H.length:=(by omega);obtain⟨x,hx⟩:=aR hi;unfold Sm at hS;have b:(acc.length+1)*72<=140737488355328:=(by omega);have a:=aa4 hS n (i+1) (by omega) (by omega) (acc++[x.sc]) (by simp;omega);rw[g226L0e]at a⊢;rw[aZ hx];simp at a;simp(disch:=omega)[-getElem?_pos,g226B0,hx,hi,aq,b];rw[g226L0e];simp[a]
variable{l:List En}
def c226(hS:Sm l):(aE AP).p 226 [.ae (l.map En.pv)]=some [.ae ((l.map En.sc).map As.pv)]:=by
 have h:=aa4 hS _ 0 rfl (by omega) [] (by simp);rw[aB g226];rw[g226L0e]at h;simp at h;simp[g226,g226L0e,h]
def aa5{l:List Sc}(hS:Sm l):∀(n i:Nat),l.length-i=n->i<=l.length->∀acc:List Ty,acc.length<=i->
   cl AP g225L0 ⟨[(0,.pv (.ae (l.map As.pv))),(3,.own (acc.map Ty.pv) 0),(4,.pv (vI i))],[],[],[acc.length]⟩=
     some (.exit 0,⟨[(0,.pv (.ae (l.map As.pv))),(3,.own ((acc++(l.drop i).map As.ty).map Ty.pv) 0),(4,.pv (vI l.length)),(8,.pv (.bool false))],[],[],[(acc++(l.drop i).map As.ty).length]⟩)
 |0,i,hn,hi,acc,c=>by
  have:i=l.length:=by omega
  subst this;rw[g225L0e];simp[g225B0]
 |n+1,i,hn,hi,acc,c=>by
  have hi:i<l.length:=(by omega);obtain⟨x,hx⟩:=aR hi;unfold Sm at hS;have b:(acc.length+1)*64<=140737488355328:=(by omega);have a:=aa5 hS n (i+1) (by omega) (by omega) (acc++[x.ty]) (by simp;omega);rw[g225L0e]at a⊢;rw[aZ hx];simp at a;simp(disch:=omega)[-getElem?_pos,g225B0,hx,hi,aq,b];rw[g225L0e];simp[a]
def c225(hf:S.length<1099511627776)(b:∀x∈S,x.Ok){l:List Sc}(hS:Sm l)(d:∀c∈l,Good S c.ty):(aE AP).p 225 [.ae (l.map As.pv)]=some [.ae ((vars (l.map As.ty)).map vI)]:=by
 have h:=aa5 hS _ 0 rfl (by omega) [] (by simp);have k:=Be hf b (l:=l.map As.ty) (by unfold Sm at*;simpa using hS) (by intro t ht;simp at ht;obtain⟨c,a,rfl⟩:=ht;exact d c a);rw[aB g225];rw[g225L0e]at h;simp at h k;simp[g225,g225L0e,h,k]
theorem YC{l:List En}(hS:Sm l):∀(n i:Nat),l.length-i=n->i<=l.length->∀acc:List En,acc.length<=i->
   cl AP g201L0 ⟨[(0,.pv (.ae (l.map En.pv))),(3,.own (acc.map En.pv) 0),(4,.pv (vI i))],[],[],[acc.length]⟩=
     some (.exit 0,⟨[(0,.pv (.ae (l.map En.pv))),(3,.own ((acc++aW (l.drop i)).map En.pv) 0),(4,.pv (vI l.length)),(10,.pv (.bool false))],[],[],[(acc++aW (l.drop i)).length]⟩)
 |0,i,hn,hi,acc,m=>by
  have:i=l.length:=by omega
  subst this;rw[g201L0e];simp[g201B0,aW]
 |n+1,i,hn,hi,acc,m=>by
  have hi:i<l.length:=(by omega);obtain⟨x,hx⟩:=aR hi;have k:=c181 (l:=l.drop (i+1)) (s:=x.name) (by unfold Sm at hS⊢;simp;omega);unfold Sm at hS;have j:(acc.length+1)*88<=140737488355328:=(by omega);have b:=aaJ (sz:=7) (l:=l.map En.pv) (k:=.i64) (h:=(i:Int)+1) (by omega) (by simp;omega) (by simp);have hd:((i:Int)+1).toNat=i+1:=(by omega);rw[hd]at b;rw[aZ hx];simp only[uU]at k;cases e:jr (l.drop (i+1)) x.name with
  |some c=>
   have f:(l.drop (i+1)).any (fun y=>decide (y.name=x.name))=true:=any_none.2 ⟨c,e⟩;have d:aW (x::l.drop (i+1))=aW (l.drop (i+1)):=(by simp only[aW,f,za4]);have a:=YC hS n (i+1) (by omega) (by omega) acc (by omega);rw[g201L0e]at a⊢;rw[e]at k;simp at a k;simp(disch:=omega)[-getElem?_pos,g201B0,hx,hi,aq,b,k,d];rw[g201L0e];simp[a]
  |none=>
   have f:(l.drop (i+1)).any (fun y=>decide (y.name=x.name))=false:=by
    cases h:(l.drop (i+1)).any (fun y=>decide (y.name=x.name))with
    |false=>rfl
    |true=>obtain⟨c,g⟩:=any_none.1 h;rw[e]at g;cases g
   have d:aW (x::l.drop (i+1))=x::aW (l.drop (i+1)):=(by simp only[aW,f];simp);have a:=YC hS n (i+1) (by omega) (by omega) (acc++[x]) (by simp;omega);rw[g201L0e]at a⊢;rw[e]at k;simp at a k;simp(disch:=omega)[-getElem?_pos,g201B0,hx,hi,aq,b,k,d,j];rw[g201L0e];simp[a]
def c201(hS:Sm l):(aE AP).p 201 [.ae (l.map En.pv)]=some [.ae ((aW l).map En.pv)]:=by
 have h:=YC hS _ 0 rfl (by omega) [] (by simp);rw[aB g201];rw[g201L0e]at h;simp at h;simp[g201,g201L0e,h]
def dQ(l:List En):List Int:=vars ((aW l).map fun x=>x.sc.ty)
def c200(hf:S.length<1099511627776)(f:∀x∈S,x.Ok)(hS:Sm l)(g:∀x∈l,Good S x.sc.ty):(aE AP).p 200 [.ae (l.map En.pv)]=some [.ae ((dQ l).map vI)]:=by
 have b:=c201 hS;have hl:=gM l;have k2:=c226 (l:=aW l) (by unfold Sm at*;omega);have a:=c225 hf f (l:=(aW l).map En.sc) (by unfold Sm at*;simp;omega) (by intro c d;simp at d;obtain⟨x,hx,rfl⟩:=d;exact g x (cd l x hx));rw[aB g200];have e:((aW l).map En.sc).map As.ty=(aW l).map fun x=>x.sc.ty:=by simp
 rw[e]at a;simp at b k2 a;simp[g200,b,k2,a,dQ]
inductive Ty.Kn (K:Int->Prop):Ty->Prop
 |mk {t:Ty}:(t.kind≠4->K t.kind/\t.args=[])->t.name.length<=100->(∀x∈t.args,x.Kn K)->t.Kn K
def Ty.Kn.hd(h:b.Kn K):b.kind≠4->K b.kind/\b.args=[]:=by cases h;assumption
def Ty.Kn.nm(h:b.Kn K):b.name.length<=100:=by cases h;assumption
def Ty.Kn.kd(h:b.Kn K):∀x∈b.args,x.Kn K:=by cases h;assumption
def Ty.Kn.imp(hK:∀k,K k->K' k)(h:b.Kn K):b.Kn K':=by
 induction h with
 |mk h1 hn _ a=>exact .mk (fun q=>⟨hK _ (h1 q).1,(h1 q).2⟩) hn a
def Ty.Kn.wf(h:b.Kn K):b.Wf:=by
 induction h with
 |mk h1 _ _ a=>exact⟨fun q=>(h1 (by rw[q];decide)).2,a⟩
def Ty.Kn.wb(h:b.Kn K):b.Wb:=by
 induction h with
 |mk h1 _ _ a=>exact⟨fun q=>(h1 (by rw[q];decide)).2,a⟩
def Ty.Kn.cw(h:b.Kn K):b.Cw:=by
 induction h with
 |mk h1 _ _ a=>exact⟨fun q=>(h1 q).2,a⟩
def Ty.Kn.bare(h:b.args=[])(a:b.kind≠4->K b.kind)(hn:b.name.length<=100):b.Kn K:=.mk (fun q=>⟨a q,h⟩) hn (by rw[h];simp)
def Ty.Kn.nodes(h:E.Kn K):∀y∈E.nodes,y.kind≠4->K y.kind/\y.args=[]:=by
 induction h with
 | @mk E h1 _ _ b=>
  intro y hy;rw[Ty.aI]at hy;simp only[zah,zaf]at hy;rcases hy with rfl|⟨a,c,hy⟩
  .exact h1
  .exact b a c y hy
@[simp] def KS(k:Int):Prop:=k=0\/k=1\/k=3
abbrev Ty.Kw(t:Ty):Prop:=t.Kn KS
def Ty.Kw.var{t:Ty}(h:t.Kw):t.kind=1->t.args=[]:=fun q=>(Ty.Kn.hd h (by rw[q];decide)).2
def Ty.Kw.df(h:b.Kw):∀x∈b.args,x.Kw:=Ty.Kn.kd h
@[simp] def KG(k:Int):Prop:=k=0\/k=3
@[simp] def KC(k:Int):Prop:=k=0\/k=2\/k=3
@[simp] def KV(k:Int):Prop:=k=0\/k=1\/k=2\/k=3
def Wj:∀k,KG k->KS k:=by intro k h;simp at h⊢;omega
def aa6:∀k,KG k->KC k:=by intro k h;simp at h⊢;omega
def Qq:∀k,KC k->KV k:=by intro k h;simp at h⊢;omega
def pL:∀k,KS k->KV k:=by intro k h;simp at h⊢;omega
def oz{I:List As}(h:E.Kn K)(hK:∀k,K k->k≠1->K' k)(hs:∀i x,cR I i=some x->x.Kn K')(h1:K' 1\/∀y∈E.nodes,y.kind=1->∃x,cR I y.id=some x):(E.sub I).Kn K':=by
 induction h with
 | @mk E c hn _ f=>
  have b:E∈E.nodes:=(by rw[Ty.aI];simp);rw[Ty.sub_eq];by_cases q:E.kind=1
  .rw[zai q];cases e:cR I E.id with
   |some x=>simpa using hs _ _ e
   |none=>
    rcases h1 with h1|h1
    .have:=c (by rw[q];decide);exact .mk (fun _=>⟨by simp only[zaT];rw[q];exact h1,by simpa using this.2⟩) (by simpa using hn) (by rw[zaT,this.2];simp)
    .obtain⟨x,hx⟩:=h1 E b q;rw[hx]at e;cases e
  .rw[zad q];refine .mk (fun r=>?_) hn ?_
   .have:=c r;exact⟨hK _ this.1 q,by simp[this.2]⟩
   .intro x hx;simp only[zak]at hx;obtain⟨a,d,rfl⟩:=hx;refine f a d ?_;rcases h1 with h1|h1
    .exact .inl h1
    .right;intro y hy;refine h1 y ?_;rw[Ty.aI];simp only[zah,zaf];exact .inr ⟨a,d,hy⟩
def Bf{l:List Ty}(h:E.Kn K)(hK:∀k,K k->k≠2->K' k)(hs:∀x∈l,x.Kn K')(h1:∀y∈E.nodes,y.kind=2->0<=y.id/\y.id<l.length):(E.d7 l).Kn K':=by
 induction h with
 | @mk E f hn _ d=>
  have b:E∈E.nodes:=(by rw[Ty.aI];simp);rw[Ty.gm];cases e:t9 l E with
  |some x=>
   obtain⟨_,_,_,hx⟩:=jb e;simpa using hs _ (aM hx)
  |none=>
   have q:E.kind≠2:=fun q=>xd e ⟨q,(h1 E b q).1,(h1 E b q).2⟩;simp only[zaT];refine .mk (fun r=>?_) hn ?_
   .have:=f r;exact⟨hK _ this.1 q,by simp[this.2]⟩
   .intro x hx;simp only[zak]at hx;obtain⟨a,c,rfl⟩:=hx;refine d a c ?_;intro y hy;refine h1 y ?_;rw[Ty.aI];simp only[zah,zaf];exact .inr ⟨a,c,hy⟩
mutual
def Ty.ev(r:Int->Ty):Ty->Ty
 |⟨k,n,i,h,as⟩=>if k=1 then r i else⟨k,n,i,h,Ty.Sq r as⟩
def Ty.Sq(r:Int->Ty):List Ty->List Ty
 |[]=>[]
 |a::l=>Ty.ev r a::Ty.Sq r l
end
theorem Ty.ru(r:Int->Ty):∀l:List Ty,Ty.Sq r l=l.map (Ty.ev r)
 |[]=>rfl
 |a::l=>by simp only[Ty.Sq,Ty.ru r l,zan]
def Ty.bE(r:Int->Ty)(t:Ty):t.ev r=if t.kind=1 then r t.id else⟨t.kind,t.name,t.id,t.home,t.args.map (Ty.ev r)⟩:=by
 obtain⟨k,n,i,h,as⟩:=t;simp only[Ty.ev,Ty.ru]
def gQ(h:b.kind=1):b.ev r=r b.id:=by rw[Ty.bE,zai h]
def ry:(az B).ev r=r B:=gQ rfl
def Sat(r:Int->Ty)(s:List Sl):Prop:=∀(i:Nat)(x:Sl),s[i]?=some x->x.bd=true->r i=x.ty.ev r
theorem Jr(h:Sat r C):∀(m:Nat)(t:Ty),(wk C m t).ev r=t.ev r
 |0,t=>rfl
 |m+1,t=>by
  unfold wk;split
  .rename_i x hx;obtain⟨a,i,hi,hx,b⟩:=cq hx;rw[Jr h m x.ty,<-h i x hx b,gQ a,hi]
  .rfl
def Gv(t:Ty):Prop:=∀y∈t.nodes,y.kind=1\/y.kind=2\/(y.kind=4/\y.id=0/\y.home=0/\i7 y.name y.args.length=true)
def pM(h:E.kind=1\/E.kind=2\/(E.kind=4/\E.id=0/\E.home=0/\i7 E.name E.args.length=true))(hx:∀x∈E.args,Gv x):Gv E:=by
 intro y hy;rw[Ty.aI]at hy;simp only[zah,zaf]at hy;rcases hy with rfl|⟨a,b,hy⟩
 .exact h
 .exact hx a b y hy
def Gv.hd(h:Gv b):b.kind=1\/b.kind=2\/(b.kind=4/\b.id=0/\b.home=0/\i7 b.name b.args.length=true):=h b (by rw[Ty.aI];simp)
def Gv.df(h:Gv b):∀x∈b.args,Gv x:=fun x hx y hy=>h y (by
 rw[Ty.aI];simp only[zah,zaf];exact .inr ⟨x,hx,hy⟩)
def iG(i:Int):Gv (az i):=pM (.inl rfl) (by simp[az])
def gY(W:Int->Prop)(t:Ty):Prop:=(∀w,cf t w->W w)/\Gv t
def nI(W:Int->Prop)(s:List Sl):Prop:=∀(i:Nat)(x:Sl),s[i]?=some x->x.bd=true->W i->gY W x.ty
def Nz(W:Int->Prop)(s s':List Sl):Prop:=∀(k:Nat)(y:Sl),s'[k]?=some y->¬W k->∃x,s[k]?=some x/\y.bd=x.bd/\y.ty=x.ty
def Nz.refl:Nz W C C:=fun _ y h _=>⟨y,h,rfl,rfl⟩
def Nz.trans{W:Int->Prop}{s f e:List Sl}(h:Nz W s f)(h':Nz W f e):Nz W s e:=fun k y hy hw=>by
 obtain⟨x,hx,a,b⟩:=h' k y hy hw;obtain⟨z,g,c,d⟩:=h k x hx hw;exact⟨z,g,a.trans c,b.trans d⟩
def Js(h:nI W C):∀(m:Nat)(t:Ty),gY W t->gY W (wk C m t)
 |0,t,ht=>ht
 |m+1,t,ht=>by
  unfold wk;split
  .rename_i x hx;obtain⟨a,i,hi,hx,b⟩:=cq hx;exact Js h m x.ty (h i x hx b (by rw[<-hi];exact ht.1 _ (.var a)))
  .exact ht
def D0{a:List Sl}(b:∀(k:Nat)(y:Sl),a[k]?=some y->∃p,C[k]?=some p/\y.bd=p.bd/\y.ty=p.ty)(hC:nI W C)(hi:W i)(ht:gY W x.ty):nI W (a.set i x)/\Nz W C (a.set i x):=by
 refine⟨fun k y hy c hw=>?_,fun k y hy hw=>?_⟩
 .rw[zax]at hy;split at hy
  .split at hy
   .cases hy;exact ht
   .cases hy
  .obtain⟨p,hp,e1,e2⟩:=b k y hy;rw[e2];exact hC k p hp (by rw[<-e1];exact c) hw
 .rw[zax]at hy;split at hy
  .rename_i e;subst e;exact absurd hi hw
  .exact b k y hy
def D1(hi:i<C.length)(h:Sat r (C.set i x))(a:x.bd=true):r i=x.ty.ev r:=
 h i x (by rw[zax,zai rfl,zai hi]) a
def Ub(i:Nat)(t:Ty)(s s':List Sl):Prop:=(∀r,Sat r s'->r i=t.ev r)/\∀W:Int->Prop,nI W s->W i->gY W t->nI W s'/\Nz W s s'
def Ua(i:Nat)(x y:Ty)(s s':List Sl):Prop:=(∀r,Sat r s'->∀(j:Nat) a b,j<i->x.args[j]?=some a->y.args[j]?=some b->a.ev r=b.ev r)/\∀W:Int->Prop,nI W s->(∀a∈x.args,gY W a)->(∀b∈y.args,gY W b)->nI W s'/\Nz W s s'
structure Uv(a b:Ty)(s s':List Sl):Prop where
 snd:∀r,Sat r s'->a.ev r=b.ev r
 YD:∀W:Int->Prop,nI W s->gY W a->gY W b->nI W s'/\Nz W s s'
end Go.Ab.Lw
