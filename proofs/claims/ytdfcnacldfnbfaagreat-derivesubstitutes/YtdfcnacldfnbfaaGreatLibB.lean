import Derived.Test.YtdfcnacldfnbfaaGreatLibA
/- What functions of the given program answer, told of their slim code on the abstract machine. -/
set_option linter.defProp false
set_option linter.unusedVariables false
set_option linter.unusedSimpArgs false
set_option linter.unnecessarySimpa false
set_option maxRecDepth 100000
set_option maxHeartbeats 8000000
namespace Go.Ab
def zb9:=@Nat.mul_add
def zcw:=@Nat.min_eq_right
def zc3:=@Nat.max_eq_right
def zdd:=@Nat.max_eq_left
def zbV:=@List.mem_iff_getElem?
def zbX:=@Nat.mul_le_mul
def zc7:=@List.any_eq_true
def zcu:=@Bool.false_or
def zaY:=@List.getElem?_of_mem
def zaW:=@Option.getD_some
def zcB:=@List.flatMap_map
def zda:=@List.map_id
def za5:=@List.length_pos_iff
def zcz:=@List.map_attach_eq_pmap
def zc4:=@List.pmap_eq_map
def zbT:=@List.sum_cons
def zbZ:=@Bool.or_eq_false_iff
def za7:=@List.length_flatMap
def zbd:=@List.map_map
def zc1:=@List.mem_range'_1
end Go.Ab
namespace Go.Ab.Lw
open Ev
variable{k:Int}{g u y a b w:Ty}{ht:Int->Nat}{B D i n M N tm K I n0 T dep:Nat}{F:List Sl}{o x O:Sl}{α:Type}{s s' s0:cK}{l fs as args lv:List Ty}{L out ids V:List Int}{r:Int->Ty}{X:List bF}{d:Dt}{ds:List Dt}{E:List En}{e q:Ex}{Y:Sc}{Z:Prop}{vs:List As}{P:Ty->Prop}{cn:Bool}{TP:Int->Sh}
def o7{t:Ty}:(t.gk k).length<=t.nodes.length:=by
 refine Ty.cb (p:=fun t=>(t.gk k).length<=t.nodes.length) ?_ t;intro t d;rw[Ty.lU,Ty.aI];split
 .simp
 .have key:∀l:List Ty,(∀a∈l,(a.gk k).length<=a.nodes.length)->(l.flatMap (Ty.gk k)).length<=(l.flatMap Ty.nodes).length:=by
   intro l;induction l with
   |nil=>intro _;simp
   |cons a r c=>
    intro h;have h1:=h a (by simp);have h2:=c fun b e=>h b (by simp[e])
    simp only[zaq,zat];omega
  have:=key t.args d;simp only[zay];omega
def mA:∀x∈g.gk k,x.args=[]:=by
 refine Ty.cb (p:=fun g=>∀x∈g.gk k,x.args=[]) ?_ g;intro g b x hx;rw[Ty.lU]at hx;split at hx
 .rename_i q;simp at hx;subst hx;exact zba.1 q.2
 .simp only[zaf]at hx;obtain⟨a,c,hx⟩:=hx;exact b a c x hx
def c59t(hu:u.Ok)(hn:u.nodes.length<=4000):∃r:List Ty,(aE AP).p 59 [.ae [u.pv]]=some [.ae (r.map Ty.pv)]/\Sm r:=by
 have hl:=o7 (k:=3) (t:=u);obtain⟨r,e,h,_⟩:=c59 (S:=u.gk 3) (by omega) (fun x hx=>bw (mA x hx)) (l:=[u]) (by simp[Sm]) (by simpa using hu) (by simp);exact⟨r,e,h⟩
mutual
def Ty.pd(ht:Int->Nat):Ty->Nat
 |⟨k,_,i,_,as⟩=>if k=1 then ht i else Ty.NA ht as
def Ty.NA(ht:Int->Nat):List Ty->Nat
 |[]=>0
 |a::r=>max (1+Ty.pd ht a) (Ty.NA ht r)
end
def Ty.gR(ht:Int->Nat)(t:Ty):t.pd ht=if t.kind=1 then ht t.id else Ty.NA ht t.args:=by
 obtain⟨k,n,i,h,as⟩:=t;simp only[Ty.pd]
def lV:∀{l:List Ty},(∀x∈l,1+x.pd ht<=B)->Ty.NA ht l<=B
 |[],_=>by simp[Ty.NA]
 |a::r,h=>by
  have h1:=h a (by simp);have h2:=lV (l:=r) fun x hx=>h x (by simp[hx])
  simp only[Ty.NA];omega
def Bg{ht:Int->Nat}:∀{l:List Ty}{x:Ty},x∈l->1+x.pd ht<=Ty.NA ht l
 |a::r,x,h=>by
  simp only[Ty.NA];rcases zah.1 h with rfl|h
  .omega
  .have:=Bg (ht:=ht) h;omega
def oA{t x:Ty}(a:t.kind≠1)(h:x∈t.args):1+x.pd ht<=t.pd ht:=by
 rw[Ty.gR ht t,zad a];exact Bg h
inductive Gr:Ty->Prop
 |mk {t:Ty}:t.kind≠1->(∀x∈t.args,Gr x)->Gr t
def Gr.h{t:Ty}(h:Gr t):t.kind≠1:=by cases h;assumption
def Gr.c(h:Gr g):∀x∈g.args,Gr x:=by cases h;assumption
def yp(D:Nat)(t:Ty):Prop:=Gr t/\∀ht,t.pd ht<=D
def yp.c(h:yp D g):∀x∈g.args,yp D x:=fun x hx=>⟨h.1.c x hx,fun ht=>by have:=oA (ht:=ht) h.1.h hx;have:=h.2 ht;omega⟩
def Ht(ht:Int->Nat)(D:Nat)(s:List Sl):Prop:=∀(i:Nat)(x:Sl),s[i]?=some x->if x.bd=true then x.ty.pd ht<=ht i else D<=ht i
def Ht.a6{s':List Sl}(h:Ht ht D F)(a:∀(k:Nat) y,s'[k]?=some y->∃x,F[k]?=some x/\y.bd=x.bd/\y.ty=x.ty):Ht ht D s':=fun i y hy=>by
 obtain⟨x,hx,h1,h2⟩:=a i y hy;have:=h i x hx;rw[h1,h2];exact this
def Ht.bind(h:Ht ht D F)(a:o.bd=true)(hp:o.ty.pd ht<=ht i):Ht ht D (F.set i o):=fun k y hy=>by
 rw[zax]at hy;split at hy
 .rename_i e;subst e;split at hy
  .cases hy
   rw[zai a];exact hp
  .cases hy
 .exact h k y hy
def Ht.set(h:Ht ht D F)(b:F[i]?=some o)(c:x.bd=o.bd)(a:x.ty=o.ty):Ht ht D (F.set i x):=h.a6 fun k y hy=>by
 rw[zax]at hy;split at hy
 .rename_i e;subst e;split at hy
  .cases hy
   exact⟨o,b,c,a⟩
  .cases hy
 .exact⟨y,hy,rfl,rfl⟩
structure Vp where
 v:Ty->Prop
 df:∀t,v t->∀x∈t.args,v x
 node:∀(t:Ty)(l:List Ty),v t->l.length=t.args.length->(∀x∈l,v x)->v ⟨t.kind,t.name,t.id,t.home,l⟩
 var:∀i,v (az i)
 arr:∀a b,v a->v b->v ⟨4,[45,62],0,0,[a,b]⟩
def Vp.all:Vp:=⟨fun _=>True,fun _ _ _ _=>trivial,fun _ _ _ _ _=>trivial,fun _=>trivial,fun _ _ _ _=>trivial⟩
structure Sg where
 ids:List Int
 p:Vp
instance:Membership Int Sg:=⟨fun S w=>w∈S.ids⟩
structure Inv(n M:Nat)(S:Sg)(s:cK):Prop where
 len:s.sl.length=n
 Sr:s.tr.length+(n+2)*ub s.sl<=M
 ok:∀x∈s.sl,x.ty.Ok
 gZ:∀x∈s.sl,∀w,cf x.ty w->w∈S
 rz:xS s.sl
 wf:∀x∈s.sl,x.ty.Kw
 vn:∀x∈s.sl,x.bd=true->S.p.v x.ty
structure Ext(s s':List Sl):Prop where
 le:s.length<=s'.length
 bd:∀(k:Nat) x,s[k]?=some x->x.bd=true->∃y,s'[k]?=some y/\y.bd=true/\y.ty=x.ty
def Ext.refl(s:List Sl):Ext s s:=⟨zal _,fun _ x h a=>⟨x,h,a,rfl⟩⟩
def Ext.trans{s s' a:List Sl}(h:Ext s s')(h':Ext s' a):Ext s a:=⟨zaI h.le h'.le,fun k x hx d=>by
 obtain⟨y,hy,b,e⟩:=h.bd k x hx d;obtain⟨z,c,zb,f⟩:=h'.bd k y hy b;exact⟨z,c,zb,by rw[f,e]⟩⟩
def Ext.set(b:F[i]?=some o)(h:o.bd=false\/x.bd=o.bd/\x.ty=o.ty):Ext F (F.set i x):=⟨by simp,fun k y hy a=>by
 rw[zax];by_cases e:i=k
 .subst e;rw[b]at hy;cases hy;rcases h with h|⟨h1,h2⟩
  .rw[h]at a;cases a
  .have:=(zaa.1 b).1;exact⟨x,by simp[this],by rw[h1,a],h2⟩
 .exact⟨y,by simp[e,hy],a,rfl⟩⟩
def mem_set{l:List α}{x y:α}(h:y∈l.set n x):y=x\/y∈l:=by
 rcases List.mem_or_eq_of_mem_set h with h|h
 .exact .inr h
 .exact .inl h
theorem bL:(fH s i o O).sl=s.sl.set i O:=rfl
def o8:(fH s i o O).tr.length=s.tr.length+1:=by simp[fH]
theorem o9(a:F[n]?=some o)(h:¬jR F (n:Int)):o.bd=false:=by
 cases e:o.bd with
 |false=>rfl
 |true=>exact absurd ⟨n,o,rfl,a,e⟩ h
variable{S:Sg}{p:Vp}
def Qr(I:Inv n M S s){j:Nat}{h l' h':Sl}(hl:s.sl[i]?=some O)(o:s.sl[j]?=some h)(A:i≠j)(fi:¬jR s.sl (i:Int))(D:¬jR s.sl (j:Int))
   (c:l'.bd=O.bd) (a:l'.ty=O.ty) (g:h'.bd=true) (b:h'.ty=az i) (hi:(i:Int)∈S):
   Inv n M S (fH (fH s i O l') j h h')/\ub (fH (fH s i O l') j h h').sl<ub s.sl/\Ext s.sl (fH (fH s i O l') j h h').sl/\Ub j (az i) s.sl (fH (fH s i O l') j h h').sl:=by
 have f:(fH s i O l').sl[j]?=some h:=by
  rw[bL,zax,zad A,o]
 have E:=uX hl c;have C:=Ba f (o9 o D) g;rw[bL]at C;have hp:=I.Sr;refine⟨⟨by simp[fH,I.len],?_,?_,?_,?_,?_,?_⟩,?_,(Ext.set hl (.inr ⟨c,a⟩)).trans (Ext.set f (.inl (o9 o D))),?_⟩
 .rw[o8,o8];simp only[bL];have:(n+2)*ub s.sl=(n+2)*ub ((s.sl.set i l').set j h')+(n+2):=by rw[<-E,<-C,zb9,Nat.mul_one]
  omega
 .intro x hx;simp only[bL]at hx;rcases mem_set hx with rfl|hx
  .rw[b];exact bw rfl
  .rcases mem_set hx with rfl|hx
   .rw[a];exact I.ok O (aM hl)
   .exact I.ok x hx
 .intro x hx w d;simp only[bL]at hx;rcases mem_set hx with rfl|hx
  .rw[b]at d;rw[da (t:=az i) rfl d];exact hi
  .rcases mem_set hx with rfl|hx
   .rw[a]at d;exact I.gZ O (aM hl) w d
   .exact I.gZ x hx w d
 .simp only[bL];refine DT (DS I.rz hl c a) ?_;intro v d F;rw[b]at d;have e:=da (t:=az i) rfl d;have e2:v=(i:Int):=e;subst e2
  have B:¬jR (s.sl.set i l') (i:Int):=by
   rintro⟨k,x,q,hx,m⟩
   have:k=i:=by omega
   subst this;have u:k<s.sl.length:=by obtain⟨h,_⟩:=zaa.1 hl;exact h
   rw[zax,zai rfl,zai u]at hx;cases hx;rw[c,o9 hl fi]at m;cases m
  have:=oq F B;omega
 .intro x hx;simp only[bL]at hx;rcases mem_set hx with rfl|hx
  .rw[b];exact⟨by simp[az],by simp[az],by simp[az]⟩
  .rcases mem_set hx with rfl|hx
   .rw[a];exact I.wf O (aM hl)
   .exact I.wf x hx
 .intro x hx m;simp only[bL]at hx;rcases mem_set hx with rfl|hx
  .rw[b];exact S.p.var _
  .rcases mem_set hx with rfl|hx
   .rw[a];exact I.vn O (aM hl) (by rw[<-c];exact m)
   .exact I.vn x hx m
 .simp only[bL];omega
 .simp only[bL];have z:=(zaa.1 o).1;refine⟨fun r hr=>?_,fun W hC G ht=>D0 (fun k y hy=>?_) hC G (by rw[b];exact ht)⟩
  .rw[D1 (by simpa using z) hr g,b]
  .rw[zax]at hy;split at hy
   .rename_i e;subst e;split at hy
    .cases hy;exact⟨O,hl,c,a⟩
    .cases hy
   .exact⟨y,hy,rfl,rfl⟩
def Inv.Qt(I:Inv n M S s):s.Ok n (M+10):=⟨by rw[I.len];omega,by have:=I.Sr;have:0<=(n+2)*ub s.sl:=zbB _;omega,I.ok⟩
def Inv.acq(I:Inv n M S s)(hx:O.ty.Ok):(fH s i o O).Ok n (M+10):=⟨by rw[bL,zbJ,I.len];omega,by rw[o8];have:=I.Sr;have:0<=(n+2)*ub s.sl:=zbB _;omega,by
 intro y hy;rw[bL]at hy;rcases mem_set hy with rfl|hy
 .exact hx
 .exact I.ok y hy⟩
def c397(I:Inv n M S s)(hn:n<=1000000)(Y:M<=1100000000000){x:Ty}{j:Nat}(m:x.id=i)(k:y.id=j)(hi:i<n)(hj:j<n)(fi:¬jR s.sl (i:Int))(Q:¬jR s.sl (j:Int))(L:(i:Int)∈S)(K:(j:Int)∈S):
   ∃s',(aE AP).p 397 [s.pv,x.pv,y.pv]=some [s'.pv]/\Inv n M S s'/\(s'=s\/ub s'.sl<ub s.sl)/\Ext s.sl s'.sl/\(∀r,Sat r s'.sl->r i=r j)/\∀W:Int->Prop,nI W s.sl->W i->W j->nI W s'.sl/\Nz W s.sl s'.sl:=by
 by_cases B:i=j
 .refine⟨s,?_,I,.inl rfl,.refl _,fun r _=>by rw[B],fun W hC _ _=>⟨hC,.refl⟩⟩;have h2:x.id=y.id:=by rw[m,k,B]
  rw[aB g397];simp[g397,h2]
 .have z:¬(i:Int)=j:=(by omega);obtain⟨a,E⟩:=aR (l:=s.sl) (i:=min i j) (by rw[I.len];omega);obtain⟨b,G⟩:=aR (l:=s.sl) (i:=max i j) (by rw[I.len];omega);have D:min i j≠max i j:=by omega
  have U:¬jR s.sl ((min i j:Nat):Int):=by
   by_cases q:i<=j
   .rw[zcl q];exact fi
   .rw[zcw (by omega)];exact Q
  have T:¬jR s.sl ((max i j:Nat):Int):=by
   by_cases q:i<=j
   .rw[zc3 q];exact Q
   .rw[zdd (by omega)];exact fi
  have O:((min i j:Nat):Int)∈S:=by
   by_cases q:i<=j
   .rw[zcl q];exact L
   .rw[zcw (by omega)];exact K
  have key:∀u:cK,Ub (max i j) (az (min i j:Nat)) s.sl u.sl->(∀r,Sat r u.sl->r i=r j)/\∀W:Int->Prop,nI W s.sl->W i->W j->nI W u.sl/\Nz W s.sl u.sl:=by
   intro u h
   have h1:∀W:Int->Prop,W i->W j->W (min i j:Nat)/\W (max i j:Nat):=fun W hi hj=>by
    by_cases q:i<=j
    .rw[zcl q,zc3 q];exact⟨hi,hj⟩
    .rw[zcw (by omega),zdd (by omega)];exact⟨hj,hi⟩
   refine⟨fun r hr=>?_,fun W hC hi hj=>h.2 W hC (h1 W hi hj).2 ⟨fun w R=>by rw[da (t:=az (min i j:Nat)) rfl R];exact(h1 W hi hj).1,iG _⟩⟩;have e:=h.1 r hr;rw[ry]at e;by_cases q:i<=j
   .rw[zcl q,zc3 q]at e;exact e.symm
   .rw[zcw (by omega),zdd (by omega)]at e;exact e
  have d:(if j<i then(j:Int)else(i:Int))=((min i j:Nat):Int):=by split<;>omega
  have f:(if i<j then(j:Int)else(i:Int))=((max i j:Nat):Int):=by split<;>omega
  have A:min i j<s.sl.length:=(by rw[I.len];omega);have C:max i j<s.sl.length:=(by rw[I.len];omega);generalize min i j=p at*;generalize max i j=q at*;have H:=c63 (n:=p);let g:Sl:=⟨a.bd,a.ty,if b.home<a.home then b.home else a.home,a.base || b.base⟩;let F:Sl:=⟨true,az p,b.home,b.base⟩;have V:g.ty.Ok:=I.ok a (aM E);have v:=c393 I.Qt (by omega) (by omega) E g;have N:(fH s p a g).sl[q]?=some b:=(by rw[bL,zax,zad D,G]);have k2:=c393 (I.acq (i:=p) (o:=a) V) (by omega) (by omega) N F;obtain⟨J,hu,hx,P⟩:=Qr I (l':=g) (h':=F) E G D U T rfl rfl rfl rfl O;refine⟨fH (fH s p a g) q b F,?_,J,.inr hu,hx,key _ P⟩;clear key P;generalize fH (fH s p a g) q b F=u at*;generalize fH s p a g=X at*;simp[g,F,az]at H v k2;rw[aB g397];cases c:a.base
  .simp[c]at v;simp(disch:=omega)[-getElem?_pos,g397,m,k,z,d,f,E,G,A,C,H,v,k2,c]
  .simp[c]at v;simp(disch:=omega)[-getElem?_pos,g397,m,k,z,d,f,E,G,A,C,H,v,k2,c]
def zS:List AV:=[.own [] 0,.own [] 1]
def sL(v:Sl):List AV:=[.pv (.bool v.bd),.pv (vI v.ty.kind),.pv (.str v.ty.name),.pv (vI v.ty.id),.pv (vI v.ty.home),.pv (.ae (v.ty.args.map Ty.pv)),.pv (vI v.home),.pv (.bool v.base)]
def Qu(s:cK)(q:aH):Option (aX×St):=some (.ret,⟨[(6,.au 6 0),(7,.pv (vI 13))],[(6,sC s)],[],q⟩)
def Wk{s:cK}{i:Nat}{t:Ty}{v:Sl}{out:List Int}(hr:Sm l):∀(n k:Nat),l.length-k=n->k<=l.length->
   (∃q,cl AP g398L0 ⟨[(1,.pv (vI i)),(3,.au 3 0),(5,.au 5 0),(6,.au 6 0),(8,.au 8 0),(9,.pv (.ae (out.map vI))),(15,.pv (.ae (l.map Ty.pv))),(16,.pv (vI k))],[(3,sC s),(5,tC t),(6,zS),(8,sL v)],[],[0,0]⟩=Qu s q)\/
   cl AP g398L0 ⟨[(1,.pv (vI i)),(3,.au 3 0),(5,.au 5 0),(6,.au 6 0),(8,.au 8 0),(9,.pv (.ae (out.map vI))),(15,.pv (.ae (l.map Ty.pv))),(16,.pv (vI k))],[(3,sC s),(5,tC t),(6,zS),(8,sL v)],[],[0,0]⟩=
     some (.exit 0,⟨[(1,.pv (vI i)),(3,.au 3 0),(5,.au 5 0),(6,.au 6 0),(8,.au 8 0),(9,.pv (.ae (out.map vI))),(15,.pv (.ae (l.map Ty.pv))),(16,.pv (vI l.length)),(57,.pv (.bool false))],[(3,sC s),(5,tC t),(6,zS),(8,sL v)],[],[0,0]⟩)
 |0,k,hn,a=>by
  have:k=l.length:=by omega
  subst this;refine .inr ?_;rw[g398L0e];simp[g398B0,sC,tC,zS,sL]
 |n+1,k,hn,a=>by
  have a:k<l.length:=(by omega);obtain⟨x,hx⟩:=aR a;unfold Sm at hr;by_cases b:v.home<x.home
  .refine .inl ?_;rw[g398L0e];simp(disch:=omega)[-getElem?_pos,g398B0,sC,tC,zS,sL,Qu,hx,a,b]
  .have c:=Wk (s:=s) (i:=i) (t:=t) (v:=v) (out:=out) hr n (k+1) (by omega) (by omega)
   have e1:cl AP g398L0 ⟨[(1,.pv (vI i)),(3,.au 3 0),(5,.au 5 0),(6,.au 6 0),(8,.au 8 0),(9,.pv (.ae (out.map vI))),(15,.pv (.ae (l.map Ty.pv))),(16,.pv (vI k))],[(3,sC s),(5,tC t),(6,zS),(8,sL v)],[],[0,0]⟩=cl AP g398L0 ⟨[(1,.pv (vI i)),(3,.au 3 0),(5,.au 5 0),(6,.au 6 0),(8,.au 8 0),(9,.pv (.ae (out.map vI))),(15,.pv (.ae (l.map Ty.pv))),(16,.pv (vI (k+1:Nat)))],[(3,sC s),(5,tC t),(6,zS),(8,sL v)],[],[0,0]⟩:=by
    conv=>lhs;rw[g398L0e]
    simp (disch:=omega) [-getElem?_pos,g398B0,sC,tC,zS,sL,hx,a,b,aq]
   rw[e1];exact c
def Wl{s:cK}{i:Nat}{t:Ty}{v:Sl}{out:List Int}(hr:Sm out):∀(n k:Nat),out.length-k=n->k<=out.length->
   (∃q,cl AP g398L1 ⟨[(1,.pv (vI i)),(3,.au 3 0),(5,.au 5 0),(6,.au 6 0),(8,.au 8 0),(9,.pv (.ae (out.map vI))),(17,.pv (vI k))],[(3,sC s),(5,tC t),(6,zS),(8,sL v)],[],[0,0]⟩=Qu s q)\/
   cl AP g398L1 ⟨[(1,.pv (vI i)),(3,.au 3 0),(5,.au 5 0),(6,.au 6 0),(8,.au 8 0),(9,.pv (.ae (out.map vI))),(17,.pv (vI k))],[(3,sC s),(5,tC t),(6,zS),(8,sL v)],[],[0,0]⟩=
     some (.exit 2,⟨[(1,.pv (vI i)),(3,.au 3 0),(5,.au 5 0),(6,.au 6 0),(8,.au 8 0),(9,.pv (.ae (out.map vI))),(17,.pv (vI out.length)),(72,.pv (.bool false))],[(3,sC s),(5,tC t),(6,zS),(8,sL v)],[],[0,0]⟩)
 |0,k,hn,a=>by
  have:k=out.length:=by omega
  subst this;refine .inr ?_;rw[g398L1e];simp[g398B1,sC,tC,zS,sL]
 |n+1,k,hn,a=>by
  have a:k<out.length:=(by omega);obtain⟨x,hx⟩:=aR a;unfold Sm at hr;by_cases b:(s.sl.length:Int)<=x/\v.home<0
  .obtain⟨g1,g2⟩:=b;refine .inl ?_;rw[g398L1e];simp(disch:=omega)[-getElem?_pos,g398B1,sC,tC,zS,sL,Qu,hx,a,g1,g2]
  .have c:=Wl (s:=s) (i:=i) (t:=t) (v:=v) (out:=out) hr n (k+1) (by omega) (by omega)
   have e1:cl AP g398L1 ⟨[(1,.pv (vI i)),(3,.au 3 0),(5,.au 5 0),(6,.au 6 0),(8,.au 8 0),(9,.pv (.ae (out.map vI))),(17,.pv (vI k))],[(3,sC s),(5,tC t),(6,zS),(8,sL v)],[],[0,0]⟩=cl AP g398L1 ⟨[(1,.pv (vI i)),(3,.au 3 0),(5,.au 5 0),(6,.au 6 0),(8,.au 8 0),(9,.pv (.ae (out.map vI))),(17,.pv (vI (k+1:Nat)))],[(3,sC s),(5,tC t),(6,zS),(8,sL v)],[],[0,0]⟩:=by
    conv=>lhs;rw[g398L1e]
    by_cases g1:(s.sl.length:Int)<=x
    .have g2:¬v.home<0:=fun h=>b ⟨g1,h⟩;simp(disch:=omega)[-getElem?_pos,g398B1,sC,tC,zS,sL,hx,a,g1,g2,aq]
    .simp(disch:=omega)[-getElem?_pos,g398B1,sC,tC,zS,sL,hx,a,g1,aq]
   rw[e1];exact c
structure Kp(s s':cK)(c:Nat):Prop where
 len:s'.sl.length=s.sl.length
 tr:s'.tr.length<=s.tr.length+c
 Jt:∀(k:Nat) o',s'.sl[k]?=some o'->∃o,s.sl[k]?=some o/\o'.bd=o.bd/\o'.ty=o.ty
 ub:ub s'.sl=ub s.sl
def Kp.H9(h:Kp s s' n){i v:Int}(e:Edge s'.sl i v):Edge s.sl i v:=by
 obtain⟨k,x,rfl,hx,d,a⟩:=e;obtain⟨o,b,h1,h2⟩:=h.Jt k x hx;exact⟨k,o,rfl,b,by rw[<-h1];exact d,by rw[<-h2];exact a⟩
def Kp.set(h:Kp s s' n)(a:s'.sl[i]?=some o)(b:x.bd=o.bd)(ht:x.ty=o.ty):Kp s (fH s' i o x) (n+1) where
 len:=by rw[bL,zbJ,h.len]
 tr:=by rw[o8];have:=h.tr;omega
 Jt:=by
  intro j o' hj;rw[bL,zax]at hj;by_cases e:i=j
  .subst e;have hl:i<s'.sl.length:=by obtain⟨h,_⟩:=zaa.1 a;exact h
   rw[zai rfl,zai hl]at hj;cases hj;obtain⟨p,h1,h2,h3⟩:=h.Jt i o a;exact⟨p,h1,by rw[b,h2],by rw[ht,h3]⟩
  .rw[zad e]at hj;exact h.Jt j o' hj
 ub:=by rw[bL,uX a b,h.ub]
def Kp.ext(h:Kp s s' n):Ext s.sl s'.sl:=⟨by rw[h.len];omega,fun k x hx a=>by
 have hl:k<s'.sl.length:=by rw[h.len];exact(zaa.1 hx).1
 obtain⟨y,hy⟩:=aR hl;obtain⟨o,h1,h2,h3⟩:=h.Jt k y hy;rw[hx]at h1;cases h1;exact⟨y,hy,by rw[h2,a],h3⟩⟩
def Kp.refl:Kp s s 0:=⟨rfl,by omega,fun k o h=>⟨o,h,rfl,rfl⟩,rfl⟩
def Kp.bS(h:Kp s s' n)(hd:n<=i):Kp s s' i:=⟨h.len,by have:=h.tr;omega,h.Jt,h.ub⟩
def qu(n:Nat)(l:List Int):Nat:=(l.filter fun w:Int=>decide (w<(n:Int))).length
def Ju(hd:L.Nodup)(h0:∀w∈L,0<=w):qu n L<=n:=by
 have h1:(L.filter fun w=>decide (w<(n:Int))).Nodup:=hd.filter _
 have h2:∀x∈(L.filter fun w=>decide (w<(n:Int))),x∈(List.range n).map (fun k:Nat=>(k:Int)):=by
  intro x hx;simp at hx;simp;exact⟨x.toNat,by have:=h0 x hx.1;omega,by have:=h0 x hx.1;omega⟩
 have:=fh h1 h2;simpa[qu]using this
def Kp.Qt(I:Inv n M S s)(h:Kp s s' i)(d:i<=n):s'.Ok n (M+n+10):=⟨by rw[h.len,I.len];omega,by have:=h.tr;have:=I.Sr;have:0<=(n+2)*Lw.ub s.sl:=zbB _;omega,by
 intro x hx;obtain⟨k,b⟩:=zbV.1 hx;obtain⟨o,a,_,e⟩:=h.Jt k x b;rw[e];exact I.ok o (aM a)⟩
def Jv(I:Inv N M S s)(hN:N<=1000000)(p:M<=1100000000000){i:Nat}{t:Ty}{v:Sl}(hr:Sm out)(hd:out.Nodup)(h0:∀w∈out,0<=w):∀(n k:Nat),out.length-k=n->k<=out.length->∀s':cK,Kp s s' (qu N (out.take k))->∃d,Kp s d (qu N out)/\
   cl AP g398L2 ⟨[(1,.pv (vI i)),(3,.au 3 0),(5,.au 5 0),(6,.au 6 0),(8,.au 8 0),(9,.pv (.ae (out.map vI))),(18,.pv (vI k))],[(3,sC s'),(5,tC t),(6,zS),(8,sL v)],[],[0,0]⟩=
     some (.exit 4,⟨[(1,.pv (vI i)),(3,.au 3 0),(5,.au 5 0),(6,.au 6 0),(8,.au 8 0),(9,.pv (.ae (out.map vI))),(18,.pv (vI out.length)),(92,.pv (.bool false))],[(3,sC d),(5,tC t),(6,zS),(8,sL v)],[],[0,0]⟩)
 |0,k,hn,f,s',hK=>by
  have:k=out.length:=by omega
  subst this;refine⟨s',by simpa using hK,?_⟩;rw[g398L2e];simp[g398B2,sC,tC,zS,sL]
 |n+1,k,hn,f,s',hK=>by
  have f:k<out.length:=(by omega);obtain⟨x,hx⟩:=aR f;have u:=h0 x (aM hx);have hl:=hK.len;rw[I.len]at hl;have g:out.take (k+1)=out.take k++[x]:=(by rw[zaM,hx];rfl);have h:qu N (out.take k)<=N:=Ju (hd.sublist (List.take_sublist _ _)) (fun w hw=>h0 w (zbh hw));have hs:=hr;unfold Sm at hr;by_cases r:x<(N:Int)
  .obtain⟨j,rfl⟩:∃j:Nat,x=j:=⟨x.toNat,by omega⟩;have hj:j<s'.sl.length:=by omega
   obtain⟨o,l⟩:=aR hj
   have b:qu N (out.take (k+1))=qu N (out.take k)+1:=by
    rw[g];simp[qu,r]
   by_cases q:v.home<o.home
   .have c:=c393 (hK.Qt I h) hN (by omega) l ⟨o.bd,o.ty,v.home,o.base⟩;have a:=hK.set (x:=⟨o.bd,o.ty,v.home,o.base⟩) l rfl rfl;rw[<-b]at a;obtain⟨d,h2,e⟩:=Jv (i:=i) (t:=t) (v:=v) I hN p hs hd h0 n (k+1) (by omega) (by omega) _ a;refine⟨d,h2,?_⟩;generalize fH s' j o ⟨o.bd,o.ty,v.home,o.base⟩=y at*;rw[g398L2e]at e⊢;simp[sC,tC,zS,sL]at e;simp at c;simp(disch:=omega)[-getElem?_pos,g398B2,sC,tC,zS,sL,hx,f,hj,l,q,c,aq];rw[g398L2e];simp[e]
   .have a:Kp s s' (qu N (out.take (k+1))):=hK.bS (by omega);obtain⟨d,h2,e⟩:=Jv (i:=i) (t:=t) (v:=v) I hN p hs hd h0 n (k+1) (by omega) (by omega) s' a;refine⟨d,h2,?_⟩;rw[g398L2e]at e⊢;simp[sC,tC,zS,sL]at e;simp(disch:=omega)[-getElem?_pos,g398B2,sC,tC,zS,sL,hx,f,hj,l,q,aq];rw[g398L2e];simp[e]
  .have b:qu N (out.take (k+1))=qu N (out.take k):=by
    rw[g];simp[qu,r]
   have a:Kp s s' (qu N (out.take (k+1))):=(by rw[b];exact hK);obtain⟨d,h2,e⟩:=Jv (i:=i) (t:=t) (v:=v) I hN p hs hd h0 n (k+1) (by omega) (by omega) s' a;refine⟨d,h2,?_⟩;have m:¬x<(s'.sl.length:Int):=(by omega);rw[g398L2e]at e⊢;simp[sC,tC,zS,sL]at e;simp(disch:=omega)[-getElem?_pos,g398B2,sC,tC,zS,sL,hx,f,m,aq];rw[g398L2e];simp[e]
def UR(n M:Nat)(S:Sg)(s s':cK)(P:(Int->Nat)->Nat->Prop)(Q:List Sl->List Sl->Prop)(e:Int):Prop:=e=0->Inv n M S s'/\(s'=s\/ub s'.sl<ub s.sl)/\Ext s.sl s'.sl/\(∀ht D,P ht D->Ht ht D s.sl->Ht ht D s'.sl)/\Q s.sl s'.sl
def D2{d:cK}(I:Inv n M S s){t:Ty}(E:s.sl[i]?=some O)(fi:¬jR s.sl (i:Int)){c:Nat}(hK:Kp s d c)(J:c<=n)(m:d.sl[i]?=some o)(ht:t.Ok)(u:t.Kw)(z:S.p.v t)(hw:∀w,cf t w->w∈S)(A:¬RT s.sl t i)(C:x.bd=true)(hx:x.ty=t):
   Inv n M S (fH d i o x)/\ub (fH d i o x).sl<ub s.sl/\Ext s.sl (fH d i o x).sl/\(∀ht D,t.pd ht<=ht (i:Int)->Ht ht D s.sl->Ht ht D (fH d i o x).sl)/\Ub i t s.sl (fH d i o x).sl:=by
 have j:o.bd=false:=by
  obtain⟨o2,h1,h2,_⟩:=hK.Jt i o m;rw[E]at h1;cases h1;rw[h2];exact o9 E fi
 have F:=Ba m j C;have hu:=hK.ub;have hp:=I.Sr;have hl:=I.len;refine⟨⟨by rw[bL,zbJ,hK.len,I.len],?_,?_,?_,?_,?_,?_⟩,?_,hK.ext.trans (Ext.set m (.inl j)),?_,?_⟩
 .rw[o8,bL];have:(n+2)*ub s.sl=(n+2)*ub (d.sl.set i x)+(n+2):=by rw[<-hu,<-F,zb9,Nat.mul_one]
  have:=hK.tr;omega
 .intro y hy;rw[bL]at hy;rcases mem_set hy with rfl|hy
  .rw[hx];exact ht
  .obtain⟨k,g⟩:=zbV.1 hy;obtain⟨p,h1,_,h3⟩:=hK.Jt k y g;rw[h3];exact I.ok p (aM h1)
 .intro y hy w f;rw[bL]at hy;rcases mem_set hy with rfl|hy
  .rw[hx]at f;exact hw w f
  .obtain⟨k,g⟩:=zbV.1 hy;obtain⟨p,h1,_,h3⟩:=hK.Jt k y g;rw[h3]at f;exact I.gZ p (aM h1) w f
 .rw[bL];refine DT (I.rz.of fun a b=>hK.H9) ?_;intro w l hr;rw[hx]at l;refine A ⟨w,l,?_⟩
  have key:∀{a b:Int},t8 d.sl a b->t8 s.sl a b:=by
   intro a b h;induction h with
   |refl=>exact .refl _
   |step e _ G=>exact .step (hK.H9 e) G
  exact key hr
 .intro y hy;rw[bL]at hy;rcases mem_set hy with rfl|hy
  .rw[hx];exact u
  .obtain⟨k,g⟩:=zbV.1 hy;obtain⟨p,h1,_,h3⟩:=hK.Jt k y g;rw[h3];exact I.wf p (aM h1)
 .intro y hy q;rw[bL]at hy;rcases mem_set hy with rfl|hy
  .rw[hx];exact z
  .obtain⟨k,g⟩:=zbV.1 hy;obtain⟨p,h1,h2,h3⟩:=hK.Jt k y g;rw[h3];exact I.vn p (aM h1) (by rw[<-h2];exact q)
 .rw[bL];omega
 .intro ht D hp h;rw[bL];refine(h.a6 fun k y hy=>?_).bind C (by rw[hx];exact hp);obtain⟨p,h1,h2,h3⟩:=hK.Jt k y hy;exact⟨p,h1,h2,h3⟩
 .rw[bL];have B:=(zaa.1 m).1;exact⟨fun r hr=>by rw[D1 B hr C,hx],fun W hC H ht=>D0 hK.Jt hC H (by rw[hx];exact ht)⟩
def c398(I:Inv n M S s)(hn:n<=1000000)(Y:M<=1100000000000)(hf:S.ids.length<1099511627776)(T:∀w∈S,0<=w)(hi:i<n)(fi:¬jR s.sl (i:Int)){t:Ty}(ht:t.Ok)(L:t.Kw)(N:S.p.v t)(hw:∀w,cf t w->w∈S):
   ∃s' e,(aE AP).p 398 [s.pv,vI i,t.pv]=some [s'.pv,vI e]/\UR n M S s s' (fun ht _=>t.pd ht<=ht (i:Int)) (Ub i t) e:=by
 have hl:=I.len;have c:i<s.sl.length:=by omega
 obtain⟨v,g⟩:=aR c;obtain⟨out,f,H,E⟩:=c372 (S:=S.ids) (by omega) I.rz I.ok I.gZ hf (l:=[t]) (by simp[Sm]) (by simpa using ht) (by intro y hy;simp at hy;subst hy;exact hw);have z:=H.len;have k2:=c95 z (y:=(i:Int));obtain⟨a,b,ar,j,_⟩:=c194g ht;have P:Sm s.sl:=by unfold Sm;omega
 obtain⟨u,Z,m,hu,O⟩:=c358 P I.ok ht;obtain⟨r,k,hr⟩:=c59t hu O;have A:=Wk (s:=s) (i:=i) (t:=t) (v:=v) (out:=out) hr _ 0 rfl (by omega);have B:=Wl (s:=s) (i:=i) (t:=t) (v:=v) (out:=out) z _ 0 rfl (by omega);have h0:∀w∈out,0<=w:=fun w hw=>T w (H.sub w hw)
 obtain⟨U,hK,C⟩:=Jv (i:=i) (t:=t) (v:=v) I hn Y z H.nodup h0 _ 0 rfl (by omega) s (by simpa[qu]using Kp.refl);have D:qu n out<=n:=Ju H.nodup h0;have R:i<U.sl.length:=by rw[hK.len];exact c
 obtain⟨o,V⟩:=aR R;let x:Sl:=⟨true,t,v.home,v.base⟩;have G:=c393 (hK.Qt I D) hn (by omega) V x;by_cases K:(i:Int)∈out
 .rw[zaE K]at k2;refine⟨s,12,?_,by intro h;cases h⟩;rw[aB g398];simp at f;simp(disch:=omega)[-getElem?_pos,g398,c,g,f,k2]
 .rw[zaB K]at k2;have Q:¬RT s.sl t i:=fun h=>K ((E i).2 ⟨t,by simp,h,fi⟩)
  have J:=D2 I (x:=x) g fi hK D V ht L N hw Q rfl rfl;generalize fH U i o x=W at*;simp[x]at G;simp at f j m k;rw[g398L0e]at A;rw[g398L1e]at B;rw[g398L2e]at C;simp[sC,tC,zS,sL,Qu]at A B C;by_cases F:ar=true/\v.base=true
  .obtain⟨X,d⟩:=F;refine⟨s,14,?_,by intro h;cases h⟩;rw[aB g398];simp(disch:=omega)[-getElem?_pos,g398,c,g,f,k2,j,X,d]
  .rcases A with⟨q,A⟩|A
   .refine⟨s,13,?_,by intro h;cases h⟩;rw[aB g398];cases ar with
    |true=>
     have d:v.base=false:=by cases e:v.base with|false=>rfl|true=>exact absurd ⟨rfl,e⟩ F
     simp[d]at A;simp(disch:=omega)[-getElem?_pos,g398,c,g,f,k2,j,m,k,d,g398L0e,A]
    |false=>simp(disch:=omega)[-getElem?_pos,g398,c,g,f,k2,j,m,k,g398L0e,A]
   .rcases B with⟨q,B⟩|B
    .refine⟨s,13,?_,by intro h;cases h⟩;rw[aB g398];cases ar with
     |true=>
      have d:v.base=false:=by cases e:v.base with|false=>rfl|true=>exact absurd ⟨rfl,e⟩ F
      simp[d]at A B;simp(disch:=omega)[-getElem?_pos,g398,c,g,f,k2,j,m,k,d,g398L0e,A,g398L1e,B]
     |false=>simp(disch:=omega)[-getElem?_pos,g398,c,g,f,k2,j,m,k,g398L0e,A,g398L1e,B]
    .refine⟨W,0,?_,fun _=>⟨J.1,.inr J.2.1,J.2.2.1,J.2.2.2⟩⟩;rw[aB g398];cases ar with
     |true=>
      have d:v.base=false:=by cases e:v.base with|false=>rfl|true=>exact absurd ⟨rfl,e⟩ F
      simp[d]at A B C G;simp(disch:=omega)[-getElem?_pos,g398,c,g,f,k2,j,m,k,d,g398L0e,A,g398L1e,B,g398L2e,C,G]
     |false=>simp(disch:=omega)[-getElem?_pos,g398,c,g,f,k2,j,m,k,g398L0e,A,g398L1e,B,g398L2e,C,G]
def D3{d:Int->Nat}(hr:∀i v,Edge F i v->d v<d i):∀(m:Nat)(t:Ty),dr F (wk F m t)≠none->∃(i:Nat)(l:List Nat),t.kind=1/\t.id=i/\l.length=m/\(i::l).Pairwise (fun a b:Nat=>d (b:Int)<d (a:Int))/\∀a∈i::l,a<F.length
 |0,t,h=>by
  cases c:dr F t with
  |none=>exact absurd c h
  |some x=>
   obtain⟨k,i,hi,hx,_⟩:=cq c;have hl:i<F.length:=by obtain⟨h,_⟩:=zaa.1 hx;exact h
   exact⟨i,[],k,hi,rfl,by simp,by simpa using hl⟩
 |m+1,t,h=>by
  cases c:dr F t with
  |none=>
   have:wk F (m+1) t=t:=by simp[wk,c]
   rw[this]at h;exact absurd c h
  |some x=>
   obtain⟨k,i,hi,hx,g⟩:=cq c;have hl:i<F.length:=by obtain⟨h,_⟩:=zaa.1 hx;exact h
   have e:wk F (m+1) t=wk F m x.ty:=(by simp[wk,c]);rw[e]at h;obtain⟨j,l,k2,hj,hn,hp,n⟩:=D3 hr m x.ty h;have o:Edge F (i:Int) (j:Int):=⟨i,x,rfl,hx,g,by rw[<-hj];exact .var k2⟩;have f:=hr _ _ o;refine⟨i,j::l,k,hi,by simp[hn],?_,?_⟩
   .rw[List.pairwise_cons];refine⟨?_,hp⟩;intro b c;simp only[zah]at c;rcases c with rfl|c
    .exact f
    .have:=(List.pairwise_cons.1 hp).1 b c;omega
   .intro a hm;simp only[zah]at hm;rcases hm with rfl|hm
    .exact hl
    .exact n a (by simpa using hm)
theorem mB(h:xS F){t:Ty}:dr F (dY F t)=none:=by
 obtain⟨f,hr⟩:=h;cases c:dr F (dY F t)with
 |none=>rfl
 |some x=>
  exfalso;obtain⟨i,l,_,_,hl,hp,d⟩:=D3 hr (F.length+1) t (by unfold dY at c;rw[c];simp);have hd:(i::l).Nodup:=hp.imp (fun{a b} h e=>by rw[e]at h;omega);have:=fh hd (S:=List.range F.length) (fun a h=>by simpa using d a h);simp at this;omega
def ng{S:List Int}(hs:∀x∈F,∀w,cf x.ty w->w∈S):∀{m:Nat}{t:Ty},(∀w,cf t w->w∈S)->∀w,cf (wk F m t) w->w∈S
 |0,t,h=>h
 |m+1,t,h=>by
  unfold wk;split
  .rename_i x hx;obtain⟨_,i,_,hi,_⟩:=cq hx;exact ng hs (hs x (aM hi))
  .exact h
variable{s':List Sl}{x:Ty}
def fJ(h:Ext F s')(hs:Sat r s'):Sat r F:=fun i x hx b=>by
 obtain⟨y,hy,a,e⟩:=h.bd i x hx b;rw[<-e];exact hs i y hy a
def Ua.step{i:Nat}{x y a b:Ty}{s d c:List Sl}(h:Ua i x y s d)(l:Ext d c)(k:x.args[i]?=some a)(g:y.args[i]?=some b)(u:Uv a b d c):Ua (i+1) x y s c:=by
 refine⟨fun r hr j p q hj hp f=>?_,fun W hC hx hy=>?_⟩
 .by_cases e:j=i
  .subst e;rw[k]at hp;rw[g]at f;cases hp;cases f;exact u.snd r hr
  .exact h.1 r (fJ l hr) j p q (by omega) hp f
 .obtain⟨c1,m1⟩:=h.2 W hC hx hy;obtain⟨c2,m2⟩:=u.YD W c1 (hx a (aM k)) (hy b (aM g));exact⟨c2,m1.trans m2⟩
def Jw(h1:x.kind=y.kind)(h2:x.name=y.name)(h3:x.id=y.id)(h4:x.home=y.home)(h5:x.args.length=y.args.length)(h:∀(j:Nat) a b,j<x.args.length->x.args[j]?=some a->y.args[j]?=some b->a.ev r=b.ev r):x.ev r=y.ev r:=by
 rw[Ty.bE,Ty.bE r y,h1,h2,h3,h4]
 have:x.args.map (Ty.ev r)=y.args.map (Ty.ev r):=by
  apply zbW
  intro j;rw[zbb,zbb];by_cases q:j<x.args.length
  .obtain⟨a,d⟩:=aR q;obtain⟨b,c⟩:=aR (l:=y.args) (i:=j) (by omega);rw[d,c,zaZ,zaZ,h j a b q d c]
  .rw[zaX (by omega),zaX (by omega)]
 rw[this]
def uY{W:Int->Prop}(hw:g.Kw)(h:gY W g):∀z∈g.args,gY W z:=by
 intro z a;refine⟨fun w b=>?_,h.2.df z a⟩;by_cases k:g.kind=1
 .rw[hw.var k]at a;cases a
 .exact h.1 w (.arg k a b)
def aa7(hx:x.Ok)(r:x.args.length=y.args.length)
   (H:∀s',Inv n M S s'->(s'=s\/ub s'.sl<ub s.sl)->∀(i:Nat) a b,x.args[i]?=some a->y.args[i]?=some b->∃d e,(aE AP).p 391 [s'.pv,a.pv,b.pv]=some [d.pv,vI e]/\UR n M S s' d (fun _ D=>yp D b) (Uv a b) e):
   ∀(m i:Nat),x.args.length-i=m->i<=x.args.length->∀(s':cK)(e:Int),UR n M S s s' (fun _ D=>yp D y) (Ua i x y) e->∃(d:cK)(e2:Int)(o:Nat),
   cl AP g391L0 ⟨[(3,.au 3 0),(6,.au 6 0),(8,.au 8 0),(9,.au 9 0),(10,.pv (vI e)),(11,.pv (vI i))],[(3,sC s'),(6,zS),(8,tC x),(9,tC y)],[],[0,0]⟩=
     some (.exit 1,⟨[(3,.au 3 0),(6,.au 6 0),(8,.au 8 0),(9,.au 9 0),(10,.pv (vI e2)),(11,.pv (vI o)),(109,.pv (.bool false))],[(3,sC d),(6,zS),(8,tC x),(9,tC y)],[],[0,0]⟩)/\UR n M S s d (fun _ D=>yp D y) (Ua x.args.length x y) e2
 |0,i,hm,hi,s',e,h=>by
  have:i=x.args.length:=by omega
  subst this;refine⟨s',e,x.args.length,?_,h⟩;rw[g391L0e];simp[g391B0,sC,tC,zS]
 |m+1,i,hm,hi,s',e,h=>by
  have hi:i<x.args.length:=(by omega);obtain⟨a,z⟩:=aR hi;have f:i<y.args.length:=(by omega);obtain⟨b,k⟩:=aR f;have w:=hx.sm;unfold Sm at w;by_cases j:e=0
  .obtain⟨I,hu,v,u,t⟩:=h j;obtain⟨A,e1,c,h1⟩:=H s' I hu i a b z k
   have h2:UR n M S s A (fun _ D=>yp D y) (Ua (i+1) x y) e1:=fun q=>by
    obtain⟨J,l,B,E,C⟩:=h1 q;refine⟨J,?_,v.trans B,fun ht D g H=>E ht D (g.c b (aM k)) (u ht D g H),t.step B z k C⟩;rcases l with rfl|l
    .exact hu
    .rcases hu with rfl|hu
     .exact .inr l
     .exact .inr (by omega)
   obtain⟨d,e2,o,eq,h3⟩:=aa7 hx r H m (i+1) (by omega) (by omega) A e1 h2;refine⟨d,e2,o,?_,h3⟩;rw[g391L0e]at eq⊢;simp[sC,tC,zS]at eq;simp at c;simp(disch:=omega)[-getElem?_pos,g391B0,sC,tC,zS,hi,f,z,k,j,c,aq];rw[g391L0e];simp[eq]
  .refine⟨s',e,i,?_,fun q=>absurd q j⟩;rw[g391L0e];simp(disch:=omega)[-getElem?_pos,g391B0,sC,tC,zS,hi,j]
def qv(h:pK F g=true):g.kind=1/\∃i:Nat,g.id=i/\i<F.length:=by
 simp[pK]at h;exact⟨h.1,g.id.toNat,by omega,by omega⟩
def pN(hs:∀x∈F,x.ty.Kw):∀{m:Nat}{t:Ty},t.Kw->(wk F m t).Kw
 |0,t,h=>h
 |m+1,t,h=>by
  unfold wk;split
  .rename_i x hx;obtain⟨_,i,_,hi,_⟩:=cq hx;exact pN hs (hs x (aM hi))
  .exact h
def rB(hs:∀x∈F,x.bd=true->p.v x.ty):∀{m:Nat}{t:Ty},p.v t->p.v (wk F m t)
 |0,t,h=>h
 |m+1,t,h=>by
  unfold wk;split
  .rename_i x hx;obtain⟨_,i,_,hi,a⟩:=cq hx;exact rB hs (hs x (aM hi) a)
  .exact h
def Uf(h:¬g.kind=1):dY F g=g:=by
 unfold dY wk dr;simp[h]
def aa8(I:Inv n M S s)(hn:n<=1000000)(hM:M<=1100000000000)(hf:S.ids.length<1099511627776)(Y:∀w∈S,0<=w)(N:a.Ok)(F:b.Ok)(wa:a.Kw)(wb:b.Kw)(va:S.p.v a)(vb:S.p.v b)(oa:∀w,cf a w->w∈S)(ob:∀w,cf b w->w∈S)(z:(aE AP).p 355 [s.pv,a.pv,vI (200:Nat)]=some [vI tm])
   (H:tm<=200->∀s',Inv n M S s'->(s'=s\/ub s'.sl<ub s.sl)->∀(i:Nat) x y,(dY s.sl a).args[i]?=some x->(dY s.sl b).args[i]?=some y->∃s2 e,(aE AP).p 391 [s'.pv,x.pv,y.pv]=some [s2.pv,vI e]/\UR n M S s' s2 (fun _ D=>yp D y) (Uv x y) e):
   ∃s' e,(aE AP).p 391 [s.pv,a.pv,b.pv]=some [s'.pv,vI e]/\UR n M S s s' (fun _ D=>yp D b) (Uv a b) e:=by
 have hl:=I.len;have R:Sm s.sl:=by unfold Sm;omega
 obtain⟨r2,k2,_,_,_⟩:=c355 R I.ok (m:=200) (by omega) F;have u:=c386 R (t:=a);have o:=c386 R (t:=b);have xf:=mB I.rz (t:=a);have yf:=mB I.rz (t:=b);have xO:(dY s.sl a).Ok:=pJ I.ok N;have yO:(dY s.sl b).Ok:=pJ I.ok F;have xo:∀w,cf (dY s.sl a) w->w∈S:=ng (S:=S.ids) I.gZ oa;have yo:∀w,cf (dY s.sl b) w->w∈S:=ng (S:=S.ids) I.gZ ob
 change (aE AP).p 386 [s.pv,a.pv]=some [(dY s.sl a).pv]at u
 change (aE AP).p 386 [s.pv,b.pv]=some [(dY s.sl b).pv]at o
 have xw:(dY s.sl a).Kw:=pN I.wf wa;have yw:(dY s.sl b).Kw:=pN I.wf wb;have xv:S.p.v (dY s.sl a):=rB I.vn va;have yv:S.p.v (dY s.sl b):=rB I.vn vb;have xe:∀r s',Ext s.sl s'->Sat r s'->a.ev r=(dY s.sl a).ev r:=fun r s' X h=>(Jr (fJ X h) _ a).symm
 have Z:∀r s',Ext s.sl s'->Sat r s'->b.ev r=(dY s.sl b).ev r:=fun r s' X h=>(Jr (fJ X h) _ b).symm;have xW:∀W,nI W s.sl->gY W a->gY W (dY s.sl a):=fun W C h=>Js C _ a h
 have yW:∀W,nI W s.sl->gY W b->gY W (dY s.sl b):=fun W C h=>Js C _ b h;have L:∀D,yp D b->dY s.sl b=b:=fun D g=>Uf fun q=>g.1.h q
 generalize dY s.sl a=x at*;generalize dY s.sl b=y at*;have l:=c396 (s:=s) (t:=x);have k:=c396 (s:=s) (t:=y);simp at z k2 u o;by_cases h1:200<tm
 .refine⟨s,15,?_,by intro h;cases h⟩;have d:(200:Int)<tm:=by omega
  rw[aB g391];simp[g391,z,d]
 .have d:¬(200:Int)<tm:=(by omega);have H:=H (by omega);by_cases h2:200<r2
  .refine⟨s,15,?_,by intro h;cases h⟩;have f:(200:Int)<r2:=by omega
   rw[aB g391];simp[g391,z,k2,d,f]
  .have f:¬(200:Int)<r2:=(by omega);cases sx:pK s.sl x with
   |true=>
    obtain⟨T,i,G,hi⟩:=qv sx;have fi:¬jR s.sl (i:Int):=by rw[<-G];exact iF T xf
    rw[sx]at l;cases P:pK s.sl y with
    |true=>
     obtain⟨B,j,A,hj⟩:=qv P;have fj:¬jR s.sl (j:Int):=by rw[<-A];exact iF B yf
     rw[P]at k;obtain⟨s',c,J⟩:=c397 I hn hM G A (by omega) (by omega) fi fj (by rw[<-G];exact xo _ (.var T)) (by rw[<-A];exact yo _ (.var B));refine⟨s',0,?_,fun _=>⟨J.1,J.2.1,J.2.2.1,fun ht D g=>absurd B (by rw[L D g];exact g.1.h),fun r hr=>by rw[xe r _ J.2.2.1 hr,Z r _ J.2.2.1 hr,gQ T,gQ B,G,A];exact J.2.2.2.1 r hr,fun W C N F=>J.2.2.2.2 W C (by rw[<-G];exact(xW W C N).1 _ (.var T)) (by rw[<-A];exact(yW W C F).1 _ (.var B))⟩⟩;simp at l k c;rw[aB g391];simp[g391,z,k2,u,o,l,k,d,f,c]
    |false=>
     rw[P]at k;obtain⟨s',e,c,J⟩:=c398 I hn hM hf Y (by omega) fi yO yw yv yo;refine⟨s',e,?_,fun q=>⟨(J q).1,(J q).2.1,(J q).2.2.1,fun ht D g H=>(J q).2.2.2.1 ht D ?_ H,fun r hr=>by rw[xe r _ (J q).2.2.1 hr,Z r _ (J q).2.2.1 hr,gQ T,G];exact(J q).2.2.2.2.1 r hr,fun W C N F=>(J q).2.2.2.2.2 W C (by rw[<-G];exact(xW W C N).1 _ (.var T)) (yW W C F)⟩⟩
     rotate_left
     .have h1:=g.2 ht;rw[L D g];obtain⟨v,hv⟩:=aR hi;have h2:=H i v hv;rw[o9 hv fi]at h2;simp at h2;omega
     simp[G]at u l k c;rw[aB g391];simp[g391,z,k2,u,o,l,k,d,f,G,c]
   |false=>
    rw[sx]at l;cases P:pK s.sl y with
    |true=>
     obtain⟨B,j,A,hj⟩:=qv P;have fj:¬jR s.sl (j:Int):=by rw[<-A];exact iF B yf
     rw[P]at k;obtain⟨s',e,c,J⟩:=c398 I hn hM hf Y (by omega) fj xO xw xv xo;refine⟨s',e,?_,fun q=>⟨(J q).1,(J q).2.1,(J q).2.2.1,fun ht D g=>absurd B (by rw[L D g];exact g.1.h),fun r hr=>by rw[xe r _ (J q).2.2.1 hr,Z r _ (J q).2.2.1 hr,gQ B,A];exact((J q).2.2.2.2.1 r hr).symm,fun W C N F=>(J q).2.2.2.2.2 W C (by rw[<-A];exact(yW W C F).1 _ (.var B)) (xW W C N)⟩⟩;simp[A]at o l k c;rw[aB g391];simp[g391,z,k2,u,o,l,k,d,f,A,c]
    |false=>
     rw[P]at k;simp at l k;by_cases q:x.kind=y.kind/\x.name=y.name/\x.id=y.id/\x.home=y.home/\x.args.length=y.args.length
     .obtain⟨E,K,O,Q,V⟩:=q;obtain⟨s2,e2,i2,eq,U⟩:=aa7 xO V H _ 0 rfl (by omega) s 0 (fun _=>⟨I,.inl rfl,.refl _,fun _ _ _ h=>h,fun _ _ j _ _ h=>absurd h (by omega),fun _ C _ _=>⟨C,.refl⟩⟩);refine⟨s2,e2,?_,fun q=>⟨(U q).1,(U q).2.1,(U q).2.2.1,fun ht D g=>(U q).2.2.2.1 ht D (by rw[L D g];exact g),fun r hr=>by rw[xe r _ (U q).2.2.1 hr,Z r _ (U q).2.2.1 hr];exact Jw E K O Q V ((U q).2.2.2.2.1 r hr),fun W C N F=>(U q).2.2.2.2.2 W C (uY xw (xW W C N)) (uY yw (yW W C F))⟩⟩;rw[g391L0e]at eq;simp[sC,tC,zS]at eq;rw[aB g391];simp[g391,z,k2,u,o,l,k,d,f];simp only[E,K,O,Q,V]at*;simp[g391L0e,eq]
     .refine⟨s,11,?_,by intro h;cases h⟩;rw[aB g391];by_cases E:x.kind=y.kind
      .have p1:=eq_true E;by_cases K:x.name=y.name
       .have p2:=eq_true K;by_cases O:x.id=y.id
        .have p3:=eq_true O;by_cases Q:x.home=y.home
         .have p4:=eq_true Q;have V:¬x.args.length=y.args.length:=fun e=>q ⟨E,K,O,Q,e⟩
          have q6:¬(x.args.length:Int)=y.args.length:=(by omega);clear q E K O Q;simp[g391,z,k2,u,o,l,k,d,f,p1,p2,p3,p4,V,q6]
         .clear q E K O;simp[g391,z,k2,u,o,l,k,d,f,p1,p2,p3,Q]
        .clear q E K;simp[g391,z,k2,u,o,l,k,d,f,p1,p2,O]
       .clear q E;simp[g391,z,k2,u,o,l,k,d,f,p1,K]
      .simp[g391,z,k2,u,o,l,k,d,f,E]
def uZ(hw:g.Kw)(h:∀w,cf g w->w∈S):∀z∈g.args,∀w,cf z w->w∈S:=by
 intro z a w b;by_cases k:g.kind=1
 .rw[hw.var k]at a;cases a
 .exact h w (.arg k a b)
def YE(n M:Nat)(S:Sg)(s:cK):Prop:=∀a b:Ty,a.Ok->b.Ok->a.Kw->b.Kw->S.p.v a->S.p.v b->(∀w,cf a w->w∈S)->(∀w,cf b w->w∈S)->∃c e,(aE AP).p 391 [s.pv,a.pv,b.pv]=some [c.pv,vI e]/\UR n M S s c (fun _ D=>yp D b) (Uv a b) e
def c391r(I:Inv n M S s)(hn:n<=1000000)(N:M<=1100000000000)(hf:S.ids.length<1099511627776)(k:∀w∈S,0<=w)
   (O:∀s':cK,ub s'.sl<ub s.sl->Inv n M S s'->YE n M S s') (r:Nat):
   ∀a b:Ty,Tr s.sl a r->a.Ok->b.Ok->a.Kw->b.Kw->S.p.v a->S.p.v b->(∀w,cf a w->w∈S)->(∀w,cf b w->w∈S)->∃F e,(aE AP).p 391 [s.pv,a.pv,b.pv]=some [F.pv,vI e]/\UR n M S s F (fun _ D=>yp D b) (Uv a b) e:=by
 induction r using Nat.strongRecOn with
 |ind r L=>
  intro a b ht j J B wb E C H G;have hl:=I.len;have g:Sm s.sl:=by unfold Sm;omega
  obtain⟨r1,K,_,_,_⟩:=c355 g I.ok (m:=200) (by omega) j;obtain⟨ns,hT,hr⟩:=ht.inv;have A:(dY s.sl a).Ok:=pJ I.ok j;have t:(dY s.sl b).Ok:=pJ I.ok J;have f:(dY s.sl a).Kw:=pN I.wf B;have d:(dY s.sl b).Kw:=pN I.wf wb;have u:=S.p.df _ (rB (m:=s.sl.length+1) I.vn E:S.p.v (dY s.sl a));have o:=S.p.df _ (rB (m:=s.sl.length+1) I.vn C:S.p.v (dY s.sl b));have z:=uZ f (ng (S:=S.ids) I.gZ H:∀w,cf (dY s.sl a) w->w∈S);have q:=uZ d (ng (S:=S.ids) I.gZ G:∀w,cf (dY s.sl b) w->w∈S);refine aa8 I hn N hf k j J B wb E C H G K ?_;intro _ s' P hu i x y hx hy;have hi:i<(dY s.sl a).args.length:=by obtain⟨h,_⟩:=zaa.1 hx;exact h
  have mx:=aM hx;have c:=aM hy;rcases hu with rfl|hu
  .obtain⟨m,hm⟩:=aR (l:=ns) (i:=i) (by rw[hT.1];exact hi);have:=A6 hm;exact L m (by omega) x y (hT.2 i x m hx hm) (A.df x mx) (t.df y c) (f.df x mx) (d.df y c) (u x mx) (o y c) (z x mx) (q y c)
  .exact O s' hu P x y (A.df x mx) (t.df y c) (f.df x mx) (d.df y c) (u x mx) (o y c) (z x mx) (q y c)
def c391(hn:n<=1000000)(K:M<=1100000000000)(hf:S.ids.length<1099511627776)(d:∀w∈S,0<=w)(u:Nat):∀s:cK,ub s.sl=u->Inv n M S s->YE n M S s:=by
 induction u using Nat.strongRecOn with
 |ind u N=>
  intro s hu I a b q J D wb F E H G;have hl:=I.len;have o:Sm s.sl:=by unfold Sm;omega
  have f:∀s':cK,ub s'.sl<ub s.sl->Inv n M S s'->YE n M S s':=fun s' h g=>N _ (by omega) s' rfl g;obtain⟨r1,L,_,_,ht⟩:=c355 o I.ok (m:=200) (by omega) q;have C:(dY s.sl a).Ok:=pJ I.ok q
  have z:(dY s.sl b).Ok:=pJ I.ok J;have k:(dY s.sl a).Kw:=pN I.wf D;have j:(dY s.sl b).Kw:=pN I.wf wb;have A:=S.p.df _ (rB (m:=s.sl.length+1) I.vn F:S.p.v (dY s.sl a));have r:=S.p.df _ (rB (m:=s.sl.length+1) I.vn E:S.p.v (dY s.sl b));have B:=uZ k (ng (S:=S.ids) I.gZ H:∀w,cf (dY s.sl a) w->w∈S);have t:=uZ j (ng (S:=S.ids) I.gZ G:∀w,cf (dY s.sl b) w->w∈S);refine aa8 I hn K hf d q J D wb F E H G L ?_;intro e s' g hu i x y hx hy;have hi:i<(dY s.sl a).args.length:=by obtain⟨h,_⟩:=zaa.1 hx;exact h
  have mx:=aM hx;have c:=aM hy;rcases hu with rfl|hu
  .obtain⟨ns,hT,hr⟩:=(ht e).inv;obtain⟨m,hm⟩:=aR (l:=ns) (i:=i) (by rw[hT.1];exact hi);exact c391r g hn K hf d f m x y (hT.2 i x m hx hm) (C.df x mx) (z.df y c) (k.df x mx) (j.df y c) (A x mx) (r y c) (B x mx) (t y c)
  .exact f s' hu g x y (C.df x mx) (z.df y c) (k.df x mx) (j.df y c) (A x mx) (r y c) (B x mx) (t y c)
structure Fit(S:Sg)(t:Ty):Prop where
 ok:t.Ok
 wf:t.Kw
 gZ:∀w,cf t w->w∈S
 vn:S.p.v t
structure Num(n M:Nat)(S:Sg):Prop where
 n:n<=1000000
 m:M<=1100000000000
 ym:S.ids.length<1099511627776
 nn:∀w∈S,0<=w
def c385h(N:Num n M S)(I:Inv n M S s)(g:Fit S a)(f:Fit S b):∃s' e,(aE AP).p 385 [s.pv,a.pv,b.pv]=some [s'.pv,vI e]/\Inv n M S s'/\Ext s.sl s'.sl/\(∀ht D,yp D b->Ht ht D s.sl->Ht ht D s'.sl)/\(e=0->Uv a b s.sl s'.sl):=by
 obtain⟨s',e,c,U⟩:=c391 N.n N.m N.ym N.nn _ s rfl I a b g.ok f.ok g.wf f.wf g.vn f.vn g.gZ f.gZ;simp at c;by_cases d:e=0
 .refine⟨s',0,?_,(U d).1,(U d).2.2.1,(U d).2.2.2.1,fun _=>(U d).2.2.2.2⟩;subst d;rw[aB g385];simp[g385,c]
 .refine⟨s,e,?_,I,.refl _,fun _ _ _ h=>h,fun q=>absurd q d⟩;rw[aB g385];simp[g385,c,d]
def c385(N:Num n M S)(I:Inv n M S s)(f:Fit S a)(d:Fit S b):∃s' e,(aE AP).p 385 [s.pv,a.pv,b.pv]=some [s'.pv,vI e]/\Inv n M S s'/\Ext s.sl s'.sl/\(e=0->Uv a b s.sl s'.sl):=by
 obtain⟨s',e,c,h1,h2,_,h3⟩:=c385h N I f d;exact⟨s',e,c,h1,h2,h3⟩
def Qv(I:Inv n M S s){x:Sl}(a:s.sl[i]?=some o)(c:x.bd=o.bd)(ht:x.ty=o.ty):Inv n (M+1) S (fH s i o x) where
 len:=by rw[bL,zbJ,I.len]
 Sr:=by rw[o8,bL,uX a c];have:=I.Sr;omega
 ok:=by
  intro y hy;rw[bL]at hy;rcases mem_set hy with rfl|hy
  .rw[ht];exact I.ok o (aM a)
  .exact I.ok y hy
 gZ:=by
  intro y hy;rw[bL]at hy;rcases mem_set hy with rfl|hy
  .rw[ht];exact I.gZ o (aM a)
  .exact I.gZ y hy
 rz:=by rw[bL];exact DS I.rz a c ht
 wf:=by
  intro y hy;rw[bL]at hy;rcases mem_set hy with rfl|hy
  .rw[ht];exact I.wf o (aM a)
  .exact I.wf y hy
 vn:=by
  intro y hy b;rw[bL]at hy;rcases mem_set hy with rfl|hy
  .rw[ht];exact I.vn o (aM a) (by rw[<-c];exact b)
  .exact I.vn y hy b
def Inv.bS{S':Sg}(I:Inv n M S s)(h:M<=i)(hS:∀w∈S,w∈S')(hp:S'.p=S.p:=by rfl):Inv n i S' s:=⟨I.len,by have:=I.Sr;omega,I.ok,fun x hx w b=>hS w (I.gZ x hx w b),I.rz,I.wf,by rw[hp];exact I.vn⟩
def c394(N:Num n M S)(hS:∀w∈S,w<n)(I:Inv n M S s){t:Ty}(j:Fit S t):∃s',(aE AP).p 394 [s.pv,t.pv]=some [s'.pv]/\Inv n (M+1) S s'/\Ext s.sl s'.sl/\∀ht D,Ht ht D s.sl->Ht ht D s'.sl:=by
 have hl:=I.len;have hn:=N.n;have q:=N.m;have e:Sm s.sl:=by unfold Sm;omega
 have d:=c386 e (t:=t);have g:∀w,cf (wk s.sl (s.sl.length+1) t) w->w∈S:=ng (S:=S.ids) I.gZ j.gZ;generalize wk s.sl (s.sl.length+1) t=x at*;by_cases k:x.kind=1
 .have f:=g _ (.var k);have h0:=N.nn _ f;have h1:=hS _ f;obtain⟨i,hi⟩:∃i:Nat,x.id=i:=⟨x.id.toNat,by omega⟩;have b:i<s.sl.length:=(by omega);obtain⟨o,a⟩:=aR b;have c:=c393 I.Qt hn (by omega) a ⟨o.bd,o.ty,o.home,true⟩;refine⟨_,?_,Qv I a (x:=⟨o.bd,o.ty,o.home,true⟩) rfl rfl,Ext.set a (.inr ⟨rfl,rfl⟩),fun ht D h=>h.set a rfl rfl⟩;generalize fH s i o ⟨o.bd,o.ty,o.home,true⟩=l at*;simp[k,hi]at d;simp at c;rw[aB g394];simp(disch:=omega)[-getElem?_pos,g394,d,b,a,c]
 .refine⟨s,?_,I.bS (by omega) (fun _ h=>h),.refl _,fun _ _ h=>h⟩;simp at d;rw[aB g394];simp[g394,d,k]
def eL(p:Vp)(n:Nat):Sg:=⟨(List.range n).map fun k:Nat=>(k:Int),p⟩
abbrev mC(n:Nat):Sg:=eL .all n
def db{w:Int}:w∈eL p n<->0<=w/\w<n:=by
 change w∈(List.range n).map (fun k:Nat=>(k:Int))<->_
 simp only[zak,List.mem_range];constructor
 .rintro⟨k,h,rfl⟩;omega
 .intro h;exact⟨w.toNat,by omega,by omega⟩
def Ug(hn:n<=1000000)(a:M<=1100000000000):Num n M (eL p n):=⟨hn,a,by simp[eL];omega,fun w h=>(db.1 h).1⟩
def sM(I:Inv n M (eL p n) s)(home:Int)(b:Bool)(f:M+ub s.sl+n+4<=i):Inv (n+1) i (eL p (n+1)) (a7 s home b) where
 len:=by simp[a7,I.len]
 Sr:=by
  have:=I.Sr;have hu:ub (a7 s home b).sl=ub s.sl+1:=by simp[a7,ub,List.countP_append]
  have ht:(a7 s home b).tr.length=s.tr.length+1:=(by simp[a7]);rw[hu,ht];have:(n+1+2)*(ub s.sl+1)=(n+2)*ub s.sl+ub s.sl+n+3:=(by rw[zb9,Nat.add_right_comm n 1 2,zaG (n+2) 1];omega);omega
 ok:=by
  intro x hx;simp[a7]at hx;rcases hx with hx|rfl
  .exact I.ok x hx
  .exact bw rfl
 gZ:=by
  intro x hx w a;simp[a7]at hx;rcases hx with hx|rfl
  .have:=db.1 (I.gZ x hx w a);exact db.2 (by omega)
  .cases a with
   |var q=>simp[cA]at q
   |arg _ e _=>simp[cA]at e
 rz:=Qf I.rz rfl
 wf:=by
  intro x hx;simp[a7]at hx;rcases hx with hx|rfl
  .exact I.wf x hx
  .exact⟨by simp[cA],by simp[cA],by simp[cA]⟩
 vn:=by
  intro x hx c;simp[a7]at hx;rcases hx with hx|rfl
  .exact I.vn x hx c
  .cases c
def D8(d:Dt):Prop:=d.params.length<=8/\0<d.cons.length/\d.cons.length<=8/\∀c∈d.cons,c.fields.length<=8
def YF:∀d∈br,D8 d:=by
 intro d hd;simp[br]at hd;rcases hd with rfl|rfl|rfl|rfl|rfl|rfl|rfl<;>simp[D8]
structure IsC(e:Ex)(C:List AV):Prop where
 len:C.length=11
 leaf:C.all a9=true
 eQ:∀sh,eY sh C=some e.cells
 flat:bB.ep C=true
 pO:iD C=true
def ib(f:Bool)(l:List PV):AV:=if f then .dm l else .pv (.ae l)
def j8(a c b:Bool)(e:Ex):List AV:=[.pv (vI e.kind),.pv (vI e.pos),.pv (.str e.name),.pv (vI e.num),ib a (e.kids.map Ex.pv),ib c (e.aF.map Ar.pv),.pv (vI e.ty.kind),.pv (.str e.ty.name),.pv (vI e.ty.id),.pv (vI e.ty.home),ib b (e.ty.args.map Ty.pv)]
def lp(a c b:Bool)(e:Ex):IsC e (j8 a c b e):=by
 refine⟨rfl,?_,?_,?_,?_⟩
 .cases a<;>cases c<;>cases b<;>rfl
 .intro sh;rw[Ex.aG];cases a<;>cases c<;>cases b<;>simp[j8,ib]
 .cases a<;>cases c<;>cases b<;>simp[j8,ib]
 .cases a<;>cases c<;>cases b<;>simp[j8,ib]
structure Ho where
 bind:Int
 pos:Int
 ctx:List En
 goal:Ty
def Ho.pv(h:Ho):PV:=.agg [vI h.bind,vI h.pos,.ae (h.ctx.map En.pv),vI h.goal.kind,.str h.goal.name,vI h.goal.id,vI h.goal.home,.ae (h.goal.args.map Ty.pv)]
@[simp] theorem Ho.lM(h:Ho):h.pv=.agg [.int .i64 h.bind,.int .i64 h.pos,.ae (h.ctx.map En.pv),.int .i64 h.goal.kind,.str h.goal.name,.int .i64 h.goal.id,.int .i64 h.goal.home,.ae (h.goal.args.map Ty.pv)]:=rfl
def Wm:El Ho.pv 8 true:=⟨fun _=>by simp,fun _=>by simp⟩
@[simp] theorem M5{z:List Ho}:bj 8 (z.map Ho.pv)=true:=Wm.head z
structure Dv where
 ty:Ty
 inst:List Ty
 gen:List Int
 kids:List Dv
instance:Inhabited Dv:=⟨⟨cA,[],[],[]⟩⟩
mutual
def Dv.cells:Dv->List PV
 |⟨t,i,g,ks⟩=>[vI t.kind,.str t.name,vI t.id,vI t.home,.ae (t.args.map Ty.pv),.ae (i.map Ty.pv),.ae (g.map vI),.ae (Dv.eE ks)]
def Dv.eE:List Dv->List PV
 |[]=>[]
 |d::r=>.agg (Dv.cells d)::Dv.eE r
end
def Dv.pv(d:Dv):PV:=.agg d.cells
def Dv.lL:∀l:List Dv,Dv.eE l=l.map Dv.pv
 |[]=>by simp[Dv.eE]
 |e::r=>by simp[Dv.eE,Dv.lL r,Dv.pv]
def Dv.aG(d:Dv):d.cells=[.int .i64 d.ty.kind,.str d.ty.name,.int .i64 d.ty.id,.int .i64 d.ty.home,.ae (d.ty.args.map Ty.pv),.ae (d.inst.map Ty.pv),.ae (d.gen.map vI),.ae (d.kids.map Dv.pv)]:=by
 cases d;simp only[Dv.cells,Dv.lL]
@[simp] theorem Dv.lM(d:Dv):d.pv=.agg [.int .i64 d.ty.kind,.str d.ty.name,.int .i64 d.ty.id,.int .i64 d.ty.home,.ae (d.ty.args.map Ty.pv),.ae (d.inst.map Ty.pv),.ae (d.gen.map vI),.ae (d.kids.map Dv.pv)]:=by
 rw[Dv.pv,Dv.aG]
def aa9:El Dv.pv 8 true:=⟨fun _=>by simp,fun _=>by simp⟩
@[simp] theorem ZR{l:List Dv}:bj 8 (l.map Dv.pv)=true:=aa9.head l
def mD(a b c k:Bool)(d:Dv):List AV:=[.pv (vI d.ty.kind),.pv (.str d.ty.name),.pv (vI d.ty.id),.pv (vI d.ty.home),ib a (d.ty.args.map Ty.pv),ib b (d.inst.map Ty.pv),ib c (d.gen.map vI),ib k (d.kids.map Dv.pv)]
structure IsD(d:Dv)(C:List AV):Prop where
 len:C.length=8
 leaf:C.all a9=true
 eQ:∀sh,eY sh C=some d.cells
 flat:bB.ep C=true
 pO:iD C=true
 kill:C.flatMap tR=[]
def iH(a b c k:Bool)(d:Dv):IsD d (mD a b c k d):=by
 refine⟨rfl,?_,?_,?_,?_,?_⟩
 .cases a<;>cases b<;>cases c<;>cases k<;>rfl
 .intro sh;rw[Dv.aG];cases a<;>cases b<;>cases c<;>cases k<;>simp[mD,ib]
 .cases a<;>cases b<;>cases c<;>cases k<;>simp[mD,ib]
 .cases a<;>cases b<;>cases c<;>cases k<;>simp[mD,ib]
 .cases a<;>cases b<;>cases c<;>cases k<;>rfl
structure Mc where
 ds:List Dt
 home:Int
 s:cK
 err:Int
 pos:Int
 rc:List Ho
 hd:List Bool
def Mc.cells(m:Mc):List AV:=[.pv (.ae (m.ds.map Dt.pv)),.pv (vI m.home),.pv (.ae (m.s.sl.map Sl.pv)),.pv (.ae (m.s.tr.map Ch.pv)),.pv (vI m.err),.pv (vI m.pos),.own (m.rc.map Ho.pv) 0,.own (m.hd.map .bool) 1]
def Mc.sh(m:Mc):Sh:=[some m.cells]
def Mc.tk(m:Mc):aH:=[m.rc.length,m.hd.length]
def Jy(l:List Bool):bj 1 (l.map PV.bool)=true:=by cases l<;>simp[bj]
def jc(g:Nat)(args:List AV)(m:Mc)(rs:List AV)(m':Mc):Prop:=(aE AP).i g (.aL 0 0::args) m.sh m.tk=some (rs,m'.sh,m'.tk)
abbrev qF(n:Nat)(s:cK):Prop:=Inv n (n*n+4*n) (mC n) s
def Wn(h:n<=1000000):n*n+4*n<=1000004000000:=by
 have:=zbX h h;omega
def qF.fresh(I:qF n s)(home:Int):qF (n+1) (a7 s home false):=by
 refine sM I home false ?_;have hu:ub s.sl<=n:=by have:=List.countP_le_length (p:=fun x:Sl=>!x.bd) (l:=s.sl);rw[I.len]at this;exact this
 have:(n+1)*(n+1)=n*n+2*n+1:=by rw[zaG,zb9];omega
 omega
def Ext.fresh(s:cK)(home:Int)(b:Bool):Ext s.sl (a7 s home b).sl:=⟨by simp[a7],fun k x hx a=>⟨x,by simp only[a7];rw[zao (zaa.1 hx).1];exact hx,a,rfl⟩⟩
def Uh(h:n<=1000000):Num n (n*n+4*n) (mC n):=Ug h (by have:=Wn h;omega)
variable{m:Mc}{s:bF}{S:List Int}{r:Nat}
def c367(I:qF n m.s)(hn:n<=1000000):jc 367 [] m [(az n).av] {m with s:=a7 m.s m.home false}:=by
 have e:=c381 I.Qt hn (by have:=Wn hn;omega) m.home false;rw[I.len]at e;unfold jc;rw[aC g367];simp[az]at e;simp[g367,Mc.sh,Mc.tk,Mc.cells,e,az]
abbrev eg(n:Nat)(t:Ty):Prop:=Fit (mC n) t
def c369(I:qF n m.s)(hn:n<=1000000)(i:eg n a)(g:eg n b)(p:Int):∃s' f p',jc 369 [.pv a.pv,.pv b.pv,.pv (vI p)] m [] {m with s:=s',err:=f,pos:=p'}/\qF n s'/\Ext m.s.sl s'.sl/\(f=0->m.err=0/\Uv a b m.s.sl s'.sl):=by
 obtain⟨s',e,c,j,x,U⟩:=c385 (Uh hn) I i g;unfold jc;simp at c;by_cases h:m.err=0
 .by_cases d:e=0
  .subst d;refine⟨s',0,m.pos,?_,j,x,fun _=>⟨h,U rfl⟩⟩;rw[aC g369];simp[g369,Mc.sh,Mc.tk,Mc.cells,h,c]
  .refine⟨m.s,e,p,?_,I,.refl _,fun q=>absurd q d⟩;rw[aC g369];simp[g369,Mc.sh,Mc.tk,Mc.cells,h,c,d]
 .refine⟨m.s,m.err,m.pos,?_,I,.refl _,fun q=>absurd q h⟩;rw[aC g369];simp[g369,Mc.sh,Mc.tk,Mc.cells,h]
def c384{env:List En}(a:Sm env)(e:Ex)(t:Ty)(hr:m.rc.length<=1000000)(hl:m.hd.length<=1000000):jc 384 [.pv (.ae (env.map En.pv)),.pv e.pv,.pv t.pv] m [] {m with rc:=m.rc++[⟨m.home,e.pos,aW env,t⟩],hd:=m.hd++[e.kind == 11]}:=by
 have k:=c201 a;have b1:(m.rc.length+1)*104<=140737488355328:=by omega
 have b:m.hd.length+1<=140737488355328:=by omega
 have h1:=Jy m.hd;unfold jc
 try simp at k
 rw[aC g384];simp[g384,Mc.sh,Mc.tk,Mc.cells,k,b1,b,h1]
def c223(hS:Sm X){y:bF}:(aE AP).p 223 [.ae (X.map .str),.str y]=some [vI (qp X y)]:=by
 rw[cIx Jh (k:=223) rfl hS];unfold qp;have:(fun x=>decide (y=x))=fun x:bF=>decide (x=y):=by funext x;exact decide_eq_decide.2 eq_comm
 rw[this]
mutual
def Ty.iV(l:List bF):Ty->Ty
 |⟨k,n,i,h,as⟩=>if k=5/\0<=qp l n then bm (qp l n)else⟨k,n,i,h,Ty.Qw l as⟩
def Ty.Qw(l:List bF):List Ty->List Ty
 |[]=>[]
 |a::r=>a.iV l::Ty.Qw l r
end
def Ty.D4(l:List bF):∀as:List Ty,Ty.Qw l as=as.map (Ty.iV l)
 |[]=>by simp[Ty.Qw]
 |a::r=>by simp[Ty.Qw,Ty.D4 l r]
def Ty.xg(l:List bF)(t:Ty):t.iV l=if t.kind=5/\0<=qp l t.name then bm (qp l t.name)else⟨t.kind,t.name,t.id,t.home,t.args.map (Ty.iV l)⟩:=by
 cases t;simp only[Ty.iV,Ty.D4]
def aba(hS:Sm u.args)(h:∀x∈u.args,(aE AP).p 197 [x.pv,.ae (X.map .str)]=some [(x.iV X).pv]):∀(n i:Nat),u.args.length-i=n->i<=u.args.length->∀d:List Ty,d=(u.args.take i).map (Ty.iV X)->
   cl AP g197L0 ⟨[(1,.pv (.ae (X.map .str))),(2,.au 2 0),(4,.au 4 0),(6,.bl 0 5 u.args.length true),(27,.pv (.ae (u.args.map Ty.pv))),(28,.pv (vI u.args.length)),(29,.pv (vI i))],
     [(2,u.cl),(4,[.pv (vI 0),.pv (.str []),.pv (vI 0),.pv (vI 0),.own [] 0])],[some (c_ d n)],[0]⟩=
   some (.exit 0,⟨[(1,.pv (.ae (X.map .str))),(2,.au 2 0),(4,.au 4 0),(6,.bl 0 5 u.args.length true),(27,.pv (.ae (u.args.map Ty.pv))),(28,.pv (vI u.args.length)),(29,.pv (vI u.args.length)),(30,.pv (.bool false))],
     [(2,u.cl),(4,[.pv (vI 0),.pv (.str []),.pv (vI 0),.pv (vI 0),.own [] 0])],[some (c_ (u.args.map (Ty.iV X)) 0)],[0]⟩)
 |0,i,hn,hi,d,hd=>by
  have:i=u.args.length:=by omega
  subst this;have j:d=u.args.map (Ty.iV X):=by simpa using hd
  subst j;have e:=aY.one (dE (d:=u.args.map (Ty.iV X)) (m:=0));rw[g197L0e];simp[g197B0,e.norm,Ty.cl]
 |n+1,i,hn,hi,d,hd=>by
  have hi:i<u.args.length:=(by omega);obtain⟨x,hx⟩:=aR hi;unfold Sm at hS;have g:d.length=i:=(by rw[hd];simp;omega);have e:=aY.one (dE (d:=d) (m:=n+1));have k:=h x (aM hx);have f:=aba hS h n (i+1) (by omega) (by omega) (d++[x.iV X]) (by rw[zaM,hx,hd];simp);have a:a_ (c_ d (n+1)) (i*5) (x.iV X).cl=c_ (d++[x.iV X]) n:=(by rw[<-g];exact rf);have b:i*5+5<=(c_ d (n+1)).length:=(by rw[iy];omega);have c:=aY.one (dE (d:=d++[x.iV X]) (m:=n));rw[g197L0e]at f⊢;simp[Ty.cl,c.norm]at f a k;simp(disch:=omega)[-getElem?_pos,g197B0,hx,hi,e.norm,e.shift,Ty.cl,k,a,b,aq];rw[g197L0e];simp[f,c.norm]
def c197(hl:Sm X)(c:u.Ok):(aE AP).p 197 [u.pv,.ae (X.map .str)]=some [(u.iV X).pv]:=by
 revert c
 refine Ty.cb (p:=fun u=>u.Ok->(aE AP).p 197 [u.pv,.ae (X.map .str)]=some [(u.iV X).pv]) ?_ u;intro u j c;have g:=c223 hl (y:=u.name);rw[aB g197,Ty.xg];by_cases e1:u.kind=5/\0<=qp X u.name
 .simp[g197,g,e1.1,e1.2,bm]
 .have hS:=c.sm;have h:=aba c.sm (fun x hx=>j x hx (c.df x hx)) u.args.length 0 (by omega) (by omega) [] (by simp);have k:c_ [] u.args.length=(List.replicate u.args.length [.pv (vI 0),.pv (.str []),.pv (vI 0),.pv (vI 0),.pv (.ae [])]).flatten:=(by simp[c_,PL]);have f:=aY.one (dE (d:=[]) (m:=u.args.length));rw[g197L0e]at h;unfold Sm at hS;have b1:(u.args.length:Int)<=9223372036854775807:=(by omega);have i:(u.args.length:Int)*64<=140737488355328:=(by omega);rw[k]at h f;simp[f.norm,Ty.cl]at h;have n:=aY.one (dE (d:=u.args.map (Ty.iV X)) (m:=0));have b:=om (d:=u.args.map (Ty.iV X));have a:=iy (d:=u.args.map (Ty.iV X)) (m:=0);simp at b a;by_cases e2:u.kind=5
  .have e3:¬0<=qp X u.name:=fun e=>e1 ⟨e2,e⟩;simp[e2]at h;simp(disch:=omega)[g197,g,e2,e3,b1,i,g197L0e,f.norm,h,b,a]
  .simp(disch:=omega)[g197,g,e2,b1,i,g197L0e,f.norm,h,b,a]
def abb(hS:Sm g.args)(h:∀x∈g.args,(aE AP).p 198 [x.pv,.ae (X.map .str)]=some [(x.iV X).pv]):∀(n i:Nat),g.args.length-i=n->i<=g.args.length->∀acc:List Ty,acc=(g.args.take i).map (Ty.iV X)->
   cl AP g198L0 ⟨[(1,.pv (.ae (X.map .str))),(2,.au 2 0),(4,.au 4 0),(6,.au 6 0),(7,.pv (vI i))],
     [(2,Yk g),(4,[.pv (vI 0),.pv (.str []),.pv (vI 0),.pv (vI 0),.own [] 0]),(6,[.pv (vI g.kind),.pv (.str g.name),.pv (vI g.id),.pv (vI g.home),.own (acc.map Ty.pv) 1])],[],[0,acc.length]⟩=
     some (.exit 0,⟨[(1,.pv (.ae (X.map .str))),(2,.au 2 0),(4,.au 4 0),(6,.au 6 0),(7,.pv (vI g.args.length)),(26,.pv (.bool false))],
     [(2,Yk g),(4,[.pv (vI 0),.pv (.str []),.pv (vI 0),.pv (vI 0),.own [] 0]),(6,[.pv (vI g.kind),.pv (.str g.name),.pv (vI g.id),.pv (vI g.home),.own ((g.args.map (Ty.iV X)).map Ty.pv) 1])],[],[0,g.args.length]⟩)
 |0,i,hn,hi,acc,a=>by
  have:i=g.args.length:=by omega
  subst this;subst a;rw[g198L0e];simp[g198B0]
 |n+1,i,hn,hi,acc,a=>by
  have hi:i<g.args.length:=(by omega);obtain⟨x,hx⟩:=aR hi;unfold Sm at hS;have d:(acc.length+1)*64<=140737488355328:=by subst a;simp;omega
  have c:=h x (aM hx);have b:=abb hS h n (i+1) (by omega) (by omega) (acc++[x.iV X]) (by rw[zaM,hx,a];simp);rw[g198L0e]at b⊢;simp at b c;simp(disch:=omega)[-getElem?_pos,g198B0,hx,hi,c,d,aq];rw[g198L0e];simp[b]
def c198(hl:Sm X)(a:g.Ok)(hC:g.Cw):(aE AP).p 198 [g.pv,.ae (X.map .str)]=some [(g.iV X).pv]:=by
 revert a hC
 refine Ty.cb (p:=fun g=>g.Ok->g.Cw->(aE AP).p 198 [g.pv,.ae (X.map .str)]=some [(g.iV X).pv]) ?_ g;intro g c a hC;have b:=c216 hl (y:=g.name);have k2:=c72 (n:=qp X g.name);have h:=abb a.sm (fun x hx=>c x hx (a.df x hx) (hC.df x hx)) g.args.length 0 (by omega) (by omega) [] (by simp);rw[aB g198,Ty.xg];rw[g198L0e]at h;simp at k2 h;by_cases e1:g.kind=5
 .have d:=hC.bare (by rw[e1];decide);by_cases e2:0<=qp X g.name
  .simp[g198,b,e1,e2,k2,bm]
  .simp[g198,b,e1,e2,d]
 .simp[g198,e1,g198L0e,h]
def dcC(pos:Int)(name:bF)(ps:List bF)(cs:List ke):List AV:=[.pv (vI pos),.pv (.str name),.own (ps.map .str) 1,.own (cs.map ke.pv) 2]
@[simp] theorem acr(pos:Int)(name:bF)(ps:List bF)(cs:List ke):dcC pos name ps cs=[.pv (vI pos),.pv (.str name),.own (ps.map .str) 1,.own (cs.map ke.pv) 2]:=rfl
structure Small(ds:List Dt):Prop where
 num:Sm ds
 par:∀d∈ds,Sm d.params
 dy:∀d∈ds,Sm d.cons
 tot:Sm (ds.flatMap Dt.cons)
 Wo:∀d∈ds,∀c∈d.cons,Sm c.fields/\(∀x∈c.fields,x.Ok)/\∀x∈c.fields,x.Cw
def Ui{l:List Dt}{b:Nat}(h:∀d∈l,d.cons.length<=b):(l.flatMap Dt.cons).length<=l.length*b:=by
 induction l with
 |nil=>simp
 |cons a r c=>
  have h1:=h a (by simp);have h2:=c (fun x hx=>h x (by simp[hx]));simp only[zaq,zat,zay,zaG];omega
def eh(a b:Ty):Ty:=⟨4,[45,62],0,0,[a,b]⟩
def c218{s:List UInt8}(h:Sm l):(aE AP).p 218 [.str s,.ae (l.map Ty.pv)]=some [(Ty.mk 4 s 0 0 l).pv]:=by
 unfold Sm at h;rw[aB g218];cases l with
 |nil=>simp[g218]
 |cons a r=>
  have:(r.length+1)*64<=140737488355328:=by simp at h;omega
  simp[g218,this]
def c220:(aE AP).p 220 [a.pv,b.pv]=some [(eh a b).pv]:=by
 rw[aB g220];have h:=c218 (s:=[45,62]) (l:=[a,b]) (by simp[Sm]);simp at h;simp[g220,h,eh]
def js(n:Nat):List Ty:=(List.range n).map fun i:Nat=>bm i
def jS:(js n).length=n:=by simp[js]
def y_:js (n+1)=js n++[bm n]:=by simp[js,List.range_succ]
def Wp(d:Dt):List AV:=[.pv (vI d.pos),.pv (.str d.name),.pv (.ae (d.params.map .str)),.pv (.ae (d.cons.map ke.pv))]
@[simp] theorem acs(d:Dt):Wp d=[.pv (vI d.pos),.pv (.str d.name),.pv (.ae (d.params.map .str)),.pv (.ae (d.cons.map ke.pv))]:=rfl
def nJ(d:Dt):Ty:=⟨4,d.name,0,0,js d.params.length⟩
def abc(hS:Sm d.params):∀(n i:Nat),d.params.length-i=n->i<=d.params.length->
   cl AP g221L0 ⟨[(1,.au 1 0),(2,.au 2 0),(3,.own ((js i).map Ty.pv) 0),(4,.pv (vI i))],[(1,Wp d),(2,[.pv (vI 0),.pv (.str []),.pv (vI 0),.pv (vI 0),.own [] 1])],[],[i,0]⟩=
     some (.exit 0,⟨[(1,.au 1 0),(2,.au 2 0),(3,.own ((js d.params.length).map Ty.pv) 0),(4,.pv (vI d.params.length)),(9,.pv (.bool false))],[(1,Wp d),(2,[.pv (vI 0),.pv (.str []),.pv (vI 0),.pv (vI 0),.own [] 1])],[],[d.params.length,0]⟩)
 |0,i,hn,hi=>by
  have:i=d.params.length:=by omega
  subst this;have hl:=jS (n:=d.params.length);rw[g221L0e];simp[g221B0,hl]
 |n+1,i,hn,hi=>by
  have hi:i<d.params.length:=(by omega);unfold Sm at hS;have hl:=jS (n:=i);have b:=jS (n:=i+1);have c:(i+1)*64<=140737488355328:=(by omega);have k:=c72 (n:=i);have a:=abc hS n (i+1) (by omega) (by omega);rw[g221L0e]at a⊢;rw[y_]at a;simp[bm,hl]at a k;simp(disch:=omega)[-getElem?_pos,g221B0,hi,k,hl,c,aq];rw[g221L0e];simp[a,hl]
def c221(hS:Sm d.params):(aE AP).p 221 [d.pv]=some [(nJ d).pv]:=by
 have h:=abc hS _ 0 rfl (by omega);have hl:=jS (n:=d.params.length);have k:=c62 (s:=d.name) (l:=js d.params.length) (by unfold Sm at hS⊢;omega);rw[aB g221];rw[g221L0e]at h;simp[js]at h;simp[js]at k;simp[g221,g221L0e,h,k,nJ,js]
def qw(ps:List bF)(fs:List Ty)(t:Ty):Ty:=fs.foldr (fun f t=>eh (f.iV ps) t) t
def za(h:fs[n]?=some x):qw X (fs.take (n+1)) g=qw X (fs.take n) (eh (x.iV X) g):=by
 rw[zaM,h];simp[qw]
def dH(ds:List Dt)(s:bF):Option Sc:=(gP ds s 0).bind fun q=>(ds[q.1]?).bind fun d=>(d.cons[q.2]?).map fun c=>⟨d.params.length,qw d.params c.fields (nJ d)⟩
def abd{i:Nat}(hd:ds[i]?=some d)(hp:Sm d.params){fs:List Ty}(hS:Sm fs)(g:∀x∈fs,x.Ok)(hC:∀x∈fs,x.Cw):∀(k:Nat),k<=fs.length->∀t:Ty,
   cl AP g193L0 ⟨[(0,.pv (.ae (ds.map Dt.pv))),(4,.au 4 0),(6,.pv (vI i)),(9,.au 9 0),(10,.pv (.ae (fs.map Ty.pv))),(11,.pv (vI ((k:Int)-1)))],
     [(4,[.pv (vI 0),.pv (vI 0),.pv (.str []),.pv (vI 0),.pv (vI 0),.own [] 0]),(9,Yk t)],[],[0]⟩=
   some (.exit 0,⟨[(0,.pv (.ae (ds.map Dt.pv))),(4,.au 4 0),(6,.pv (vI i)),(9,.au 9 0),(10,.pv (.ae (fs.map Ty.pv))),(11,.pv (vI (-1))),(40,.pv (.bool false))],
     [(4,[.pv (vI 0),.pv (vI 0),.pv (.str []),.pv (vI 0),.pv (vI 0),.own [] 0]),(9,Yk (qw d.params (fs.take k) t))],[],[0]⟩)
 |0,h,t=>by
  rw[g193L0e];simp[g193B0,qw]
 |k+1,h,t=>by
  obtain⟨x,hx⟩:=aR (l:=fs) (i:=k) (by omega);unfold Sm at hS;have f:=abd hd hp (fs:=fs) (by unfold Sm;exact hS) g hC k (by omega) (eh (x.iV d.params) t);have e1:((k+1:Nat):Int)-1=k:=by omega
  have e:=c198 hp (g x (aM hx)) (hC x (aM hx));have c:=c69 (a:=x.iV d.params) (b:=t);rw[g193L0e,e1,za hx];simp[eh]at f e c;simp(disch:=omega)[-getElem?_pos,g193B0,hd,hx,e,c,aq,f,eh]
def c193(hS:Sm ds)(b:∀d∈ds,Sm d.cons)(hp:∀d∈ds,Sm d.params)(hf:∀d∈ds,∀c∈d.cons,Sm c.fields/\(∀x∈c.fields,x.Ok)/\∀x∈c.fields,x.Cw):
   (aE AP).p 193 [.ae (ds.map Dt.pv),.str s]=some (uU (dH ds s)):=by
 have k:=c191 hS b (s:=s);rw[aB g193];cases e:gP ds s 0 with
 |none=>
  rw[e]at k;simp[rF]at k;simp[g193,k,dH,e,uU,dV]
 |some q=>
  rw[e]at k;obtain⟨_,d,c,hd,a,_⟩:=jE e;simp only[zbA]at hd;obtain⟨f1,f2,f3⟩:=hf d (aM hd) c (aM a);have k2:=c221 (hp d (aM hd));have h:=abd hd (hp d (aM hd)) f1 f2 f3 c.fields.length (zal _) (nJ d);rw[zbu]at h;rw[g193L0e]at h;unfold Sm at f1;simp[rF]at k;simp at k2 h;simp(disch:=omega)[-getElem?_pos,g193,k,hd,a,k2,dH,e,uU,aq,g193L0e,h]
def abe{d:Dt}{k m:Nat}(hm:m<1099511627776):∀(n i:Nat),m-i=n->i<=m->
   cl AP g192L0 ⟨[(4,.aL 0 0),(7,.pv (vI k)),(9,.aL 1 0),(10,.bl 2 5 m true),(34,.pv (vI m)),(35,.pv (vI i))],[],[some [.pv (vI 0),.pv (vI 0),.pv (.str []),.pv (vI 0),.pv (vI 0),.own [] 0],some (Wp d),some (c_ (js i) n)],[0]⟩=
     some (.exit 0,⟨[(4,.aL 0 0),(7,.pv (vI k)),(9,.aL 1 0),(10,.bl 2 5 m true),(34,.pv (vI m)),(35,.pv (vI m)),(36,.pv (.bool false))],[],[some [.pv (vI 0),.pv (vI 0),.pv (.str []),.pv (vI 0),.pv (vI 0),.own [] 0],some (Wp d),some (c_ (js m) 0)],[0]⟩)
 |0,i,hn,hi=>by
  have:i=m:=by omega
  subst this;have hN:=fun o t=>i6 (aQ:=o) (ts:=t) (dE (d:=js i) (m:=0))
  rw[g192L0e];simp[g192B0,hN]
 |n+1,i,hn,hi=>by
  have hi:i<m:=(by omega);have hN:=fun o t=>i6 (aQ:=o) (ts:=t) (dE (d:=js i) (m:=n+1))
  have b:=fun o t=>i6 (aQ:=o) (ts:=t) (dE (d:=js i++[bm i]) (m:=n));have c:=abe (d:=d) (k:=k) hm n (i+1) (by omega) (by omega)
  have a:a_ (c_ (js i) (n+1)) (i*5) (bm i).cl=c_ (js i++[bm i]) n:=by
   have:=rf (d:=js i) (m:=n) (t:=bm i)
   rwa [jS]at this
  have e:i*5+5<=(c_ (js i) (n+1)).length:=(by rw[iy,jS];omega);rw[y_]at c;rw[g192L0e]at c⊢;simp only[bm]at b c;simp[Ty.cl,bm]at a;simp[b]at c;simp(disch:=omega)[-getElem?_pos,g192B0,hi,hN,a,e,aq,bm];rw[g192L0e];simp[c,b]
def z6(a:Nat):List AV:=[.pv (vI 0),.pv (vI 0),.pv (.str []),.pv (vI 0),.pv (vI 0),.own [] a]
def zc(d:Dt)(a:Nat)(t:Ty):Sh:=[some (z6 a),some (Wp d),none,some t.cl,none]
def oB:List (Nat×AV):=[(4,.aL 0 0),(9,.aL 1 0),(12,.aL 3 0)]
def acu(hp:Sm d.params){t:Ty}(hx:x.Ok){a:Nat}{tk:aH}(g:tk[a]?=some 0):∃e,andThen (cl AP g192X1) (cl AP g192Y1) (norm (restrict [4,9,12,55,56] ⟨dh (dh oB 55 (.pv (vI i))) 56 (.pv x.pv),[],zc d a t,tk⟩))=
   some (.normal,⟨e,[],zc d 0 (eh (x.iV d.params) t),[0]⟩):=by
 have f:=c197 hp hx;have c:=c220 (a:=x.iV d.params) (b:=t);refine⟨[(4,.aL 0 0),(9,.aL 1 0),(12,.aL 3 0)],?_⟩;simp[eh]at f c;simp[-getElem?_pos,oB,zc,z6,ql,g192X1,g192Y1,g,Ty.cl,f,c,eh]
def abf(hp:Sm d.params)(m:∀x∈fs,x.Ok):∀(k:Nat),k<=fs.length->∀(e:List (Nat×AV))(a:Nat)(tk:aH)(t:Ty),tk[a]?=some 0->∃c b,
   iK (andThen (cl AP g192X1) (cl AP g192Y1)) [4,9,12,55,56] 55 56 5 true oB (((fs.take k).map Ty.pv).zipIdx.reverse) ⟨e,[],zc d a t,tk⟩=
     some (.normal,⟨oB,[],zc d c (qw d.params (fs.take k) t),b⟩):=by
 intro k;induction k with
 |zero=>intro _ e a tk t _;exact⟨a,tk,by simp[qw]⟩
 |succ k f=>
  intro n e a tk t j;obtain⟨x,hx⟩:=aR (l:=fs) (i:=k) (by omega);have g:=PS (l:=fs.map Ty.pv) (k:=k) (x:=x.pv) (by simp[hx]);obtain⟨e1,h1⟩:=acu (t:=t) (i:=k) hp (m x (aM hx)) j;obtain⟨c,b,h⟩:=f (by omega) e1 0 [0] (eh (x.iV d.params) t) rfl;rw[zbi]at h;rw[zbi,g,wU mo,h1,za hx];exact⟨c,b,by simp[h]⟩
def c219{sh:Sh}{ts o:aH}(hn:bt ts [] sh=(sh,o,ts)):(aE AP).i 219 [.pv (.ae (l.map Ty.pv))] sh ts=some ([.fn 236 [.aL sh.length 0]],sh++[some [.pv (.ae (l.map Ty.pv))]],ts):=by
 rw[aC g219];simp[g219,oX,hn]
def c192(hS:Sm ds)(w:∀d∈ds,Sm d.cons)(hp:∀d∈ds,Sm d.params)(hf:∀d∈ds,∀c∈d.cons,Sm c.fields/\(∀x∈c.fields,x.Ok)):
   (aE AP).p 192 [.ae (ds.map Dt.pv),.str s]=some (uU (dH ds s)):=by
 have k:=c190 hS w (s:=s);rw[aB g192];cases e:gP ds s 0 with
 |none=>
  rw[e]at k;simp[rF]at k;simp[g192,k,dH,e,uU,dV]
 |some q=>
  rw[e]at k;obtain⟨_,d,c,hd,j,_⟩:=jE e;simp only[zbA]at hd;obtain⟨f1,f2⟩:=hf d (aM hd) c (aM j);have i:=hp d (aM hd);have a:=i;unfold Sm at a f1;have h:=abe (d:=d) (k:=q.2) (m:=d.params.length) a d.params.length 0 rfl (by omega);have v:c_ (js 0) d.params.length=(List.replicate d.params.length [.pv (vI 0),.pv (.str []),.pv (vI 0),.pv (vI 0),.pv (.ae [])]).flatten:=by simp[c_,PL,js]
  have hN:=fun o t=>i6 (aQ:=o) (ts:=t) (dE (d:=js 0) (m:=d.params.length));rw[v]at h hN;rw[g192L0e]at h;have b1:(d.params.length:Int)<=9223372036854775807:=by omega
  have z:(d.params.length:Int)*64<=140737488355328:=(by omega);have g:=om (d:=js d.params.length);have b:=iy (d:=js d.params.length) (m:=0);have k2:=c218 (s:=d.name) (l:=js d.params.length) (by unfold Sm;rw[jS];omega);rw[jS]at g b;have r:=c219 (l:=c.fields) (sh:=[some [.pv (vI 0),.pv (vI 0),.pv (.str []),.pv (vI 0),.pv (vI 0),.own [] 0],some (Wp d),none,some (nJ d).cl]) (ts:=[0]) (o:=[1]) (by simp[Ty.cl]);have hw:=fun f live=>t7 (f:=f) (gb:=236) (s:=4) (pi:=55) (px:=56) (sz:=5) (ag:=true) (live:=live) (env:=[(4,AV.aL 0 0),(9,AV.aL 1 0),(12,AV.aL 3 0),(54,AV.fn 236 [AV.aL 4 0])]) (mem:=[]) (sh:=[some (z6 1),some (Wp d),none,some (nJ d).cl,some [.pv (.ae (c.fields.map Ty.pv))]]) (aa:=[1,0]) (l:=c.fields.map Ty.pv) rfl (by simp;omega)
  obtain⟨A,u,n⟩:=abf i f2 c.fields.length (zal _) [(4,AV.aL 0 0),(9,AV.aL 1 0),(12,AV.aL 3 0),(54,AV.fn 236 [AV.aL 4 0])] 1 [1,0] (nJ d) rfl;rw[zbu]at n;have y:iX [4,9,12,55,56] [(4,AV.aL 0 0),(9,AV.aL 1 0),(12,AV.aL 3 0),(54,AV.fn 236 [AV.aL 4 0])]=oB:=by simp[iX,oB]
  simp[rF]at k;simp[nJ]at k2;simp[zc,z6,Ty.cl,nJ,oB]at n;simp[z6,Ty.cl,nJ]at r hw;simp[hN]at h;simp at g b;simp(disch:=omega)[-getElem?_pos,g192,k,hd,j,dH,e,uU,aq,b1,z,g192L0e,hN,h,g,b,k2,r,hw,y,oB,n,nJ]
def mps(a b:List (PV×PV)):Sh:=[some [.gA a],some [.gA b]]
@[simp] theorem acv(a b:List (PV×PV)):mps a b=[some [.gA a],some [.gA b]]:=rfl
def acw(c:ke):List AV:=[.pv (vI c.pos),.pv (.str c.name),.pv (.ae (c.fields.map Ty.pv))]
@[simp] theorem aca(c:ke):acw c=[.pv (vI c.pos),.pv (.str c.name),.pv (.ae (c.fields.map Ty.pv))]:=rfl
def Qx{X:List bF}{g:Ty}(h:g.Ok):(g.iV X).Ok:=by
 revert h
 refine Ty.cb (p:=fun g=>g.Ok->(g.iV X).Ok) ?_ g;intro g a h;rw[Ty.xg];split
 .exact bw rfl
 .refine⟨by have:=h.sm;unfold Sm at this⊢;simpa using this,?_⟩;intro x hx;simp only[zak]at hx;obtain⟨y,hy,rfl⟩:=hx;exact a y hy (h.df y hy)
def YG(h:g.Cw):(g.iV X).Cw:=by
 revert h
 refine Ty.cb (p:=fun g=>g.Cw->(g.iV X).Cw) ?_ g;intro g a h;rw[Ty.xg];split
 .exact⟨fun _=>rfl,by simp[bm]⟩
 .refine⟨fun b=>by simp[h.bare b],?_⟩;intro x hx;simp only[zak]at hx;obtain⟨y,hy,rfl⟩:=hx;exact a y hy (h.df y hy)
def fieldsOf(ds:List Dt)(s:bF)(as:List Ty):Option (List Ty):=(gP ds s 0).bind fun q=>(ds[q.1]?).bind fun d=>(d.cons[q.2]?).bind fun c=>if as.length=d.params.length then some (c.fields.map fun f=>(f.iV d.params).d7 as)else none
def D5(o:Option (List Ty)):List PV:=[.ae ((o.getD []).map Ty.pv),.bool o.isSome]
def abg(hd:ds[i]?=some d)(hp:Sm d.params)(h:Sm as){fs:List Ty}(hS:Sm fs)(g:∀x∈fs,x.Ok)(hC:∀x∈fs,x.Cw)(k:∀x:Ty,x.Cw->x.Wb):∀(n j:Nat),fs.length-j=n->j<=fs.length->∀acc:List Ty,acc=(fs.take j).map (fun f=>(f.iV d.params).d7 as)->
   cl AP g206L0 ⟨[(0,.pv (.ae (ds.map Dt.pv))),(2,.pv (.ae (as.map Ty.pv))),(8,.pv (vI i)),(11,.own (acc.map Ty.pv) 0),(42,.pv (.ae (fs.map Ty.pv))),(43,.pv (vI fs.length)),(44,.pv (vI j))],[],[],[acc.length]⟩=
     some (.exit 0,⟨[(0,.pv (.ae (ds.map Dt.pv))),(2,.pv (.ae (as.map Ty.pv))),(8,.pv (vI i)),(11,.own ((fs.map (fun f=>(f.iV d.params).d7 as)).map Ty.pv) 0),(42,.pv (.ae (fs.map Ty.pv))),(43,.pv (vI fs.length)),(44,.pv (vI fs.length)),(45,.pv (.bool false))],[],[],[fs.length]⟩)
 |0,j,hn,hj,acc,a=>by
  have:j=fs.length:=by omega
  subst this;subst a;rw[g206L0e];simp[g206B0]
 |n+1,j,hn,hj,acc,a=>by
  have hj:j<fs.length:=(by omega);obtain⟨x,hx⟩:=aR hj;have e:=c197 hp (g x (aM hx));have c:=c47 h (t:=x.iV d.params) (Qx (g x (aM hx))) (k _ (YG (hC x (aM hx))));unfold Sm at hS;have l:(acc.length+1)*64<=140737488355328:=by subst a;simp;omega
  have b:=abg hd hp h (fs:=fs) (by unfold Sm;exact hS) g hC k n (j+1) (by omega) (by omega) (acc++[(x.iV d.params).d7 as]) (by rw[zaM,hx,a];simp);generalize x.iV d.params=u at e c b;generalize u.d7 as=v at c b;rw[g206L0e]at b⊢;simp at b e c;simp(disch:=omega)[-getElem?_pos,g206B0,hd,hx,hj,e,c,l,aq];rw[g206L0e];simp[b]
def abh(hd:ds[i]?=some d)(hp:Sm d.params)(h:Sm as){fs:List Ty}(hS:Sm fs)(g:∀x∈fs,x.Ok)(hC:∀x∈fs,x.Cw):∀(n j:Nat),fs.length-j=n->j<=fs.length->∀acc:List Ty,acc=(fs.take j).map (fun f=>(f.iV d.params).d7 as)->
   cl AP g207L0 ⟨[(0,.pv (.ae (ds.map Dt.pv))),(2,.pv (.ae (as.map Ty.pv))),(8,.pv (vI i)),(11,.own (acc.map Ty.pv) 0),(12,.pv (.ae (fs.map Ty.pv))),(13,.pv (vI j))],[],[],[acc.length]⟩=
     some (.exit 0,⟨[(0,.pv (.ae (ds.map Dt.pv))),(2,.pv (.ae (as.map Ty.pv))),(8,.pv (vI i)),(11,.own ((fs.map (fun f=>(f.iV d.params).d7 as)).map Ty.pv) 0),(12,.pv (.ae (fs.map Ty.pv))),(13,.pv (vI fs.length)),(46,.pv (.bool false))],[],[],[fs.length]⟩)
 |0,j,hn,hj,acc,a=>by
  have:j=fs.length:=by omega
  subst this;subst a;rw[g207L0e];simp[g207B0]
 |n+1,j,hn,hj,acc,a=>by
  have hj:j<fs.length:=(by omega);obtain⟨x,hx⟩:=aR hj;have e:=c198 hp (g x (aM hx)) (hC x (aM hx));have c:=c48 h (t:=x.iV d.params) (Qx (g x (aM hx)));unfold Sm at hS;have k:(acc.length+1)*64<=140737488355328:=by subst a;simp;omega
  have b:=abh hd hp h (fs:=fs) (by unfold Sm;exact hS) g hC n (j+1) (by omega) (by omega) (acc++[(x.iV d.params).d7 as]) (by rw[zaM,hx,a];simp);generalize x.iV d.params=u at e c b;generalize u.d7 as=v at c b;rw[g207L0e]at b⊢;simp at b e c;simp(disch:=omega)[-getElem?_pos,g207B0,hd,hx,hj,e,c,k,aq];rw[g207L0e];simp[b]
def c206(h:Small ds)(b:Sm as)(f:∀x:Ty,x.Cw->x.Wb):(aE AP).p 206 [.ae (ds.map Dt.pv),.str s,.ae (as.map Ty.pv)]=some (D5 (fieldsOf ds s as)):=by
 have k:=c190 h.num h.dy (s:=s);rw[aB g206];cases e:gP ds s 0 with
 |none=>
  rw[e]at k;simp[rF]at k;simp[g206,k,fieldsOf,e,D5]
 |some q=>
  rw[e]at k;obtain⟨_,d,c,hd,a,_⟩:=jE e;simp only[zbA]at hd;obtain⟨f1,f2,f3⟩:=h.Wo d (aM hd) c (aM a);have hl:=abg hd (h.par d (aM hd)) b f1 f2 f3 f _ 0 rfl (by omega) [] rfl;rw[g206L0e]at hl;simp[rF]at k;by_cases e2:as.length=d.params.length
  .simp at hl;simp(disch:=omega)[-getElem?_pos,g206,k,hd,a,fieldsOf,e,D5,e2,g206L0e,hl]
  .have e3:¬(as.length:Int)=d.params.length:=(by omega);simp(disch:=omega)[-getElem?_pos,g206,k,hd,a,fieldsOf,e,D5,e2,e3]
def c207(h:Small ds)(b:Sm as):(aE AP).p 207 [.ae (ds.map Dt.pv),.str s,.ae (as.map Ty.pv)]=some (D5 (fieldsOf ds s as)):=by
 have k:=c191 h.num h.dy (s:=s);rw[aB g207];cases e:gP ds s 0 with
 |none=>
  rw[e]at k;simp[rF]at k;simp[g207,k,fieldsOf,e,D5]
 |some q=>
  rw[e]at k;obtain⟨_,d,c,hd,a,_⟩:=jE e;simp only[zbA]at hd;obtain⟨f1,f2,f3⟩:=h.Wo d (aM hd) c (aM a);have hl:=abh hd (h.par d (aM hd)) b f1 f2 f3 _ 0 rfl (by omega) [] rfl;rw[g207L0e]at hl;simp[rF]at k;by_cases e2:as.length=d.params.length
  .simp at hl;simp(disch:=omega)[-getElem?_pos,g207,k,hd,a,fieldsOf,e,D5,e2,g207L0e,hl]
  .have e3:¬(as.length:Int)=d.params.length:=(by omega);simp(disch:=omega)[-getElem?_pos,g207,k,hd,a,fieldsOf,e,D5,e2,e3]
def Jz{p:α->Bool}:∀{l:List α}{k:Nat},bI p l=some k->k<l.length
 |[],k,h=>by simp[bI]at h
 |a::r,k,h=>by
  simp only[bI]at h;split at h
  .cases h;simp
  .simp only[zac]at h;obtain⟨j,hj,rfl⟩:=h;have:=Jz hj;simp;omega
def u_(out:List Int):Sh:=[none,some [.own (out.map vI) 0]]
def c97n(h:gV L out)(x:Ty):(aE AP).i 97 [.pv x.pv,.aL 1 0] (u_ out) [out.length]=some ([],u_ (bP out x),[(bP out x).length]):=by
 have hl:=h.len;have k:=c98 hl (y:=x.id);unfold Sm at hl;have b:(out.length+1)*8<=140737488355328:=by omega
 have a:bj 1 (out.map vI)=true:=gL.head out;rw[aC g97];by_cases e1:x.kind=1
 .by_cases e2:x.id∈out
  .rw[zaE e2]at k;simp[g97,u_,bP,e1,e2,k,a]
  .rw[zaB e2]at k;simp[g97,u_,bP,e1,e2,k,b,a]
 .simp[g97,u_,bP,e1]
def abi(hS:Sm g.args)(h:∀x∈g.args,∀out,gV S out->(aE AP).i 96 [.pv x.pv,.fn 97 [.aL 1 0]] (u_ out) [out.length]=some ([],u_ (x.nodes.foldl bP out),[(x.nodes.foldl bP out).length]))
   (d:∀x∈g.args.flatMap Ty.nodes,x.kind=1->x.id∈S):∀(n i:Nat),g.args.length-i=n->i<=g.args.length->∀out,gV S out->
   cl AP g96L0 ⟨[(1,.fn 97 [.aL 1 0]),(10,.pv (.ae (g.args.map Ty.pv))),(11,.pv (vI g.args.length)),(12,.pv (vI i))],[],u_ out,[out.length]⟩=
     some (.exit 0,⟨[(1,.fn 97 [.aL 1 0]),(10,.pv (.ae (g.args.map Ty.pv))),(11,.pv (vI g.args.length)),(12,.pv (vI g.args.length)),(13,.pv (.bool false))],[],u_ (((g.args.drop i).flatMap Ty.nodes).foldl bP out),[(((g.args.drop i).flatMap Ty.nodes).foldl bP out).length]⟩)
 |0,i,hn,hi,out,c=>by
  have:i=g.args.length:=by omega
  subst this;rw[g96L0e];simp[g96B0,u_]
 |n+1,i,hn,hi,out,c=>by
  have hi:i<g.args.length:=(by omega);obtain⟨x,hx⟩:=aR hi;unfold Sm at hS;have b:∀y∈x.nodes,y.kind=1->y.id∈S:=fun y hy=>d y (by simp only[zaf];exact⟨x,aM hx,hy⟩)
  have k:=h x (aM hx) out c;have a:=abi hS h d n (i+1) (by omega) (by omega) _ (c.fold b);rw[g96L0e]at a⊢;rw[aZ hx];simp[u_]at k a;simp(disch:=omega)[-getElem?_pos,g96B0,u_,hx,hi,k,aq];rw[g96L0e];simp[a]
def c96n(c:g.Ok)(a:∀x∈g.nodes,x.kind=1->x.id∈S):∀out,gV S out->
   (aE AP).i 96 [.pv g.pv,.fn 97 [.aL 1 0]] (u_ out) [out.length]=some ([],u_ (g.nodes.foldl bP out),[(g.nodes.foldl bP out).length]):=by
 revert c a
 refine Ty.cb (p:=fun g=>g.Ok->(∀x∈g.nodes,x.kind=1->x.id∈S)->∀out,gV S out->
   (aE AP).i 96 [.pv g.pv,.fn 97 [.aL 1 0]] (u_ out) [out.length]=some ([],u_ (g.nodes.foldl bP out),[(g.nodes.foldl bP out).length])) ?_ g
 intro g d c a out b;rw[Ty.aI]at a⊢;have k:=c97n b g;have h:=abi (S:=S) c.sm (fun x hx out b=>d x hx (c.df x hx) (fun y hy=>a y (by simp only[zah,zaf];exact .inr ⟨x,hx,hy⟩)) out b) (fun x hx=>a x (by simp only[zah];exact .inr hx)) _ 0 rfl (by omega) _ (b.add (a g (by simp)));rw[aC g96];rw[g96L0e]at h;simp[u_]at k h;simp[g96,g96L0e,u_,k,h]
def abj(hS:Sm l)(e:∀t∈l,t.Ok)(d:∀x∈l.flatMap Ty.nodes,x.kind=1->x.id∈L):∀(n i:Nat),l.length-i=n->i<=l.length->∀out,gV L out->
   cl AP g55L0 ⟨[(3,.aL 1 0),(6,.pv (.ae (l.map Ty.pv))),(7,.pv (vI l.length)),(8,.pv (vI i))],[],u_ out,[out.length]⟩=
     some (.exit 0,⟨[(3,.aL 1 0),(6,.pv (.ae (l.map Ty.pv))),(7,.pv (vI l.length)),(8,.pv (vI l.length)),(9,.pv (.bool false))],[],u_ (((l.drop i).flatMap Ty.nodes).foldl bP out),[(((l.drop i).flatMap Ty.nodes).foldl bP out).length]⟩)
 |0,i,hn,hi,out,c=>by
  have:i=l.length:=by omega
  subst this;rw[g55L0e];simp[g55B0,u_]
 |n+1,i,hn,hi,out,c=>by
  have hi:i<l.length:=(by omega);obtain⟨x,hx⟩:=aR hi;unfold Sm at hS;have a:∀y∈x.nodes,y.kind=1->y.id∈L:=fun y hy=>d y (by simp only[zaf];exact⟨x,aM hx,hy⟩)
  have k:=c96n (e x (aM hx)) a out c;have b:=abj hS e d n (i+1) (by omega) (by omega) _ (c.fold a);rw[g55L0e]at b⊢;rw[aZ hx];simp[u_]at k b;simp(disch:=omega)[-getElem?_pos,g55B0,u_,hx,hi,k,aq];rw[g55L0e];simp[b]
def c55i(hf:S.length<1099511627776)(hS:Sm l)(b:∀t∈l,t.Ok)(a:∀x∈l.flatMap Ty.nodes,x.kind=1->x.id∈S):(aE AP).i 55 [.pv (.ae (l.map Ty.pv))] [none] []=some ([.own ((vars l).map vI) 0],[none],[(vars l).length]):=by
 have h:=abj hS b a _ 0 rfl (by omega) [] (mu hf);rw[fF (af:=Go.Ab.g55) rfl (by simp[Go.Ab.g55])];rw[g55L0e]at h;simp[u_]at h;simp[Go.Ab.g55,g55L0e,h,vars]
variable{S:List Ty}{s:List As}{m:Nat}
def g55i(hf:S.length<1099511627776)(hS:Sm l)(a:∀t∈l,Good S t):(aE AP).i 55 [.pv (.ae (l.map Ty.pv))] [none] []=some ([.own ((vars l).map vI) 0],[none],[(vars l).length]):=by
 refine c55i (S:=S.map Ty.id) (by simpa using hf) hS (fun t ht=>(a t ht).ok) ?_;intro x hx b;simp only[zaf]at hx;obtain⟨t,ht,hx⟩:=hx;exact zbt ((a t ht).sub x (mz (a t ht).wf x hx b))
variable{l:List Sc}
def abk(hS:Sm l):∀(n i:Nat),l.length-i=n->i<=l.length->∀d:List Ty,d=(l.take i).map As.ty->
   cl AP g224L0 ⟨[(3,.bl 0 5 l.length true),(9,.pv (.ae (l.map As.pv))),(10,.pv (vI l.length)),(11,.pv (vI i))],[],[some (c_ d n)],[]⟩=
     some (.exit 0,⟨[(3,.bl 0 5 l.length true),(9,.pv (.ae (l.map As.pv))),(10,.pv (vI l.length)),(11,.pv (vI l.length)),(12,.pv (.bool false))],[],[some (c_ (l.map As.ty) 0)],[]⟩)
 |0,i,hn,hi,d,hd=>by
  have:i=l.length:=by omega
  subst this;have f:d=l.map As.ty:=by simpa using hd
  subst f;have h:aY [some (c_ (l.map As.ty) 0)]:=aY.one dE;have h1:=h.norm;simp at h1;rw[g224L0e];simp[g224B0,h1]
 |n+1,i,hn,hi,d,hd=>by
  have hi:i<l.length:=(by omega);obtain⟨x,hx⟩:=aR hi;unfold Sm at hS;have e:d.length=i:=(by rw[hd];simp;omega);have h:aY [some (c_ d (n+1))]:=aY.one dE;have g:aY [some (c_ (d++[x.ty]) n)]:=aY.one dE;have c:=abk hS n (i+1) (by omega) (by omega) (d++[x.ty]) (by rw[zaM,hx,hd];simp);have a:a_ (c_ d (n+1)) (i*5) x.ty.cl=c_ (d++[x.ty]) n:=(by rw[<-e];exact rf);have b:i*5+5<=(c_ d (n+1)).length:=(by rw[iy];omega);have h1:=h.norm;have h2:=g.norm;simp at h1 h2;rw[g224L0e]at c⊢;simp[Ty.cl,h2]at c a;simp(disch:=omega)[-getElem?_pos,g224B0,hx,hi,h1,Ty.cl,a,b,aq];rw[g224L0e];simp[c,h2]
def c224i(hf:S.length<1099511627776)(hS:Sm l)(j:∀c∈l,Good S c.ty):(aE AP).i 224 [.pv (.ae (l.map As.pv))] [] []=some ([.own ((vars (l.map As.ty)).map vI) 0],[],[(vars (l.map As.ty)).length]):=by
 have h:=abk hS l.length 0 (by omega) (by omega) [] (by simp);have k:=g55i hf (l:=l.map As.ty) (by unfold Sm at*;simpa using hS) (by intro t ht;simp at ht;obtain⟨c,f,rfl⟩:=ht;exact j c f);have e:c_ [] l.length=(List.replicate l.length [.pv (vI 0),.pv (.str []),.pv (vI 0),.pv (vI 0),.pv (.ae [])]).flatten:=by simp[c_,PL]
 have g:aY [some (c_ [] l.length)]:=aY.one dE;have h1:=g.norm;have b:=om (d:=l.map As.ty);have a:=iy (d:=l.map As.ty) (m:=0);rw[e]at h h1;rw[g224L0e]at h;unfold Sm at hS;have b1:(l.length:Int)<=9223372036854775807:=by omega
 have n:(l.length:Int)*64<=140737488355328:=by omega
 simp at h1;simp[h1]at h;simp at b a k;rw[aC g224];simp(disch:=omega)[g224,b1,n,g224L0e,h1,h,b,a,k]
def YH(hS:Sm E):∀(n i:Nat),E.length-i=n->i<=E.length->∀acc:List Sc,acc.length<=i->
   cl AP g199L0 ⟨[(3,.own (acc.map As.pv) 0),(7,.pv (.ae (E.map En.pv))),(8,.pv (vI E.length)),(9,.pv (vI i))],[],[],[acc.length]⟩=
     some (.exit 0,⟨[(3,.own ((acc++(E.drop i).map En.sc).map As.pv) 0),(7,.pv (.ae (E.map En.pv))),(8,.pv (vI E.length)),(9,.pv (vI E.length)),(10,.pv (.bool false))],[],[],[(acc++(E.drop i).map En.sc).length]⟩)
 |0,i,hn,hi,acc,c=>by
  have:i=E.length:=by omega
  subst this;rw[g199L0e];simp[g199B0]
 |n+1,i,hn,hi,acc,c=>by
  have hi:i<E.length:=(by omega);obtain⟨x,hx⟩:=aR hi;unfold Sm at hS;have b:(acc.length+1)*72<=140737488355328:=(by omega);have a:=YH hS n (i+1) (by omega) (by omega) (acc++[x.sc]) (by simp;omega);rw[g199L0e]at a⊢;rw[aZ hx];simp at a;simp(disch:=omega)[-getElem?_pos,g199B0,hx,hi,aq,b];rw[g199L0e];simp[a]
variable{l:List En}
def c199(hf:S.length<1099511627776)(hS:Sm l)(f:∀x∈l,Good S x.sc.ty):(aE AP).p 199 [.ae (l.map En.pv)]=some [.ae ((dQ l).map vI)]:=by
 have b:=c182 hS;have hl:=gM l;have hs:Sm (aW l):=by unfold Sm at*;omega
 have h:=YH hs _ 0 rfl (by omega) [] (by simp);have a:=c224i hf (l:=(aW l).map En.sc) (by unfold Sm at*;simpa using hs) (by intro c d;simp at d;obtain⟨x,hx,rfl⟩:=d;exact f x (cd l x hx));have e:((aW l).map En.sc).map As.ty=(aW l).map fun x=>x.sc.ty:=by simp
 rw[e]at a;rw[g199L0e]at h;rw[aB g199];simp at b a h;simp[g199,b,g199L0e,h,a,dQ]
def c199i(hf:S.length<1099511627776)(hS:Sm l)(f:∀x∈l,Good S x.sc.ty):(aE AP).i 199 [.pv (.ae (l.map En.pv))] [] []=some ([.own ((dQ l).map vI) 0],[],[(dQ l).length]):=by
 have b:=c182 hS;have hl:=gM l;have hs:Sm (aW l):=by unfold Sm at*;omega
 have h:=YH hs _ 0 rfl (by omega) [] (by simp);have a:=c224i hf (l:=(aW l).map En.sc) (by unfold Sm at*;simpa using hs) (by intro c d;simp at d;obtain⟨x,hx,rfl⟩:=d;exact f x (cd l x hx));have e:((aW l).map En.sc).map As.ty=(aW l).map fun x=>x.sc.ty:=by simp
 rw[e]at a;rw[g199L0e]at h;rw[aC g199];simp at b a h;simp[g199,b,g199L0e,h,a,dQ]
theorem M6(l:List En):aW (aW l)=aW l:=by
 induction l with
 |nil=>rfl
 |cons a r b=>
  simp only[aW];split
  .exact b
  .rename_i h
   have h2:((aW r).any fun x=>decide (x.name=a.name))=false:=by
    rw[zcd];intro h3;rw[zc7]at h3;obtain⟨x,hx,e⟩:=h3;exact h (zc7.2 ⟨x,cd r x hx,e⟩)
   simp only[aW,h2,b];simp
variable{l:List Ty}
def xh(hf:S.length<1099511627776)(a:∀t∈l,Good S t):Sm (vars l):=by
 have c0:gV (S.map Ty.id) []:=mu (by simpa using hf);refine(c0.fold (l:=l.flatMap Ty.nodes) ?_).len;intro x hx b;simp only[zaf]at hx;obtain⟨t,ht,hx⟩:=hx;exact zbt ((a t ht).sub x (mz (a t ht).wf x hx b))
def oC(out:List Int)(x:Int):List Int:=if x∈out then out else out++[x]
mutual
def Ty.gC(k:Int):Ty->Bool
 |⟨q,_,_,_,as⟩=>decide (q=k)|| Ty.D6 k as
def Ty.D6(k:Int):List Ty->Bool
 |[]=>false
 |a::r=>a.gC k || Ty.D6 k r
end
def Ty.zd(k:Int):∀l:List Ty,Ty.D6 k l=l.any (Ty.gC k)
 |[]=>by simp[Ty.D6]
 |a::r=>by simp[Ty.D6,Ty.zd k r]
def Ty.o_(k:Int)(t:Ty):t.gC k=(decide (t.kind=k)|| t.args.any (Ty.gC k)):=by
 cases t;simp only[Ty.gC,Ty.zd]
def abl(hS:Sm g.args)(h:∀x∈g.args,(aE AP).p 351 [x.pv,vI k]=some [.bool (x.gC k)]):∀(n i:Nat),g.args.length-i=n->i<=g.args.length->
   cl AP g351L0 ⟨[(1,.pv (vI k)),(2,.au 2 0),(5,.pv (vI i))],[(2,[.pv (vI g.kind),.pv (.str g.name),.pv (vI g.id),.pv (vI g.home),.pv (.ae (g.args.map Ty.pv))])],[],[]⟩=
     if (g.args.drop i).any (Ty.gC k)=true then some (.ret,⟨[(4,.pv (.bool true))],[],[],[]⟩)
     else some (.exit 0,⟨[(1,.pv (vI k)),(2,.au 2 0),(5,.pv (vI g.args.length)),(14,.pv (.bool false))],[(2,[.pv (vI g.kind),.pv (.str g.name),.pv (vI g.id),.pv (vI g.home),.pv (.ae (g.args.map Ty.pv))])],[],[]⟩)
 |0,i,hn,hi=>by
  have:i=g.args.length:=by omega
  subst this;rw[g351L0e];simp[g351B0]
 |n+1,i,hn,hi=>by
  have hi:i<g.args.length:=(by omega);obtain⟨x,hx⟩:=aR hi;unfold Sm at hS;have c:=h x (aM hx);have a:=abl hS h n (i+1) (by omega) (by omega);rw[g351L0e]at a⊢;rw[aZ hx,zbU];cases e:x.gC k with
  |true=>
   rw[e]at c;simp at c;simp(disch:=omega)[-getElem?_pos,g351B0,hx,hi,c]
  |false=>
   rw[e]at c;simp at c;rw[zcu,<-a];simp(disch:=omega)[-getElem?_pos,g351B0,hx,hi,c,aq];rw[g351L0e];simp[g351B0]
def c351(a:g.Ok):(aE AP).p 351 [g.pv,vI k]=some [.bool (g.gC k)]:=by
 revert a
 refine Ty.cb (p:=fun g=>g.Ok->(aE AP).p 351 [g.pv,vI k]=some [.bool (g.gC k)]) ?_ g;intro g c a;have h:=abl (k:=k) a.sm (fun x hx=>c x hx (a.df x hx)) _ 0 rfl (by omega);rw[aB g351,Ty.o_];rw[g351L0e]at h;by_cases e:g.kind=k
 .simp[g351,e]
 .cases b:g.args.any (Ty.gC k)with
  |true=>simp only[zar,b]at h;simp at h;simp[g351,e,g351L0e,h]
  |false=>simp only[zar,b]at h;simp at h;simp[g351,e,g351L0e,h]
def ze:∀{l:List Int}{out:List Int}{x:Int},x∈l.foldl oC out<->x∈out\/x∈l
 |[],_,_=>by simp
 |y::l,out,x=>by
  simp only[zaO,ze,oC];split
  .rename_i h;constructor
   .rintro(h1|h1)
    .exact .inl h1
    .exact .inr (by simp[h1])
   .rintro(h1|h1)
    .exact .inl h1
    .simp at h1;rcases h1 with rfl|h1
     .exact .inl h
     .exact .inr h1
  .simp;constructor
   .rintro((h1|h1)|h1)<;>simp[h1]
   .rintro(h1|h1|h1)<;>simp[h1]
def YI{t:Ty}(hS:Sm L)(hi:Sm ids):∀(n i:Nat),L.length-i=n->i<=L.length->∀acc:List As,acc.length<=i->
   cl AP g437L0 ⟨[(1,.pv (.ae (ids.map vI))),(2,.au 2 0),(4,.au 4 0),(5,.own (acc.map As.pv) 0),(10,.pv (.ae (L.map vI))),(11,.pv (vI L.length)),(12,.pv (vI i))],[(2,[.pv (vI t.kind),.pv (.str t.name),.pv (vI t.id),.pv (vI t.home),.pv (.ae (t.args.map Ty.pv))]),(4,[.pv (vI 0),.pv (vI 0),.pv (.str []),.pv (vI 0),.pv (vI 0),.own [] 1])],[],[acc.length,0]⟩=
     some (.exit 0,⟨[(1,.pv (.ae (ids.map vI))),(2,.au 2 0),(4,.au 4 0),(5,.own ((bJ ids (L.drop i) acc).map As.pv) 0),(10,.pv (.ae (L.map vI))),(11,.pv (vI L.length)),(12,.pv (vI L.length)),(13,.pv (.bool false))],[(2,[.pv (vI t.kind),.pv (.str t.name),.pv (vI t.id),.pv (vI t.home),.pv (.ae (t.args.map Ty.pv))]),(4,[.pv (vI 0),.pv (vI 0),.pv (.str []),.pv (vI 0),.pv (vI 0),.own [] 1])],[],[(bJ ids (L.drop i) acc).length,0]⟩)
 |0,i,hn,a,acc,f=>by
  have:i=L.length:=by omega
  subst this;rw[g437L0e];simp[g437B0,bJ]
 |n+1,i,hn,a,acc,f=>by
  have a:i<L.length:=(by omega);obtain⟨x,hx⟩:=aR a;unfold Sm at hS;have k:=c98 hi (y:=x);have d:(acc.length+1)*72<=140737488355328:=(by omega);rw[aZ hx];by_cases e:x∈ids
  .have b:=YI (t:=t) hS hi n (i+1) (by omega) (by omega) (acc++[⟨x,bm acc.length⟩]) (by simp;omega);have c:bJ ids (x::L.drop (i+1)) acc=bJ ids (L.drop (i+1)) (acc++[⟨x,bm acc.length⟩]):=(by simp[bJ,e]);rw[c];rw[g437L0e]at b⊢;rw[zaE e]at k;simp[bm]at b;simp(disch:=omega)[-getElem?_pos,g437B0,hx,a,k,aq,d,bm];rw[g437L0e];simp[b,bm]
  .have b:=YI (t:=t) hS hi n (i+1) (by omega) (by omega) acc (by omega);have c:bJ ids (x::L.drop (i+1)) acc=bJ ids (L.drop (i+1)) acc:=(by simp[bJ,e]);rw[c];rw[g437L0e]at b⊢;rw[zaB e]at k;simp at b;simp(disch:=omega)[-getElem?_pos,g437B0,hx,a,k,aq];rw[g437L0e];simp[b]
def c437(hf:S.length<1099511627776){t:Ty}(b:Good S t)(hi:Sm ids):(aE AP).p 437 [t.pv,.ae (ids.map vI)]=some [(cG ids t (vars [t])).pv]:=by
 have a:∀x∈[t],Good S x:=by simpa using b
 have d:=YB hf (l:=[t]) (by simp[Sm]) a;have e:=xh hf a;have k2:=YI (t:=t) e hi _ 0 rfl (by omega) [] (by simp);have hl:=qn (ids:=ids) (vars [t]) [];have c:=c45 (s:=bJ ids (vars [t]) []) (by unfold Sm at e⊢;simp at hl;omega) b.ok b.wf;rw[aB g437];rw[g437L0e]at k2;simp at d k2 c;simp[g437,d,g437L0e,k2,c,cG]
def c438{t:Ty}:(aE AP).p 438 [t.pv]=some [(As.mk 0 t).pv]:=by
 rw[aB g438];simp[g438]
def vr(x:Ty):List Int:=if x.kind=1 then[x.id]else[]
def rC(t:Ty):List Int:=t.nodes.flatMap vr
def rD(t:Ty):rC t=vr t++t.args.flatMap rC:=by
 unfold rC;rw[Ty.aI,zaq,List.flatMap_assoc]
theorem ni{a:Type}{f g:α->List a}:∀{l:List α},(∀x∈l,f x=g x)->l.flatMap f=l.flatMap g
 |[],_=>rfl
 |x::l,h=>by simp only[zaq];rw[h x (by simp),ni (l:=l) (fun y hy=>h y (by simp[hy]))]
theorem JA:vars [g]=(rC g).foldl oC []:=by
 unfold vars rC;simp only[zaq,zbO,zaJ];generalize ([]:List Int)=out;generalize g.nodes=l;induction l generalizing out with
 |nil=>rfl
 |cons x l a=>
  simp only[zaO,zaq,zcb];rw[a];congr 1;by_cases e:x.kind=1
  .by_cases e2:x.id∈out<;>simp[bP,vr,e,oC,e2]
  .simp[bP,vr,e]
def eT:Nat->List Int->List As
 |_,[]=>[]
 |n,v::r=>⟨v,bm n⟩::eT (n+1) r
theorem zg:∀{l:List Int}{n:Nat},(eT n l).length=l.length
 |[],_=>rfl
 |v::r,n=>by simp[eT,zg]
def jT:∀(vs:List Int)(acc:List As),bJ ids vs acc=acc++eT acc.length (vs.filter (fun v=>decide (v∈ids)))
 |[],acc=>by simp[bJ,eT]
 |v::r,acc=>by
  simp only[bJ];by_cases e:v∈ids
  .rw[zai e,jT r];simp[e,eT]
  .rw[zad e,jT r];simp[e]
def abm(b:Sm L){t:Ty}:∀(n i:Nat),L.length-i=n->i<=L.length->∀acc:List As,acc.length<=i->
   cl AP g363L0 ⟨[(1,.au 1 0),(2,.au 2 0),(3,.pv (.ae (L.map vI))),(4,.own (acc.map As.pv) 0),(5,.pv (vI i))],[(1,tC t),(2,zC 1)],[],[acc.length,0]⟩=
     some (.exit 0,⟨[(1,.au 1 0),(2,.au 2 0),(3,.pv (.ae (L.map vI))),(4,.own ((acc++(L.drop i).map fun v=>As.mk v a8).map As.pv) 0),(5,.pv (vI L.length)),(12,.pv (.bool false))],[(1,tC t),(2,zC 1)],[],[(acc++(L.drop i).map fun v=>(⟨v,a8⟩:As)).length,0]⟩)
 |0,i,hn,hi,acc,d=>by
  have:i=L.length:=by omega
  subst this;rw[g363L0e];simp[g363B0,tC,zC]
 |n+1,i,hn,hi,acc,d=>by
  have hi:i<L.length:=(by omega);obtain⟨x,hx⟩:=aR hi;unfold Sm at b;have c:(acc.length+1)*72<=140737488355328:=(by omega);have k:=c34;have a:=abm (t:=t) b n (i+1) (by omega) (by omega) (acc++[⟨x,a8⟩]) (by simp;omega);rw[g363L0e]at a⊢;rw[aZ hx];simp[tC,zC,a8]at a k;simp(disch:=omega)[-getElem?_pos,g363B0,tC,zC,a8,hx,hi,k,aq,c];rw[g363L0e];simp[a]
def c363(hf:S.length<1099511627776)(a:∀x∈S,x.Ok){t:Ty}(b:Good S t):(aE AP).p 363 [t.pv]=some [(t.sub ((vars [t]).map fun v=>As.mk v a8)).pv]:=by
 have c:=Be hf a (l:=[t]) (by simp[Sm]) (by simpa using b);have d:=xh hf (l:=[t]) (by simpa using b);have h:=abm (t:=t) d _ 0 rfl (by omega) [] (by simp);have k2:=c46 (s:=(vars [t]).map fun v=>As.mk v a8) (by unfold Sm at*;simpa using d) b.ok;generalize vars [t]=vs at*;rw[g363L0e]at h;simp[tC,zC]at h;simp at c k2;rw[aB g363];simp[g363,c,k2,g363L0e,h]
def gz(k:Nat):List AV:=[.pv (vI 0),.pv (vI 0),.pv (.str []),.pv (vI 0),.pv (vI 0),.own [] k]
inductive Qy (k:Int):Ex->Prop
 |mk {e:Ex}:e.kind≠k->(∀x∈e.ch,Qy k x)->Qy k e
def Qy.h(h:Qy k e):e.kind≠k:=by cases h;assumption
def Qy.c(h:Qy k e):∀x∈e.ch,Qy k x:=by cases h;assumption
def abn{l:List Ex}(hl:l.length<=2000)(e:∀x∈l,∃b,(aE AP).p 307 [x.pv,vI k]=some [.bool b]/\(b=false->Qy k x)):∀(n i:Nat),l.length-i=n->i<=l.length->
   cl AP g307L0 ⟨[(1,.pv (vI k)),(5,.pv (.ae (l.map Ex.pv))),(6,.pv (vI i))],[],[],[]⟩=some (.ret,⟨[(4,.pv (.bool true))],[],[],[]⟩)\/
   cl AP g307L0 ⟨[(1,.pv (vI k)),(5,.pv (.ae (l.map Ex.pv))),(6,.pv (vI i))],[],[],[]⟩=some (.exit 0,⟨[(1,.pv (vI k)),(5,.pv (.ae (l.map Ex.pv))),(6,.pv (vI l.length)),(16,.pv (.bool false))],[],[],[]⟩)/\∀x∈l.drop i,Qy k x
 |0,i,hn,hi=>by
  have:i=l.length:=by omega
  subst this;refine .inr ⟨?_,by simp⟩;rw[g307L0e];simp[g307B0]
 |n+1,i,hn,hi=>by
  have hi:i<l.length:=(by omega);obtain⟨x,hx⟩:=aR hi;obtain⟨b,c,g⟩:=e x (aM hx);have d:=y8.len x;have a:=y8.of x;cases b with
  |true=>
   refine .inl ?_;simp at c d a;rw[g307L0e];simp(disch:=omega)[-getElem?_pos,g307B0,hx,hi,c,d,a]
  |false=>
   have f:=abn hl e n (i+1) (by omega) (by omega)
   have e1:cl AP g307L0 ⟨[(1,.pv (vI k)),(5,.pv (.ae (l.map Ex.pv))),(6,.pv (vI i))],[],[],[]⟩=cl AP g307L0 ⟨[(1,.pv (vI k)),(5,.pv (.ae (l.map Ex.pv))),(6,.pv (vI (i+1:Nat)))],[],[],[]⟩:=by
    conv=>lhs;rw[g307L0e]
    simp at c d a;simp(disch:=omega)[-getElem?_pos,g307B0,hx,hi,c,aq,d,a]
   rw[e1];refine f.imp_right fun h=>⟨h.1,?_⟩;rw[aZ hx];intro y hy;simp only[zah]at hy;rcases hy with rfl|hy
   .exact g rfl
   .exact h.2 y hy
def c307k(h:e.Ok)(k:Int):∃b,(aE AP).p 307 [e.pv,vI k]=some [.bool b]/\(b=false->Qy k e):=by
 induction h with
 | @mk e f i d ht g c=>
  have a:=c145 (Ex.Ok.mk f i d ht g);have hl:e.ch.length<=2000:=(by rw[Ex.i_];omega);have L:=abn hl c _ 0 rfl (by omega);rw[g307L0e,zar]at L;simp at L a;by_cases q:e.kind=k
  .refine⟨true,?_,by simp⟩;rw[aB g307];simp[g307,q]
  .rcases L with L|L
   .refine⟨true,?_,by simp⟩;rw[aB g307];simp[g307,q,a,g307L0e,L]
   .obtain⟨L,hn⟩:=L;refine⟨false,?_,fun _=>.mk q hn⟩;rw[aB g307];simp[g307,q,a,g307L0e,L]
def c307(h:e.Ok)(k:Int):∃b,(aE AP).p 307 [e.pv,vI k]=some [.bool b]:=by
 obtain⟨b,h,_⟩:=c307k h k;exact⟨b,h⟩
def bh(i:Nat):List Int->List As
 |[]=>[]
 |v::r=>⟨v,az i⟩::bh (i+1) r
theorem dF{l:List Int}:(bh i l).length=l.length:=by
 induction l generalizing i with
 |nil=>rfl
 |cons a r b=>simp[bh,b]
def Wq{l:List Ty}(b:Sm L):∀(n i:Nat),L.length-i=n->i<=L.length->∀acc:List As,acc.length<=i->
   cl AP g395L0 ⟨[(0,.pv (.ae (l.map Ty.pv))),(3,.pv (.ae (L.map vI))),(4,.own (acc.map As.pv) 0),(5,.pv (vI i))],[],[],[acc.length]⟩=
     some (.exit 0,⟨[(0,.pv (.ae (l.map Ty.pv))),(3,.pv (.ae (L.map vI))),(4,.own ((acc++bh i (L.drop i)).map As.pv) 0),(5,.pv (vI L.length)),(13,.pv (.bool false))],[],[],[(acc++bh i (L.drop i)).length]⟩)
 |0,i,hn,hi,acc,d=>by
  have:i=L.length:=by omega
  subst this;rw[g395L0e];simp[g395B0,bh]
 |n+1,i,hn,hi,acc,d=>by
  have hi:i<L.length:=(by omega);obtain⟨x,hx⟩:=aR hi;unfold Sm at b;have c:(acc.length+1)*72<=140737488355328:=(by omega);have k:=c63 (n:=i);have a:=Wq (l:=l) b n (i+1) (by omega) (by omega) (acc++[As.mk x (az i)]) (by simp;omega);rw[g395L0e]at a⊢;rw[aZ hx];simp[az]at a k;simp(disch:=omega)[-getElem?_pos,g395B0,hx,hi,k,aq,c,bh,az];rw[g395L0e];simp[a]
def Wr(hl:Sm l)(c:∀t∈l,t.Ok)(hs:Sm s):∀(n i:Nat),l.length-i=n->i<=l.length->∀acc:List Ty,acc.length<=i->
   cl AP g395L1 ⟨[(0,.pv (.ae (l.map Ty.pv))),(4,.own (s.map As.pv) 0),(6,.own (acc.map Ty.pv) 1),(7,.pv (vI i))],[],[],[s.length,acc.length]⟩=
     some (.exit 2,⟨[(0,.pv (.ae (l.map Ty.pv))),(4,.own (s.map As.pv) 0),(6,.own ((acc++(l.drop i).map (Ty.sub s)).map Ty.pv) 1),(7,.pv (vI l.length)),(29,.pv (.bool false))],[],[],[s.length,(acc++(l.drop i).map (Ty.sub s)).length]⟩)
 |0,i,hn,hi,acc,e=>by
  have:i=l.length:=by omega
  subst this;rw[g395L1e];simp[g395B1]
 |n+1,i,hn,hi,acc,e=>by
  have hi:i<l.length:=(by omega);obtain⟨x,hx⟩:=aR hi;have b:=hl;unfold Sm at hl;have d:(acc.length+1)*64<=140737488355328:=(by omega);have k:=c46 hs (c x (aM hx));have a:=Wr b c hs n (i+1) (by omega) (by omega) (acc++[x.sub s]) (by simp;omega);rw[g395L1e]at a⊢;rw[aZ hx];simp at a k;simp(disch:=omega)[-getElem?_pos,g395B1,hx,hi,k,aq,d];rw[g395L1e];simp[a]
def c395i(hf:S.length<1099511627776)(a:∀x∈S,x.Ok)(hl:Sm l)(b:∀t∈l,Good S t):(aE AP).i 395 [.pv (.ae (l.map Ty.pv))] [] []=some ([.own ((l.map (Ty.sub (bh 0 (vars l)))).map Ty.pv) 0],[],[l.length]):=by
 have c:=Be hf a hl b;have d:=xh hf b;have h1:=Wq (l:=l) d _ 0 rfl (by omega) [] (by simp);have hs:Sm (bh 0 (vars l)):=by unfold Sm at*;rw[dF];exact d
 have h2:=Wr hl (fun t ht=>(b t ht).ok) hs _ 0 rfl (by omega) [] (by simp);generalize vars l=vs at*;rw[g395L0e]at h1;rw[g395L1e]at h2;simp at h1 h2 c;generalize bh 0 vs=s at*;rw[aC g395];simp[g395,c,g395L0e,h1,g395L1e,h2]
def c377(hs:Sm s){c:Sc}(a:c.ty.Ok):(aE AP).p 377 [.ae (s.map As.pv),c.pv]=some [(As.mk c.id (c.ty.sub s)).pv]:=by
 have k:=c22 hs a;generalize c.ty.sub s=u at*;simp at k;rw[aB g377];simp[g377,k]
def Ws(hl:Sm E){g:Ty}{b:PV}:∀(n i:Nat),E.length-i=n->i<=E.length->∀acc:List Ty,acc.length<=i->
   cl AP g376L0 ⟨[(2,.pv b),(3,.au 3 0),(6,.au 6 0),(8,.own (acc.map Ty.pv) 0),(9,.pv (.ae (E.map En.pv))),(10,.pv (vI i))],[(3,tC g),(6,[.own [] 1,.own [] 2])],[],[acc.length,0,0]⟩=
     some (.exit 0,⟨[(2,.pv b),(3,.au 3 0),(6,.au 6 0),(8,.own ((acc++(E.drop i).map fun x=>x.sc.ty).map Ty.pv) 0),(9,.pv (.ae (E.map En.pv))),(10,.pv (vI E.length)),(21,.pv (.bool false))],[(3,tC g),(6,[.own [] 1,.own [] 2])],[],[(acc++(E.drop i).map fun x=>x.sc.ty).length,0,0]⟩)
 |0,i,hn,hi,acc,d=>by
  have:i=E.length:=by omega
  subst this;rw[g376L0e];simp[g376B0,tC]
 |n+1,i,hn,hi,acc,d=>by
  have hi:i<E.length:=(by omega);obtain⟨x,hx⟩:=aR hi;unfold Sm at hl;have c:(acc.length+1)*64<=140737488355328:=(by omega);have a:=Ws (g:=g) (b:=b) hl n (i+1) (by omega) (by omega) (acc++[x.sc.ty]) (by simp;omega);rw[g376L0e]at a⊢;rw[aZ hx];simp[tC]at a;simp(disch:=omega)[-getElem?_pos,g376B0,tC,hx,hi,aq,c];rw[g376L0e];simp[a]
def nE:Nat->cK
 |0=>⟨[],[]⟩
 |i+1=>a7 (nE i) 1000000 false
theorem Qz:∀i,ub (nE i).sl=i
 |0=>rfl
 |i+1=>by
  have:=Qz i;simp only[ub]at this;simp[nE,a7,ub,List.countP_append,this]
def nj{p:Vp}:∀i,Inv i (i*i+4*i) (eL p i) (nE i)
 |0=>⟨rfl,by simp[nE,ub],by simp[nE],by simp[nE],⟨fun _=>0,by rintro i v ⟨k,x,_,h,_⟩;simp[nE]at h⟩,by simp[nE],by simp[nE]⟩
 |i+1=>by
  have I:=nj (p:=p) i;refine sM I 1000000 false ?_;rw[Qz];have:(i+1)*(i+1)=i*i+2*i+1:=(by rw[zaG,zb9];omega);omega
def Wt(c:L.length<=5000):∀(n i:Nat),L.length-i=n->i<=L.length->∀acc:List As,acc.length<=i->
   cl AP g376L1 ⟨[(2,.pv (.ae [])),(6,.au 6 0),(11,.pv (.ae (L.map vI))),(12,.au 12 0),(13,.own (acc.map As.pv) 0),(14,.pv (vI i))],[(6,[.own [] 1,.own [] 2]),(12,sC (nE i))],[],[acc.length,0,0]⟩=
     some (.exit 2,⟨[(2,.pv (.ae [])),(6,.au 6 0),(11,.pv (.ae (L.map vI))),(12,.au 12 0),(13,.own ((acc++bh i (L.drop i)).map As.pv) 0),(14,.pv (vI L.length)),(42,.pv (.bool false))],[(6,[.own [] 1,.own [] 2]),(12,sC (nE L.length))],[],[(acc++bh i (L.drop i)).length,0,0]⟩)
 |0,i,hn,hi,acc,e=>by
  have:i=L.length:=by omega
  subst this;rw[g376L1e];simp[g376B1,sC,bh]
 |n+1,i,hn,hi,acc,e=>by
  have hi:i<L.length:=(by omega);obtain⟨x,hx⟩:=aR hi;have d:(acc.length+1)*72<=140737488355328:=(by omega);have b:=c95 (s:=[]) (by simp[Sm]) (y:=x);have I:=nj (p:=.all) i;have g:i*i<=5000*5000:=zbX (by omega) (by omega);have k:=c381 I.Qt (by omega) (by omega) 1000000 false;rw[I.len]at k;have a:=Wt c n (i+1) (by omega) (by omega) (acc++[As.mk x (az i)]) (by simp;omega);simp only[nE]at a;generalize a7 (nE i) 1000000 false=f at*;generalize nE i=s0 at*;rw[g376L1e]at a⊢;rw[aZ hx];simp[az]at k;simp[sC,az]at a;simp at b;simp(disch:=omega)[-getElem?_pos,g376B1,sC,hx,hi,k,b,aq,d,bh,az];rw[g376L1e];simp[a]
def c376(hf:S.length<=5000)(m:∀x∈S,x.Ok)(C:Good S g){l:List En}(hl:Sm l)(B:l.length<1000000)(D:∀x∈l,Good S x.sc.ty):∃vs:List Int,vs=vars (g::(aW l).map fun x=>x.sc.ty)/\(vs.Nodup/\(∀w∈vs,w∈S.map Ty.id)/\∀t∈g::(aW l).map (fun x=>x.sc.ty),∀y∈t.nodes,y.kind=1->y.id∈vs)/\
   (aE AP).p 376 [g.pv,.ae (l.map En.pv),.ae []]=some [(nE vs.length).pv,.ae ((bh 0 vs).map As.pv)]:=by
 have A:=gM l;have e:=c201 hl
 have a:∀t∈(g::(aW l).map fun x=>x.sc.ty),Good S t:=by
  intro t ht;simp only[zah,zak]at ht;rcases ht with rfl|⟨x,hx,rfl⟩
  .exact C
  .exact D x (cd l x hx)
 have hs:Sm (aW l):=by unfold Sm at*;omega
 have h1:=Ws hs (g:=g) (b:=.ae []) _ 0 rfl (by omega) [] (by simp);have k2:=Be (by omega) m (l:=g::(aW l).map fun x=>x.sc.ty) (by unfold Sm at*;simp;omega) a
 have c:∀l:List Ty,∀out:List Int,(∀w∈out,w∈l.foldl bP out)/\∀y∈l,y.kind=1->y.id∈l.foldl bP out:=by
  intro l;induction l with
  |nil=>exact fun out=>⟨fun _ h=>h,by simp⟩
  |cons x r u=>
   intro out;have h1:∀w∈out,w∈bP out x:=fun w hw=>by unfold bP;split;exact zbM _ hw;exact hw
   have h2:x.kind=1->x.id∈bP out x:=fun k=>by
    unfold bP;by_cases q:x.id∈out
    .rw[zad fun h=>h.2 q];exact q
    .rw[zai ⟨k,q⟩];simp
   obtain⟨n,v⟩:=u (bP out x);refine⟨fun w hw=>n w (h1 w hw),fun y hy k=>?_⟩;rcases zah.1 hy with rfl|hy
   .exact n _ (h2 k)
   .exact v y hy k
 have d:(vars (g::(aW l).map fun x=>x.sc.ty)).Nodup/\(∀w∈vars (g::(aW l).map fun x=>x.sc.ty),w∈S.map Ty.id)/\∀t∈g::(aW l).map (fun x=>x.sc.ty),∀y∈t.nodes,y.kind=1->y.id∈vars (g::(aW l).map fun x=>x.sc.ty):=by
  have c0:gV (S.map Ty.id) []:=mu (by simp;omega)
  have c1:=c0.fold (l:=(g::(aW l).map fun x=>x.sc.ty).flatMap Ty.nodes) (by
   intro x hx i;simp only[zaf]at hx;obtain⟨t,ht,hx⟩:=hx;exact zbt ((a t ht).sub x (mz (a t ht).wf x hx i)))
  refine⟨c1.nodup,c1.sub,fun t ht y hy k=>(c _ []).2 y ?_ k⟩;simp only[zaf];exact⟨t,ht,hy⟩
 clear c
 have z:(vars (g::(aW l).map fun x=>x.sc.ty)).length<=5000:=by
  have c0:gV (S.map Ty.id) []:=mu (by simp;omega)
  have c1:=c0.fold (l:=(g::(aW l).map fun x=>x.sc.ty).flatMap Ty.nodes) (by
   intro x hx i;simp only[zaf]at hx;obtain⟨t,ht,hx⟩:=hx;exact zbt ((a t ht).sub x (mz (a t ht).wf x hx i)))
  have:=fh c1.nodup c1.sub;rw[zaD]at this;unfold vars;omega
 refine⟨_,rfl,d,?_⟩;clear d;generalize vars (g::(aW l).map fun x=>x.sc.ty)=vs at*;have h2:=Wt z _ 0 rfl (by omega) [] (by simp);have f:=c388;have o:(1+(aW l).length)*64<=140737488355328:=by omega
 rw[g376L0e]at h1;rw[g376L1e]at h2;generalize nE vs.length=F at*;simp[tC]at h1;simp[nE,sC]at h2;have j:=mo.head ((aW l).map fun x=>x.sc.ty);generalize aW l=E at*;simp at e k2 f j;rw[aB g376];by_cases s:E=[]
 .subst s;simp at h1 e k2;simp(disch:=omega)[g376,e,g376L0e,h1,o,j,k2,f,g376L1e,h2]
 .simp(disch:=omega)[g376,e,g376L0e,h1,o,j,s,k2,f,g376L1e,h2]
def mE(s:cK):Nat->cK
 |0=>s
 |i+1=>a7 (mE s i) 1000000 false
def Wu{s:List Sl}:ub s<=s.length:=List.countP_le_length
def pa{s:cK}(I:Inv n M (eL p n) s):∀i,Inv (n+i) (M+i*(2*(n+i)+4)) (eL p (n+i)) (mE s i)
 |0=>by simpa[mE]using I
 |i+1=>by
  have J:=pa I i;have hu:ub (mE s i).sl<=n+i:=by have:=Wu (s:=(mE s i).sl);rw[J.len]at this;exact this
  refine sM J 1000000 false ?_
  have:(i+1)*(2*(n+(i+1))+4)=i*(2*(n+i)+4)+i*2+(2*(n+(i+1))+4):=by
   rw[zaG,Nat.one_mul,show 2*(n+(i+1))+4=(2*(n+i)+4)+2 by omega,zb9]
  omega
def xj(c:Sc):List AV:=[.pv (vI c.id),.pv (vI c.ty.kind),.pv (.str c.ty.name),.pv (vI c.ty.id),.pv (vI c.ty.home),.pv (.ae (c.ty.args.map Ty.pv))]
variable{s:cK}{S:Sg}
def Wv(I:Inv n M (eL p n) s)(b:Y.id=K)(hN:n+K<=10000)(h:M<=1000000){g:Ty}{p3:PV}{p4:PV}:∀(k i:Nat),K-i=k->i<=K->∀acc:List Ty,acc.length=i->
   cl AP g389L0 ⟨[(3,.pv p3),(4,.pv p4),(5,.au 5 0),(6,.au 6 0),(7,.au 7 0),(13,.own (acc.map Ty.pv) 0),(14,.pv (vI i))],[(5,sC (mE s i)),(6,xj Y),(7,tC g)],[],[acc.length]⟩=
     some (.exit 0,⟨[(3,.pv p3),(4,.pv p4),(5,.au 5 0),(6,.au 6 0),(7,.au 7 0),(13,.own ((acc++(List.range' i (K-i)).map fun j=>az (n+j:Nat)).map Ty.pv) 0),(14,.pv (vI K)),(39,.pv (.bool false))],[(5,sC (mE s K)),(6,xj Y),(7,tC g)],[],[K]⟩)
 |0,i,e,hi,acc,d=>by
  have:i=K:=by omega
  subst this;rw[g389L0e];simp[g389B0,sC,xj,tC,b,d]
 |k+1,i,e,hi,acc,d=>by
  have hi:i<K:=(by omega);have J:=pa I i;have m:i*(2*(n+i)+4)<=10000*20004:=zbX (by omega) (by omega);have c1:=c381 J.Qt (by omega) (by omega) 1000000 false;rw[J.len]at c1;have a:=Wv I b hN h (g:=g) (p3:=p3) (p4:=p4) k (i+1) (by omega) (by omega) (acc++[az (n+i:Nat)]) (by simp;omega)
  have hr:List.range' i (K-i)=i::List.range' (i+1) (K-(i+1)):=by
   rw[show K-i=(K-(i+1))+1 by omega,zcy]
  have f:(acc.length+1)*64<=140737488355328:=(by omega);simp only[mE]at a;rw[hr];generalize a7 (mE s i) 1000000 false=l at*;generalize mE s i=s0 at*;rw[g389L0e]at a⊢;simp[az]at c1;simp[sC,xj,tC,az,b]at a;simp(disch:=omega)[-getElem?_pos,g389B0,sC,xj,tC,b,hi,c1,aq,f,az];rw[g389L0e];simp[a]
def YJ(t:Ty):Prop:=t.Ok/\t.Kw
def A7.kw(hs:∀x∈F,x.ty.Kw)(h:A7 F g u):g.Kw->u.Kw:=by
 induction h with
 | @mk g u h1 h2 h3 h4 h5 _ d=>
  intro e;have w:(dY F g).Kw:=pN hs e;refine .mk (fun q=>?_) (by rw[h2];exact w.nm) fun x hx=>?_
  .rw[h1]at q;obtain⟨a,b⟩:=w.hd q;exact⟨by rw[h1];exact a,zba.1 (by rw[h5,b];rfl)⟩
  .obtain⟨i,hi⟩:=zaY hx;have hl:=(zaa.1 hi).1;obtain⟨b,c⟩:=aR (l:=(dY F g).args) (i:=i) (by omega);exact d i b x c hi (w.kd b (aM c))
def A7.vn(hs:∀x∈F,x.bd=true->p.v x.ty)(h:A7 F g u):p.v g->p.v u:=by
 induction h with
 | @mk g u h1 h2 h3 h4 h5 _ c=>
  intro d;have w:p.v (dY F g):=rB hs d
  have:=p.node _ u.args w h5 fun x hx=>by
   obtain⟨i,hi⟩:=zaY hx;have hl:=(zaa.1 hi).1;obtain⟨b,a⟩:=aR (l:=(dY F g).args) (i:=i) (by omega);exact c i b x a hi (p.df _ w b (aM a))
  rw[<-h1,<-h2,<-h3,<-h4]at this;have e:(⟨u.kind,u.name,u.id,u.home,u.args⟩:Ty)=u:=by cases u;rfl
  rwa [e]at this
def z0:Int->Nat:=fun _=>0
def QA(h:Ht ht D F):∀(m:Nat)(t:Ty),(wk F m t).pd ht<=t.pd ht
 |0,t=>zal _
 |m+1,t=>by
  unfold wk;split
  .rename_i x hx;obtain⟨a,i,hi,hx,b⟩:=cq hx;have h1:=QA h m x.ty;have h2:=h i x hx;rw[zai b]at h2;rw[Ty.gR ht t,zai a,hi];omega
  .exact zal _
def A7.pd(h:Ht ht D F){t:Ty}(r:A7 F t u):u.pd z0<=t.pd ht:=by
 induction r with
 | @mk t u h1 h2 h3 h4 h5 _ c=>
  have w:=QA h (F.length+1) t
  change (dY F t).pd ht<=_ at w
  by_cases k:u.kind=1
  .rw[Ty.gR z0 u,zai k];exact zbB _
  .refine zaI ?_ w;rw[Ty.gR z0 u,zad k];refine lV fun x hx=>?_;obtain⟨i,hi⟩:=zaY hx;have hl:=(zaa.1 hi).1
   obtain⟨b,a⟩:=aR (l:=(dY F t).args) (i:=i) (by omega);have q:=c i b x a hi;have d:=oA (ht:=ht) (t:=dY F t) (by rw[<-h1];exact k) (aM a);omega
def c358v(hs:Sm s.sl)(d:∀x∈s.sl,x.ty.Ok)(c:∀x∈s.sl,x.ty.Kw)(hV:∀x∈s.sl,x.bd=true->p.v x.ty)(ht:YJ g)(b:p.v g)(hr:Tr s.sl g r)(a:r<=4000):∃u:Ty,(aE AP).p 358 [s.pv,g.pv]=some [u.pv,.bool true]/\(YJ u/\p.v u)/\u.nodes.length<=4000/\∀ht D,Ht ht D s.sl->u.pd z0<=g.pd ht:=by
 obtain⟨u,e,h1,h2,h3⟩:=c358y hs d ht.1 hr a;exact⟨u,e,⟨⟨h1,h3.kw c ht.2⟩,h3.vn hV b⟩,by omega,fun ht D h=>h3.pd h⟩
def iR(n:Nat):Ty:=⟨4,[45,62],0,0,[az n,az (n+1:Nat)]⟩
def jd:(az k).Kw:=.bare rfl (by simp[az]) (by simp[az])
def ky(h:k∈S):Fit S (az k):=⟨bw rfl,jd,fun w a=>by rw[da (t:=az k) rfl a];exact h,S.p.var k⟩
def rE:Fit (eL p (n+2)) (iR n) where
 ok:=⟨by simp[iR,Sm],by intro x hx;simp[iR]at hx;rcases hx with rfl|rfl<;>exact bw rfl⟩
 wf:=.mk (by simp[iR]) (by simp[iR]) (by intro x hx;simp[iR]at hx;rcases hx with rfl|rfl<;>exact jd)
 gZ:=by
  intro w a;cases a with
  |var q=>simp[iR]at q
  |arg _ b a=>
   simp[iR]at b;rcases b with rfl|rfl
   .exact(ky (S:=eL p (n+2)) (db.2 (by omega))).gZ w a
   .exact(ky (S:=eL p (n+2)) (db.2 (by omega))).gZ w a
 vn:=p.arr _ _ (p.var _) (p.var _)
def Bh(h:s.sl[i]?=some o):∀k,(mE s k).sl[i]?=some o
 |0=>h
 |k+1=>by
  have a:=Bh h k;have hl:i<(mE s k).sl.length:=by obtain⟨h,_⟩:=zaa.1 a;exact h
  simp only[mE,a7];rw[zao hl];exact a
def Ib{v:Int}:∀{k:Nat},jR (mE s k).sl v->jR s.sl v
 |0,h=>h
 |k+1,h=>by
  obtain⟨j,x,e,hx,a⟩:=h;simp only[mE,a7]at hx;by_cases hl:j<(mE s k).sl.length
  .rw[zao hl]at hx;exact Ib (k:=k) ⟨j,x,e,hx,a⟩
  .rw[zaN (by omega)]at hx
   have:j-(mE s k).sl.length=0:=by
    have:=(zaa.1 hx).1;simpa using this
   rw[this]at hx;simp at hx;subst hx;cases a
def YK{v:Int}(h:jR F v):v<F.length:=by
 obtain⟨k,x,e,hx,_⟩:=h;have:=(zaa.1 hx).1;omega
def hF(B D N:Nat):Int->Nat:=fun i=>D+(N-(i.toNat+2-B) / 2)
def QB{f g:Int->Nat}(t:Ty):(∀w,cf t w->f w=g w)->t.pd f=t.pd g:=by
 refine Ty.cb (p:=fun t=>(∀w,cf t w->f w=g w)->t.pd f=t.pd g) ?_ t;intro t c h;rw[Ty.gR,Ty.gR g];by_cases k:t.kind=1
 .rw[zai k,zai k];exact h _ (.var k)
 .rw[zad k,zad k]
  have key:∀l:List Ty,(∀x∈l,x.pd f=x.pd g)->Ty.NA f l=Ty.NA g l:=by
   intro l;induction l with
   |nil=>intro _;rfl
   |cons a r b=>intro hl;simp only[Ty.NA];rw[hl a (by simp),b fun x hx=>hl x (by simp[hx])]
  exact key _ fun x hx=>c x hx fun w d=>h w (.arg k hx d)
def Ic(h:Ht ht D s.sl)(a:∀i:Nat,D<=ht i):∀k,Ht ht D (mE s k).sl
 |0=>h
 |k+1=>fun i x hx=>by
  simp only[mE,a7]at hx;rw[zbv]at hx;split at hx
  .exact Ic h a k i x hx
  .cases e:i-(mE s k).sl.length with
   |zero=>rw[e]at hx;simp at hx;subst hx;simpa using a i
   |succ j=>rw[e]at hx;simp at hx
def QC(i:Nat):D<=hF B D N i:=by unfold hF;omega
def Ie(i:Int):hF B D N i<=D+N:=by unfold hF;omega
def Uj(b:n<N):(iR (B+2*n)).pd (hF B D N)<=D+(N-n):=by
 rw[Ty.gR,zad (by simp[iR])];refine lV fun x hx=>?_;simp[iR]at hx;rcases hx with rfl|rfl<;>rw[Ty.gR,zai (by simp[az])]<;>simp only[az,hF]<;>omega
def YL(hi:i<B+2*n):D+(N-n)<=hF B D N i:=by unfold hF;omega
def Uk(I:Inv n M (eL p n) s)(c:s.sl[i]?=some o)(hf:¬jR s.sl (i:Int)):
   Inv (n+2) (M+2*(2*(n+2)+4)) (eL p (n+2)) (fH (mE s 2) i o ⟨true,iR n,o.home,o.base⟩):=by
 have J:=pa I 2;have h1:=Bh c 2;have fi:¬jR (mE s 2).sl (i:Int):=fun h=>hf (Ib h)
 have hi:i<n:=by have:=(zaa.1 c).1;rw[I.len]at this;exact this
 refine (D2 J (t:=iR n) h1 fi Kp.refl (by omega) h1 (rE (p:=p)).ok (rE (p:=p)).wf (rE (p:=p)).vn (rE (p:=p)).gZ ?_ rfl rfl).1
 rintro⟨w,a,hr⟩
 have hw:n<=w:=by
  cases a with
  |var q=>simp[iR]at q
  |arg _ d a=>
   simp[iR]at d;rcases d with rfl|rfl
   .rw[da (t:=az n) rfl a];simp[az]
   .have:=da (t:=az ((n:Int)+1)) rfl a;simp[az]at this;omega
 have b:¬jR (mE s 2).sl w:=fun h=>by
  have:=YK (Ib h);rw[I.len]at this;omega
 have:=oq hr b;omega
def Fit.bS{S':Sg}(h:Fit S g)(hS:∀w∈S,w∈S')(hp:S'.p=S.p:=by rfl):Fit S' g:=⟨h.ok,h.wf,fun w a=>hS w (h.gZ w a),by rw[hp];exact h.vn⟩
def mF(h:n<=m):∀w∈eL p n,w∈eL p m:=fun w hw=>by have:=db.1 hw;exact db.2 (by omega)
def D7(a:g.kind=1)(hi:g.id=i)(hx:F[i]?=some o)(b:o.bd=true):dr F g=some o:=by
 unfold dr;rw[zai ⟨a,by omega⟩];have:g.id.toNat=i:=by omega
 rw[this,hx];simp[b]
def xl(a:g.kind≠1):dr F g=none:=by
 unfold dr;rw[zad fun h=>a h.1]
def D9(h:dr F g=none):dY F g=g:=by unfold dY wk;rw[h]
def JB:∀(m:Nat)(t:Ty),dr F (wk F m t)=none->wk F (m+1) t=wk F m t
 |0,t,h=>by unfold wk;rw[show dr F t=none from h]
 |m+1,t,h=>by
  cases e:dr F t with
  |none=>
   have h1:wk F (m+1) t=t:=(by unfold wk;rw[e]);have h2:wk F (m+1+1) t=t:=(by unfold wk;rw[e]);rw[h1,h2]
  |some x=>
   have h1:wk F (m+1) t=wk F m x.ty:=by conv=>lhs;unfold wk;rw[e]
   have h2:wk F (m+1+1) t=wk F (m+1) x.ty:=by conv=>lhs;unfold wk;rw[e]
   rw[h1]at h⊢;rw[h2];exact JB m x.ty h
def Ea(a:xS F)(h:dr F g=some o):dY F g=dY F o.ty:=by
 have h1:dY F g=wk F F.length o.ty:=by unfold dY;conv=>lhs;unfold wk;rw[h]
 have h2:dr F (wk F F.length o.ty)=none:=by rw[<-h1];exact mB a
 rw[h1];exact(JB _ _ h2).symm
theorem Ig(X:Ext F s')(a:xS s'):∀(m:Nat)(t:Ty),dY s' (wk F m t)=dY s' t
 |0,t=>rfl
 |m+1,t=>by
  cases e:dr F t with
  |none=>unfold wk;rw[e]
  |some x=>
   have h1:wk F (m+1) t=wk F m x.ty:=by conv=>lhs;unfold wk;rw[e]
   obtain⟨c,i,hi,hx,d⟩:=cq e;obtain⟨y,hy,b,f⟩:=X.bd i x hx d;rw[h1,Ig X a m x.ty,Ea a (D7 c hi hy b),f]
inductive Sp (s:List Sl):Ty->Ty->List Ty->Prop
 |nil {w:Ty}:Sp s w w []
 |snoc {w t a b:Ty} {l:List Ty}:Sp s w t l->(dY s t).kind=4->a∈(dY s t).args->b∈(dY s t).args->Sp s w b (l++[a])
def Sp.ext(X:Ext F s')(i:xS s')(h:Sp F w x l):Sp s' w x l:=by
 induction h with
 |nil=>exact .nil
 | @snoc x a b l _ c f d g=>
  have e:dY s' x=dY F x:=by
   have h1:=Ig X i (F.length+1) x
   change dY s' (dY F x)=_ at h1
   rw[<-h1];exact D9 (xl (by rw[c];decide))
  exact .snoc g (by rw[e];exact c) (by rw[e];exact f) (by rw[e];exact d)
def Tr.df(h:Tr F g r)(c:a∈(dY F g).args):∃b,b<=r/\Tr F a b:=by
 obtain⟨ns,hT,e⟩:=h.inv;obtain⟨i,hi⟩:=zaY c;have hl:=(zaa.1 hi).1;obtain⟨n,hn⟩:=aR (l:=ns) (i:=i) (by rw[hT.1];exact hl);have:=A6 hn;exact⟨n,by omega,hT.2 i a n hi hn⟩
def Sp.tr(h:Sp F w x l)(hr:Tr F w r):(∀a∈l,∃b,b<=r/\Tr F a b)/\∃b,b<=r/\Tr F x b:=by
 induction h with
 |nil=>exact⟨by simp,r,zal _,hr⟩
 |snoc _ _ k j m=>
  obtain⟨h1,b,h2,h3⟩:=m;obtain⟨i,g,d⟩:=h3.df k;obtain⟨f,e,c⟩:=h3.df j;refine⟨?_,f,by omega,c⟩;intro y hy;simp only[zae,zaU]at hy;rcases hy with hy|rfl
  .exact h1 y hy
  .exact⟨i,by omega,d⟩
def Sp.pd(h:Ht ht D F)(p:Sp F w g l):(∀a∈l,a.pd ht<=w.pd ht)/\g.pd ht<=w.pd ht:=by
 induction p with
 |nil=>exact⟨by simp,zal _⟩
 | @snoc g a b l _ f e d c=>
  have h1:=QA h (F.length+1) g
  change (dY F g).pd ht<=_ at h1
  have hn:(dY F g).kind≠1:=(by rw[f];decide);have h2:=oA (ht:=ht) hn e;have h3:=oA (ht:=ht) hn d;have h4:=c.2;refine⟨fun y hy=>?_,by omega⟩;simp only[zae,zaU]at hy;rcases hy with hy|rfl
  .exact c.1 y hy
  .omega
def JC(s:cK):∀i,Ext s.sl (mE s i).sl
 |0=>.refl _
 |i+1=>(JC s i).trans ⟨by simp[mE,a7],fun k x hx a=>⟨x,by simp only[mE,a7];rw[zao (zaa.1 hx).1];exact hx,a,rfl⟩⟩
structure ESt(p:Vp)(Z:Prop)(B N m M:Nat)(s:cK)(t w g:Ty)(args:List Ty)(vs:List As):Prop where
 cnt:∃a,m=B+2*a/\a<=args.length
 tF:Z->∀D,Ht (hF B D N) D s.sl
 inv:Inv m M (eL p m) s
 sp:Sp s.sl w t args
 t:Fit (eL p m) t
 w:Fit (eL p m) w
 g:Fit (eL p m) g
 args:∀a∈args,Fit (eL p m) a
 vs:∀x∈vs,Fit (eL p m) x.ty
def Fit.wk(I:Inv n M (eL p n) s)(h:Fit (eL p n) g):Fit (eL p n) (dY s.sl g):=⟨pJ I.ok h.ok,pN I.wf h.wf,ng (S:=(eL p n).ids) I.gZ h.gZ,rB I.vn h.vn⟩
def c194a:(aE AP).p 194 [(Ty.mk 4 [45,62] 0 0 [a,b]).pv]=some [a.pv,b.pv,.bool true]:=by
 rw[aB g194];simp[g194]
def c194f(ht:Fit S x):∃(a b:Ty)(c:Bool),(aE AP).p 194 [x.pv]=some [a.pv,b.pv,.bool c]/\(c=true->x.kind=4/\Fit S a/\Fit S b/\a∈x.args/\b∈x.args):=by
 obtain⟨a,b,c,e,_,_,h⟩:=c194g ht.ok;refine⟨a,b,c,e,?_⟩;intro j;have q:=h j;have i:x.kind=4:=by rw[q]
 have f:a∈x.args:=by rw[q];simp
 have d:b∈x.args:=by rw[q];simp
 have hn:x.kind≠1:=by rw[i];decide
 exact⟨i,⟨ht.ok.df a f,ht.wf.df a f,fun w g=>ht.gZ w (.arg hn f g),S.p.df _ ht.vn a f⟩,⟨ht.ok.df b d,ht.wf.df b d,fun w g=>ht.gZ w (.arg hn d g),S.p.df _ ht.vn b d⟩,f,d⟩
def oD(q:aH):Option (aX×St):=some (.ret,⟨[(10,.dm []),(11,.dm []),(12,.pv (.bool false))],[],[],q⟩)
def nF(vs:List As)(N:Nat)(s:cK)(g w t:Ty)(args:List Ty):St:=⟨[(3,.pv (.ae (vs.map As.pv))),(4,.pv (vI N)),(5,.au 5 0),(7,.au 7 0),(16,.au 16 0),(17,.au 17 0),(18,.own (args.map Ty.pv) 0)],[(5,sC s),(7,tC g),(16,tC w),(17,tC t)],[],[args.length]⟩
theorem abo{t:Ty}(E:ESt p Z B N m M s t w g args vs)(hm:m<=30000)(hM:M<=10000000)(hl:args.length<N)(hN:N<=1000):
   (∃q,cl AP g389L1 (nF vs N s g w t args)=oD q)\/∃m' W s' t' d,m<=m'/\m'<=m+2/\W<=M+200000/\d.length=args.length+1/\ESt p Z B N m' W s' t' w g d vs/\cl AP g389L1 (nF vs N s g w t args)=cl AP g389L1 (nF vs N s' g w t' d):=by
 have K:=E.inv.len;obtain⟨T,v,a0⟩:=E.cnt;have H:Sm s.sl:=by unfold Sm;omega
 have l:=c386 H (t:=t);have F:=E.t.wk E.inv;have fr:=mB E.inv.rz (t:=t)
 change (aE AP).p 386 [s.pv,t.pv]=some [(dY s.sl t).pv]at l
 have A:=E.sp;have a3:dY s.sl t=dY s.sl t:=rfl;generalize f:dY s.sl t=x at*;have U:(args.length+1)*64<=140737488355328:=by omega
 have j:(args.length:Int)<N:=by omega
 have e:∀w∈eL p m,w∈eL p (m+2):=mF (by omega);by_cases k:x.kind=1
 .have a2:=db.1 (F.gZ _ (.var k));obtain⟨i,hi⟩:∃i:Nat,x.id=i:=⟨x.id.toNat,by omega⟩;have a1:i<m:=(by omega);have n:i<s.sl.length:=(by omega);obtain⟨o,u⟩:=aR n;have fi:¬jR s.sl (i:Int):=(by rw[<-hi];exact iF k fr);cases r:o.base with
  |true=>
   left;obtain⟨a,b,c,k2,h2⟩:=c194f F
   have hc:c=false:=by
    cases c with
    |false=>rfl
    |true=>have:=(h2 rfl).1;omega
   subst hc;simp[k,hi]at l k2;rw[g389L1e];simp(disch:=omega)[-getElem?_pos,g389B1,nF,oD,sC,tC,j,l,k,hi,n,u,r,k2]
  |false=>
   right;have J:=pa E.inv 1;have hu:ub (mE s 1).sl<=m+1:=by have:=Wu (s:=(mE s 1).sl);rw[J.len]at this;exact this
   have c1:=c381 E.inv.Qt (by omega) (by omega) 1000000 false;have c2:=c381 J.Qt (by omega) (by omega) 1000000 false;have J2:=pa E.inv 2;have h2:=Bh u 2;have G:=c393 J2.Qt (by omega) (by omega) h2 ⟨true,iR m,o.home,o.base⟩;have c3:=c69 (a:=az m) (b:=az (m+1:Nat));have V:=c194a (a:=az m) (b:=az (m+1:Nat));have I:=Uk E.inv u fi;have e1:mE s 1=a7 s 1000000 false:=rfl;have e2:mE s 2=a7 (a7 s 1000000 false) 1000000 false:=rfl;have L:(mE s 2).sl.length=m+2:=J2.len;rw[K]at c1;rw[J.len,e1]at c2
   refine⟨m+2,M+200000,fH (mE s 2) i o ⟨true,iR m,o.home,o.base⟩,az (m+1:Nat),args++[az m],by omega,by omega,by omega,by simp,⟨⟨T+1,by omega,by simp;omega⟩,fun z D=>(Ic (E.tF z D) QC 2).bind rfl (by
    show (iR m).pd _<=_;rw[v];exact zaI (Uj (by omega)) (YL (by omega))),I.bS (by omega) (fun _ h=>h),?_,ky (db.2 (by omega)),E.w.bS e,E.g.bS e,?_,fun x hx=>(E.vs x hx).bS e⟩,?_⟩
   .have X:Ext s.sl (fH (mE s 2) i o ⟨true,iR m,o.home,o.base⟩).sl:=(JC s 2).trans (Ext.set h2 (.inl (o9 u fi)))
    have Q:(fH (mE s 2) i o ⟨true,iR m,o.home,o.base⟩).sl[i]?=some ⟨true,iR m,o.home,o.base⟩:=by
     have:i<(mE s 2).sl.length:=by omega
     rw[bL,zax,zai rfl,zai this]
    have R:dr (fH (mE s 2) i o ⟨true,iR m,o.home,o.base⟩).sl x=some ⟨true,iR m,o.home,o.base⟩:=D7 k hi Q rfl
    have S:dY (fH (mE s 2) i o ⟨true,iR m,o.home,o.base⟩).sl t=iR m:=by
     have h1:=Ig X I.rz (s.sl.length+1) t
     change dY _ (dY s.sl t)=_ at h1
     rw[f,Ea I.rz R]at h1;rw[<-h1];exact D9 (xl (by simp[iR]))
    exact .snoc (A.ext X I.rz) (by rw[S];rfl) (by rw[S];simp[iR]) (by rw[S];simp[iR])
   .intro a C;simp at C;rcases C with C|rfl
    .exact(E.args a C).bS e
    .exact ky (db.2 (by omega))
   .rw[e2]at G h2 L⊢;generalize fH (a7 (a7 s 1000000 false) 1000000 false) i o ⟨true,iR m,o.home,o.base⟩=s3 at*;generalize a7 (a7 s 1000000 false) 1000000 false=Y at*;generalize a7 s 1000000 false=s1 at*;have P:i<Y.sl.length:=by omega
    simp[k,hi]at l;simp[az,r]at c1 c2 c3 G V;simp[iR,az]at G;conv=>lhs;rw[g389L1e]
    simp (disch:=omega) [-getElem?_pos,g389B1,nF,sC,tC,j,l,k,hi,n,u,r,c1,c2,h2,P,c3,G,V,az,U]
 .obtain⟨a,b,c,k2,h2⟩:=c194f F;simp at l k2;cases c with
  |false=>
   left;rw[g389L1e];simp(disch:=omega)[-getElem?_pos,g389B1,nF,oD,sC,tC,j,l,k,k2]
  |true=>
   right;obtain⟨O,fa,fb,ma,mb⟩:=h2 rfl;refine⟨m,M,s,b,args++[a],by omega,by omega,by omega,by simp,⟨⟨T,v,by simp;omega⟩,E.tF,E.inv,.snoc A (by rw[f];exact O) (by rw[f];exact ma) (by rw[f];exact mb),fb,E.w,E.g,?_,E.vs⟩,?_⟩
   .intro y hy;simp at hy;rcases hy with hy|rfl
    .exact E.args y hy
    .exact fa
   .conv=>lhs;rw[g389L1e]
    simp (disch:=omega) [-getElem?_pos,g389B1,nF,sC,tC,j,l,k,k2,U]
def Ww(hN:N<=1000):∀(k m M:Nat)(s:cK)(t:Ty)(args:List Ty),N-args.length=k->args.length<=N->ESt p Z B N m M s t w g args vs->m+2*k<=30000->M+200000*k<=10000000->
   (∃q,cl AP g389L1 (nF vs N s g w t args)=oD q)\/∃m' b s' t' a,m'<=30000/\b<=10000000/\a.length=N/\ESt p Z B N m' b s' t' w g a vs/\cl AP g389L1 (nF vs N s g w t args)=some (.exit 2,⟨[(3,.pv (.ae (vs.map As.pv))),(4,.pv (vI N)),(5,.au 5 0),(7,.au 7 0),(16,.au 16 0),(17,.au 17 0),(18,.own (a.map Ty.pv) 0),(59,.pv (.bool false))],[(5,sC s'),(7,tC g),(16,tC w),(17,tC t')],[],[a.length]⟩)
 |0,m,M,s,t,args,c,d,E,h1,h2=>by
  have hl:args.length=N:=(by omega);refine .inr ⟨m,M,s,t,args,by omega,by omega,hl,E,?_⟩;rw[g389L1e];simp[g389B1,nF,sC,tC,hl]
 |k+1,m,M,s,t,args,c,d,E,h1,h2=>by
  rcases abo E (by omega) (by omega) (by omega) hN with h|⟨m',b,s',t',a,l,j,i,f,E',e⟩
  .exact .inl h
  .rw[e];exact Ww hN k m' b s' t' a (by omega) (by omega) E' (by omega) (by omega)
def M7(u:Ty):Prop:=YJ u/\u.nodes.length<=4000
def Wx{m:Nat}(I:Inv m M (eL p m) s)(hm:m<=1000000)(o:vs.length<=100000)(hF:∀x∈vs,Fit (eL p m) x.ty)(l:∀x∈vs,∀u:Ty,(∀ht D,Ht ht D s.sl->u.pd z0<=x.ty.pd ht)->P u){args:List Ty}:∀(k i:Nat),vs.length-i=k->i<=vs.length->∀acc:List Ty,acc.length=i->(∀u∈acc,(M7 u/\p.v u)/\P u)->
   (∃q,cl AP g389L2 ⟨[(3,.pv (.ae (vs.map As.pv))),(5,.au 5 0),(18,.own (args.map Ty.pv) 0),(29,.own (acc.map Ty.pv) 1),(30,.pv (vI i))],[(5,sC s)],[],[args.length,acc.length]⟩=oD q)\/
   ∃us:List Ty,us.length=vs.length/\(∀u∈us,(M7 u/\p.v u)/\P u)/\cl AP g389L2 ⟨[(3,.pv (.ae (vs.map As.pv))),(5,.au 5 0),(18,.own (args.map Ty.pv) 0),(29,.own (acc.map Ty.pv) 1),(30,.pv (vI i))],[(5,sC s)],[],[args.length,acc.length]⟩=
     some (.exit 4,⟨[(3,.pv (.ae (vs.map As.pv))),(5,.au 5 0),(18,.own (args.map Ty.pv) 0),(29,.own (us.map Ty.pv) 1),(30,.pv (vI vs.length)),(153,.pv (.bool false))],[(5,sC s)],[],[args.length,us.length]⟩)
 |0,i,t,hi,acc,j,hu=>by
  have:i=vs.length:=by omega
  subst this;refine .inr ⟨acc,j,hu,?_⟩;rw[g389L2e];simp[g389B2,sC]
 |k+1,i,t,hi,acc,j,hu=>by
  have hi:i<vs.length:=(by omega);obtain⟨x,hx⟩:=aR hi;have c:=hF x (aM hx);have a:Sm s.sl:=(by unfold Sm;rw[I.len];omega);obtain⟨r,b,_,_,h⟩:=c355 a I.ok (m:=200) (by omega) c.ok;have w:(acc.length+1)*64<=140737488355328:=(by omega);by_cases hr:(200:Int)<r
  .left;simp at b;rw[g389L2e];simp(disch:=omega)[-getElem?_pos,g389B2,oD,sC,hx,hi,b,hr]
  .obtain⟨u,k2,⟨g,e⟩,f,d⟩:=c358v a I.ok I.wf I.vn ⟨c.ok,c.wf⟩ c.vn (h (by omega)) (by omega)
   have n:=Wx I hm o hF l (args:=args) k (i+1) (by omega) (by omega) (acc++[u]) (by simp;omega) (by
    intro y hy;simp at hy;rcases hy with hy|rfl
    .exact hu y hy
    .exact⟨⟨⟨g,f⟩,e⟩,l x (aM hx) _ d⟩)
   have e1:cl AP g389L2 ⟨[(3,.pv (.ae (vs.map As.pv))),(5,.au 5 0),(18,.own (args.map Ty.pv) 0),(29,.own (acc.map Ty.pv) 1),(30,.pv (vI i))],[(5,sC s)],[],[args.length,acc.length]⟩=cl AP g389L2 ⟨[(3,.pv (.ae (vs.map As.pv))),(5,.au 5 0),(18,.own (args.map Ty.pv) 0),(29,.own ((acc++[u]).map Ty.pv) 1),(30,.pv (vI (i+1:Nat)))],[(5,sC s)],[],[args.length,(acc++[u]).length]⟩:=by
    simp at b k2;conv=>lhs;rw[g389L2e]
    simp (disch:=omega) [-getElem?_pos,g389B2,sC,hx,hi,b,hr,k2,w,aq]
   rw[e1];exact n
def Wy(I:Inv m M (eL p m) s)(hm:m<=1000000){p3:PV}(t:args.length<=100000)(hF:∀x∈args,Fit (eL p m) x/\∃r,r<=4000/\Tr s.sl x r)(l:∀x∈args,∀u:Ty,(∀ht D,Ht ht D s.sl->u.pd z0<=x.pd ht)->P u){V:Nat}:∀(k i:Nat),args.length-i=k->i<=args.length->∀acc:List Ty,acc.length<=V+i->V<=100000->(∀u∈acc,(M7 u/\p.v u)/\P u)->
   ∃us:List Ty,us.length<=V+args.length/\(∀u∈us,(M7 u/\p.v u)/\P u)/\acc.length<=us.length/\cl AP g389L3 ⟨[(3,.pv p3),(5,.au 5 0),(18,.own (args.map Ty.pv) 0),(29,.own (acc.map Ty.pv) 1),(33,.pv (vI i))],[(5,sC s)],[],[args.length,acc.length]⟩=
     some (.exit 6,⟨[(3,.pv p3),(5,.au 5 0),(18,.own (args.map Ty.pv) 0),(29,.own (us.map Ty.pv) 1),(33,.pv (vI args.length)),(181,.pv (.bool false))],[(5,sC s)],[],[args.length,us.length]⟩)
 |0,i,w,hi,acc,j,hV,hu=>by
  have:i=args.length:=by omega
  subst this;refine⟨acc,j,hu,zal _,?_⟩;rw[g389L3e];simp[g389B3,sC]
 |k+1,i,w,hi,acc,j,hV,hu=>by
  have hi:i<args.length:=(by omega);obtain⟨x,hx⟩:=aR hi;obtain⟨h,r,hr,g⟩:=hF x (aM hx);have f:Sm s.sl:=(by unfold Sm;rw[I.len];omega);have z:(acc.length+1)*64<=140737488355328:=(by omega);obtain⟨u,k2,⟨d,b⟩,c,a⟩:=c358v f I.ok I.wf I.vn ⟨h.ok,h.wf⟩ h.vn g hr
  obtain⟨us,q,o,n,e⟩:=Wy I hm t hF l (p3:=p3) (V:=V) k (i+1) (by omega) (by omega) (acc++[u]) (by simp;omega) hV (by
   intro y hy;simp at hy;rcases hy with hy|rfl
   .exact hu y hy
   .exact⟨⟨⟨d,c⟩,b⟩,l x (aM hx) y a⟩)
  refine⟨us,q,o,by simp at n;omega,?_⟩;rw[g389L3e]at e⊢;simp[sC]at e;simp at k2;simp(disch:=omega)[-getElem?_pos,g389B3,sC,hx,hi,k2,z,aq];rw[g389L3e];simp[e]
def Bi:∀w,cf (g.d7 l) w->cf g w\/∃x∈l,cf x w:=by
 refine Ty.cb (p:=fun g=>∀w,cf (g.d7 l) w->cf g w\/∃x∈l,cf x w) ?_ g;intro g c w h;rw[Ty.gm]at h;cases e:t9 l g with
 |some x=>
  rw[e]at h;obtain⟨_,_,_,hx⟩:=jb e;exact .inr ⟨x,aM hx,h⟩
 |none=>
  rw[e]at h;simp only[zaT]at h;generalize hy:(Ty.mk g.kind g.name g.id g.home (g.args.map (Ty.d7 l)))=y at h;cases h with
  |var q=>subst hy;exact .inl (.var q)
  |arg q b d=>
   subst hy;simp only[zak]at b;obtain⟨a,b,rfl⟩:=b;rcases c a b _ d with h|h
   .exact .inl (.arg q b h)
   .exact .inr h
def QD(hl:∀x∈l,x.pd ht<=B)(t:Ty):(∀w,cf t w->ht w<=B)->(t.d7 l).pd ht<=t.pd z0+B:=by
 refine Ty.cb (p:=fun t=>(∀w,cf t w->ht w<=B)->(t.d7 l).pd ht<=t.pd z0+B) ?_ t;intro t c h;by_cases k:t.kind=1
 .have h0:t9 l t=none:=zad fun q=>by omega
  rw[Ty.gm,h0,zaT,Ty.gR,zai (by exact k)];have:=h _ (.var k);simp only;omega
 rw[Ty.gm];cases e:t9 l t with
 |some x=>
  obtain⟨_,_,_,hx⟩:=jb e;have:=hl x (aM hx);simp only[zaW];omega
 |none=>
  simp only[zaT];rw[Ty.gR,zad (show ¬(⟨t.kind,t.name,t.id,t.home,t.args.map (Ty.d7 l)⟩:Ty).kind=1 from k)];refine lV fun x hx=>?_;simp only[zak]at hx;obtain⟨a,b,rfl⟩:=hx;have h1:=c a b fun w d=>h w (.arg k b d)
  have h2:=oA (ht:=z0) k b;omega
variable{s:List As}{p:Ty}
def vd(hs:∀i x,cR s i=some x->x.pd z0=0)(t:Ty):(t.sub s).pd z0<=t.pd z0:=by
 refine Ty.cb (p:=fun t=>(t.sub s).pd z0<=t.pd z0) ?_ t;intro t d;rw[Ty.sub_eq];split
 .cases e:cR s t.id with
  |some x=>simp only[zaW];have:=hs _ _ e;omega
  |none=>exact zal _
 .rename_i k;have c:∀x∈t.args,(x.sub s).pd z0<=x.pd z0:=d;by_cases k:t.kind=1
  .rw[Ty.gR,zai (show(⟨t.kind,t.name,t.id,t.home,t.args.map (Ty.sub s)⟩:Ty).kind=1 from k)];exact zbB _
  .rw[Ty.gR,zad (show ¬(⟨t.kind,t.name,t.id,t.home,t.args.map (Ty.sub s)⟩:Ty).kind=1 from k)];refine lV fun x hx=>?_;simp only[zak]at hx;obtain⟨a,b,rfl⟩:=hx;have h1:=c a b
   have h2:=oA (ht:=z0) k b;omega
def Wz{sz τ:Nat}{l:List PV}{k:IntKind}{h:Int}(h0:0<=h)(h1:h<=l.length)(hs:bj sz l=true):dC false sz true false false [.own l τ,.pv (.int k h)]=some (.pv (.ae (l.drop h.toNat))):=by
 simp[dC,dG,eI,h0,h1,hs]
abbrev Mt:=List (Int×Ty)
def nk:Mt->Int->Option Ty
 |[],_=>none
 |(j,x)::r,i=>if i=j then some x else nk r i
def sN:Mt->Int->Ty->Mt
 |[],i,t=>[(i,t)]
 |(j,x)::r,i,t=>if i=j then(i,t)::r else(j,x)::sN r i t
def mp(m:Mt):List (PV×PV):=m.map fun a=>(vI a.1,a.2.pv)
def ve{i j:Int}{t:Ty}:∀{m:Mt},nk (sN m i t) j=if j=i then some t else nk m j
 |[]=>by simp[sN,nk]
 |(k,x)::r=>by
  have a:=ve (i:=i) (j:=j) (t:=t) (m:=r);simp only[sN,nk];by_cases e:i=k
  .subst e;by_cases e2:j=i<;>simp[nk,e2]
  .by_cases e2:j=i
   .subst e2;simp[nk,e,a]
   .have b:¬k=i:=fun h=>e h.symm;by_cases e3:j=k<;>simp[nk,e,b,e2,e3,a]
def Ih(m:Mt):Prop:=∀i x,nk m i=some x->x.Ok
variable{m:Mt}
def Ih.put(h:Ih m)(ht:g.Ok):Ih (sN m k g):=by
 intro j x hx;rw[ve]at hx;split at hx
 .cases hx;exact ht
 .exact h j x hx
def hdB(p t:Ty):Bool:=decide (p.kind=t.kind) && decide (p.name=t.name) && decide (p.id=t.id) && decide (p.home=t.home) && decide (p.args.length=t.args.length)
def zTy:Ty:=⟨0,[],0,0,[]⟩
def je(m:Mt)(n:Nat):List Ty:=(List.range n).map fun i:Nat=>(nk m i).getD zTy
def kF:(je m n).length=n:=by simp[je]
def rI:Option (List Ty)->List PV
 |some l=>[.ae (l.map Ty.pv),.bool true]
 |none=>[.ae [],.bool false]
def WA(m:Mt)(n:Nat):List Bool:=(List.range n).map fun i:Nat=>(nk m i).isSome
def vf:(WA m n).length=n:=by simp[WA]
def sO(h:i<n):(je m n)[i]?=some ((nk m i).getD zTy):=by simp[je,h]
def Bj(h:i<n):(WA m n)[i]?=some (nk m i).isSome:=by simp[WA,h]
def M8:je (sN m i g) n=(je m n).set i g:=by
 apply zbW
 intro j;by_cases hj:j<n
 .rw[sO hj,zax,ve];by_cases e:i=j
  .subst e;simp[kF,hj]
  .have a:¬(j:Int)=i:=(by omega);simp[e,a,sO hj]
 .rw[zaX (by rw[kF];omega),zaX (by simp[kF];omega)]
def Ul:WA (sN m i g) n=(WA m n).set i true:=by
 apply zbW
 intro j;by_cases hj:j<n
 .rw[Bj hj,zax,ve];by_cases e:i=j
  .subst e;simp[vf,hj]
  .have a:¬(j:Int)=i:=(by omega);simp[e,a,Bj hj]
 .rw[zaX (by rw[vf];omega),zaX (by simp[vf];omega)]
def zh:∀{l:List Ty}{i:Nat},i<=l.length->(l.flatMap Ty.cl).take (i*5)=(l.take i).flatMap Ty.cl
 |_,0,_=>by simp
 |[],i+1,h=>by simp at h
 |a::r,i+1,h=>by
  have b:=zh (l:=r) (i:=i) (by simp at h;omega);have e:(i+1)*5=a.cl.length+i*5:=(by simp[Ty.cl];omega);rw[zaq,zb6,zaq,e,List.take_length_add_append,b]
def sP:∀{l:List Ty}{i:Nat},i<=l.length->(l.flatMap Ty.cl).drop (i*5)=(l.drop i).flatMap Ty.cl
 |_,0,_=>by simp
 |[],i+1,h=>by simp at h
 |a::r,i+1,h=>by
  have b:=sP (l:=r) (i:=i) (by simp at h;omega);have e:(i+1)*5=a.cl.length+i*5:=(by simp[Ty.cl];omega);rw[zaq,zcU,e,List.drop_length_add_append,b]
def Um(h:i<l.length):a_ (c_ l 0) (i*5) g.cl=c_ (l.set i g) 0:=by
 have e0:∀l:List Ty,c_ l 0=l.flatMap Ty.cl:=fun l=>by simp[c_]
 rw[aU,e0,e0,zh (by omega)];have e1:i*5+g.cl.length=(i+1)*5:=by simp[Ty.cl];omega
 rw[e1,sP (by omega),zbe,zai h];simp
def Un(h:l[i]?=some x):((c_ l 0).drop (i*5)).take 5=x.cl:=by
 have hi:i<l.length:=(zaa.1 h).1;have e0:c_ l 0=l.flatMap Ty.cl:=by simp[c_]
 rw[e0,sP (by omega),aZ h,zaq];have:(5:Nat)=x.cl.length:=by simp[Ty.cl]
 rw[this,zdi]
mutual
noncomputable def Ty.rt(t:Ty)(m:Mt):Ty->Bool×Mt
 |⟨k,n,i,h,as⟩=>if k=2 then(match nk m i with|some x=>(decide (x=t),m)|none=>(true,sN m i t))else if hdB ⟨k,n,i,h,as⟩ t=true then Ty.JD t.args m as else(false,m)
noncomputable def Ty.JD(ts:List Ty)(m:Mt):List Ty->Bool×Mt
 |[]=>(true,m)
 |p::ps=>match ts with
  |[]=>(true,m)
  |t::ts=>if(Ty.rt t m p).1=true then Ty.JD ts (Ty.rt t m p).2 ps else(false,(Ty.rt t m p).2)
end
def Ty.WB(t:Ty)(m:Mt)(p:Ty):Ty.rt t m p=if p.kind=2 then(match nk m p.id with|some x=>(decide (x=t),m)|none=>(true,sN m p.id t))else if hdB p t=true then Ty.JD t.args m p.args else(false,m):=by
 cases p;simp only[Ty.rt]
def EP(m:Mt)(n:Nat):List AV:=(WA m n).map fun b=>.pv (.bool b)
def Bk:(EP m n).length=n:=by simp[EP,vf]
def Uo(h:i<n):(EP m n)[i]?=some (.pv (.bool (nk m i).isSome)):=by simp[EP,Bj h]
def Ii:∀v∈EP m n,∃p,v=AV.pv p:=by
 intro v a;simp only[EP,zak]at a;obtain⟨b,_,rfl⟩:=a;exact⟨_,rfl⟩
def Eb:dR (EP m n)=false:=d_ Ii
def Up{t:Ty}(h:i<n):a_ (EP m n) (i*1) [.pv (.bool true)]=EP (sN m i t) n:=by
 have hl:i<(EP m n).length:=by rw[Bk];exact h
 rw[aU]
 have e:EP (sN m i t) n=(EP m n).set i (.pv (.bool true)):=by
  unfold EP;rw[Ul,List.map_set]
 rw[e,zbe,zai hl];simp
def Uq{t:Ty}(h:i<n):a_ (c_ (je m n) 0) (i*5) t.cl=c_ (je (sN m i t) n) 0:=by
 rw[M8];exact Um (by rw[kF];exact h)
def p6(m:Mt)(n:Nat):Sh:=[some (c_ (je m n) 0),some (EP m n)]
def fo:aY (p6 m n):=aY.app (aY.one dE) (aY.one Ii)
theorem Ec{m':Mt}:(p6 m' i).take (p6 m n).length=p6 m' i:=rfl
def QE(n:Nat)(p:Ty):Prop:=∀x∈p.nodes,x.kind=2->0<=x.id/\x.id<n
def QE.df(h:QE n g):∀y∈g.args,QE n y:=by
 intro y hy x hx;refine h x ?_;rw[Ty.aI g];simp only[zah,zaf];exact .inr ⟨y,hy,hx⟩
def QF:∀{ps ts:List Ty}{m:Mt},(∀p∈ps,∀t∈ts,∀m,Ih m->Ih (Ty.rt t m p).2)->Ih m->Ih (Ty.JD ts m ps).2
 |[],ts,m,_,h=>by simpa[Ty.JD]using h
 |p::ps,[],m,_,h=>by simpa[Ty.JD]using h
 |p::ps,t::ts,m,hp,h=>by
  have h1:=hp p (by simp) t (by simp) m h;simp only[Ty.JD];split
  .exact QF (fun q a u hu=>hp q (by simp[a]) u (by simp[hu])) h1
  .exact h1
def abp:∀{t:Ty},t.Ok->∀m,Ih m->Ih (Ty.rt t m p).2:=by
 refine Ty.cb (p:=fun p=>∀{t:Ty},t.Ok->∀m,Ih m->Ih (Ty.rt t m p).2) ?_ p;intro p a t ht m hm;rw[Ty.WB];split
 .split
  .exact hm
  .exact hm.put ht
 .split
  .exact QF (fun q b u hu m hm=>a q b (ht.df u hu) m hm) hm
  .exact hm
def abq{t:Ty}(hS:Sm t.args)(hl:p.args.length=t.args.length)(h:∀x∈p.args,∀y∈t.args,∀m,Ih m->(aE AP).i 240 [.pv x.pv,.pv y.pv,.bl 0 5 N true,.bl 1 1 N false] (p6 m N) []=some ([.pv (.bool (Ty.rt y m x).1)],p6 (Ty.rt y m x).2 N,[]))
   (c:t.Ok):∀(n i:Nat),t.args.length-i=n->i<=t.args.length->∀m,Ih m->
   cl AP g240L0 ⟨[(2,.bl 0 5 N true),(3,.bl 1 1 N false),(4,.au 4 0),(5,.au 5 0),(9,.pv (vI i))],[(4,[.pv (vI p.kind),.pv (.str p.name),.pv (vI p.id),.pv (vI p.home),.pv (.ae (p.args.map Ty.pv))]),(5,[.pv (vI t.kind),.pv (.str t.name),.pv (vI t.id),.pv (vI t.home),.pv (.ae (t.args.map Ty.pv))])],p6 m N,[]⟩=
     if (Ty.JD (t.args.drop i) m (p.args.drop i)).1=true then some (.exit 0,⟨[(2,.bl 0 5 N true),(3,.bl 1 1 N false),(4,.au 4 0),(5,.au 5 0),(9,.pv (vI t.args.length)),(80,.pv (.bool false))],[(4,[.pv (vI p.kind),.pv (.str p.name),.pv (vI p.id),.pv (vI p.home),.pv (.ae (p.args.map Ty.pv))]),(5,[.pv (vI t.kind),.pv (.str t.name),.pv (vI t.id),.pv (vI t.home),.pv (.ae (t.args.map Ty.pv))])],p6 (Ty.JD (t.args.drop i) m (p.args.drop i)).2 N,[]⟩)
     else some (.ret,⟨[(8,.pv (.bool false))],[],p6 (Ty.JD (t.args.drop i) m (p.args.drop i)).2 N,[]⟩)
 |0,i,hn,hi,m,hm=>by
  have:i=t.args.length:=by omega
  subst this;have e1:p.args.drop t.args.length=[]:=by rw[<-hl];simp
  have h1:=(fo (m:=m) (n:=N)).norm;rw[g240L0e,e1];simp[g240B0,Ty.JD,h1,hl]
 |n+1,i,hn,hi,m,hm=>by
  have hi:i<t.args.length:=(by omega);obtain⟨y,hy⟩:=aR hi;obtain⟨x,hx⟩:=aR (l:=p.args) (i:=i) (by omega);have a:i<p.args.length:=(by omega);unfold Sm at hS;have h1:=(fo (m:=m) (n:=N)).norm;have h2:=(fo (m:=(Ty.rt y m x).2) (n:=N)).norm;have h3:=(fo (m:=(Ty.rt y m x).2) (n:=N)).shift;have k:=h x (aM hx) y (aM hy) m hm;have b:=abq hS hl h c n (i+1) (by omega) (by omega) (Ty.rt y m x).2 (abp (c.df y (aM hy)) m hm);rw[g240L0e]at b⊢;rw[aZ hx,aZ hy];simp only[Ty.JD];simp[h2]at k b;by_cases e:(Ty.rt y m x).1=true
  .rw[e]at k;simp only[zai e];simp(disch:=omega)[-getElem?_pos,g240B0,hx,hy,hi,a,k,aq,h1,h2,h3];rw[g240L0e];simp[b,h2]
  .have d:(Ty.rt y m x).1=false:=(by simpa using e);rw[d]at k;simp only[zad e];simp(disch:=omega)[-getElem?_pos,g240B0,hx,hy,hi,a,k,aq,h1,h2,h3]
def c240(hN:N<1099511627776):∀{t:Ty},t.Ok->QE N p->∀m,Ih m->(aE AP).i 240 [.pv p.pv,.pv t.pv,.bl 0 5 N true,.bl 1 1 N false] (p6 m N) []=some ([.pv (.bool (Ty.rt t m p).1)],p6 (Ty.rt t m p).2 N,[]):=by
 refine Ty.cb (p:=fun p=>∀{t:Ty},t.Ok->QE N p->∀m,Ih m->(aE AP).i 240 [.pv p.pv,.pv t.pv,.bl 0 5 N true,.bl 1 1 N false] (p6 m N) []=some ([.pv (.bool (Ty.rt t m p).1)],p6 (Ty.rt t m p).2 N,[])) ?_ p;intro p E t ht C m hm;have h1:=(fo (m:=m) (n:=N)).norm;have h2:=(fo (m:=m) (n:=N)).shift;rw[aC g240,Ty.WB];by_cases e2:p.kind=2
 .obtain⟨i0,F⟩:=C p (by rw[Ty.aI];simp) e2;obtain⟨k,w,f⟩:=yl i0 F;have kl:=Uo (m:=m) f;have o:=Bk (m:=m) (n:=N);have H:=iy (d:=je m N) (m:=0);rw[kF]at H;have G:=sO (m:=m) f;have gl:=Un G;have g:k*5+5<=(c_ (je m N) 0).length:=by omega
  have r:k+1<=N:=f;rw[zai e2,w];cases hf:nk m k with
  |none=>
   rw[hf]at kl;have B:=Uq (m:=m) (t:=t) f;have A:=Up (m:=m) (t:=t) f;have h3:=(fo (m:=sN m k t) (n:=N)).norm;simp[p6,Ty.cl]at h1 h2 h3 kl B A;simp(disch:=omega)[-getElem?_pos,g240,e2,w,f,r,p6,h1,h2,h3,kl,o,Eb,B,A,g]
  |some x=>
   rw[hf]at kl gl;have q:=c20 (a:=x) (b:=t) (hm _ _ hf);simp[p6,Ty.cl]at h1 h2 kl gl q;simp(disch:=omega)[-getElem?_pos,g240,e2,w,f,r,p6,h1,h2,kl,o,Eb,gl,g,q]
 .rw[zad e2];by_cases e:hdB p t=true
  .rw[zai e];simp[hdB]at e;obtain⟨⟨⟨⟨e1,c⟩,e3⟩,e4⟩,e5⟩:=e;have h:=abq (N:=N) (p:=p) (t:=t) ht.sm e5 (fun x hx y hy m hm=>E x hx (ht.df y hy) (C.df x hx) m hm) ht _ 0 rfl (by omega) m hm;have h3:=(fo (m:=(Ty.JD t.args m p.args).2) (n:=N)).norm;rw[g240L0e]at h;have s:¬t.kind=2:=by rw[<-e1];exact e2
   simp[h1,e1,c,e3,e4]at h;cases D:(Ty.JD t.args m p.args).1 with
   |true=>simp[D]at h;simp[g240,s,e1,c,e3,e4,e5,h1,h2,h3,Ec,g240L0e,h]
   |false=>simp[D]at h;simp[g240,s,e1,c,e3,e4,e5,h1,h2,h3,Ec,g240L0e,h]
  .rw[zad e]
   have:¬(p.kind=t.kind/\p.name=t.name/\p.id=t.id/\p.home=t.home/\p.args.length=t.args.length):=by
    rintro⟨h1,h2,h3,h4,h5⟩;apply e;simp[hdB,h1,h2,h3,h4,h5]
   by_cases j:p.kind=t.kind
   .have c:¬t.kind=2:=(by rw[<-j];exact e2);by_cases l:p.name=t.name
    .by_cases u:p.id=t.id
     .by_cases v:p.home=t.home
      .have h5:¬p.args.length=t.args.length:=fun h5=>this ⟨j,l,u,v,h5⟩;have z:¬(p.args.length:Int)=t.args.length:=by omega
       simp[g240,c,j,l,u,v,z,h1,h2]
      .simp[g240,c,j,l,u,v,h1,h2]
     .simp[g240,c,j,l,u,h1,h2]
    .simp[g240,c,j,l,h1,h2]
   .simp[g240,e2,j,h1,h2]
def WC:c_ (je [] n) 0=(List.replicate n [.pv (vI 0),.pv (.str []),.pv (vI 0),.pv (vI 0),.pv (.ae [])]).flatten:=by
 have e:je [] n=List.replicate n zTy:=by
  exact List.eq_replicate_iff.2 ⟨by simp[je],by intro b a;simp[je,nk]at a;exact a.2.symm⟩
 rw[e];simp only[c_,List.replicate_zero,List.flatten_nil,zaJ,List.flatMap_def,List.map_replicate];rfl
def kn0:EP [] n=List.replicate n (.pv (.bool false)):=List.eq_replicate_iff.2 ⟨Bk,by intro b a;simp[EP,WA,nk]at a;exact a.2.symm⟩
theorem yq(hs:∀a∈s,a.ty.args=[])(b:x.Wf):(x.sub s).nodes.length=x.nodes.length:=by
 revert b
 refine Ty.cb (p:=fun x=>x.Wf->(x.sub s).nodes.length=x.nodes.length) ?_ x;intro x d b;rw[Ty.sub_eq];by_cases e:x.kind=1
 .rw[zai e];have g:=b.var e;cases hf:cR s x.id with
  |none=>rfl
  |some u=>
   obtain⟨a,f,rfl⟩:=eW hf;rw[zaW,Ty.aI,Ty.aI x,hs a f,g];simp
 .rw[zad e,Ty.aI,Ty.aI x];simp only[zay,zcB]
  have key:∀(l:List Ty),(∀y∈l,y∈x.args)->(l.flatMap fun y=>(y.sub s).nodes).length=(l.flatMap Ty.nodes).length:=by
   intro l;induction l with
   |nil=>intro _;rfl
   |cons a r c=>
    intro hl;simp only[zaq,zat];rw[d a (hl a (by simp)) (b.df a (hl a (by simp))),c (fun y hy=>hl y (by simp[hy]))]
  rw[key x.args (fun _ h=>h)]
noncomputable def QG(N:Nat)(p t:Ty):Option (List Ty):=if(Ty.rt t [] p).1=true then some (je (Ty.rt t [] p).2 N)else none
def c238(hN:N<1000000)(ht:u.Ok)(g:QE N p):(aE AP).p 238 [(As.mk N p).pv,u.pv]=some (rI (QG N p u)):=by
 have k:=c240 (N:=N) (by omega) ht g [] (by intro i x h;cases h);rw[aB g238];unfold QG;generalize hm:(Ty.rt u [] p).2=m at k⊢;have b:=om (d:=je m N);have a:=iy (d:=je m N) (m:=0);rw[kF]at b a;have h1:=(fo (m:=[]) (n:=N)).norm;have h2:=(fo (m:=m) (n:=N)).norm;have h3:=(fo (m:=m) (n:=N)).shift;have h4:=(aY.one (dE (d:=je [] N) (m:=0))).norm;have b1:(N:Int)<=9223372036854775807:=by omega
 have f:(N:Int)*64<=140737488355328:=by omega
 have c:(N:Int)<=140737488355328:=by omega
 have e0:p6 [] N=[some ((List.replicate N [.pv (vI 0),.pv (.str []),.pv (vI 0),.pv (vI 0),.pv (.ae [])]).flatten),some (List.replicate N (.pv (.bool false)))]:=by unfold p6;rw[WC,kn0]
 rw[e0]at k h1;rw[WC]at h4;have h5:=(aY.one (Ii (m:=[]) (n:=N))).norm;rw[kn0]at h5;simp[p6]at b a k h1 h2 h3 h4 h5;cases e:(Ty.rt u [] p).1 with
 |true=>
  rw[e]at k;simp(disch:=omega)[g238,b1,f,c,h1,h2,h3,h4,h5,k,b,a,rI]
 |false=>
  rw[e]at k;simp(disch:=omega)[g238,b1,f,c,h1,h2,h3,h4,h5,k,rI]
def Hv(t:Ty):Prop:=t.kind=1\/t.kind=2\/t.kind=3\/t.kind=5\/(t.kind=4/\t.id=0/\t.home=0/\i7 t.name t.args.length=true)
instance:DecidablePred Hv:=fun t=>by unfold Hv;infer_instance
def Ty.Vn(t:Ty):Prop:=∀y∈t.nodes,Hv y
instance:DecidablePred Ty.Vn:=fun t=>by unfold Ty.Vn;infer_instance
def Ed(h:Hv g)(hx:∀x∈g.args,x.Vn):g.Vn:=by
 intro y hy;rw[Ty.aI]at hy;simp only[zah,zaf]at hy;rcases hy with rfl|⟨a,b,hy⟩
 .exact h
 .exact hx a b y hy
def Ty.Vn.hd(h:g.Vn):Hv g:=h g (by rw[Ty.aI];simp)
def Ty.Vn.df(h:g.Vn):∀x∈g.args,x.Vn:=by
 intro x hx y hy;refine h y ?_;rw[Ty.aI];simp only[zah,zaf];exact .inr ⟨x,hx,hy⟩
def JE(h:g.Vn)(hl:l.length=g.args.length)(hx:∀x∈l,x.Vn):(⟨g.kind,g.name,g.id,g.home,l⟩:Ty).Vn:=by
 refine Ed ?_ hx;have:=h.hd;unfold Hv at this⊢;simpa only[hl]using this
def Ij(d:a.Vn)(c:b.Vn):(⟨4,[45,62],0,0,[a,b]⟩:Ty).Vn:=Ed (by simp[Hv,i7]) (by intro x hx;simp at hx;rcases hx with rfl|rfl<;>assumption)
def vg(h:g.args=[])(a:g.kind=1\/g.kind=2\/g.kind=3\/g.kind=5):g.Vn:=Ed (by unfold Hv;omega) (by rw[h];simp)
def Ik(i:Int):(az i).Vn:=vg rfl (.inl rfl)
def Il:Vp:=⟨Ty.Vn,fun _ h=>h.df,fun _ _ h hl hx=>JE h hl hx,Ik,fun _ _ b a=>Ij b a⟩
def Vp.sub(p:Vp)(hs:∀i x,cR s i=some x->p.v x)(t:Ty):p.v t->p.v (t.sub s):=by
 refine Ty.cb (p:=fun t=>p.v t->p.v (t.sub s)) ?_ t;intro t c h;rw[Ty.sub_eq];split
 .cases e:cR s t.id with
  |some x=>exact hs _ x e
  |none=>exact h
 .refine p.node t _ h (by simp) ?_;intro x hx;simp only[zak]at hx;obtain⟨a,b,rfl⟩:=hx;exact c a b (p.df t h a b)
def Vp.d7(p:Vp)(hl:∀x∈l,p.v x)(t:Ty):p.v t->p.v (t.d7 l):=by
 refine Ty.cb (p:=fun t=>p.v t->p.v (t.d7 l)) ?_ t;intro t c h;rw[Ty.gm];cases e:t9 l t with
 |some x=>
  obtain⟨_,_,_,hx⟩:=jb e;exact hl x (aM hx)
 |none=>
  rw[zaT];refine p.node t _ h (by simp) ?_;intro x hx;simp only[zak]at hx;obtain⟨a,b,rfl⟩:=hx;exact c a b (p.df t h a b)
def xm(dy:Bool)(s:bF):Prop:=s.length<=100/\dx ⟨if dy then 4 else 5,s,0,0,[]⟩=true
instance {b:Bool}{s:bF}:Decidable (xm b s):=by unfold xm;infer_instance
def vh:∀{l:List Int}{i:Nat}{v:Int}{x:Ty},cR (bh i l) v=some x->∃k:Nat,x=az k
 |[],i,v,x,h=>by simp[bh,cR]at h
 |a::r,i,v,x,h=>by
  simp only[bh,cR]at h;split at h
  .cases h;exact⟨i,rfl⟩
  .exact vh h
def zi:∀a∈bh i L,a.ty.args=[]:=by
 induction L generalizing i with
 |nil=>simp[bh]
 |cons v r c=>
  intro a b;simp only[bh,zah]at b;rcases b with rfl|b
  .rfl
  .exact c a b
def Bl:∀a∈bh i L,a.ty.Ok:=fun a b=>bw (zi a b)
def Ur(h:M7 u):M7 (u.sub (bh 0 L)):=by
 refine⟨⟨qk Bl h.1.1,?_⟩,?_⟩
 .refine oz (K:=KS) h.1.2 (fun k q _=>q) ?_ (.inl (by simp));intro i x hx;obtain⟨k,rfl⟩:=vh hx;exact jd
 .rw[yq zi h.1.2.wf];exact h.2
def QH(h:∀u∈l,M7 u):(l.flatMap (Ty.gk k)).length<=l.length*4000:=by
 induction l with
 |nil=>simp
 |cons a r b=>
  have h1:=(h a (by simp)).2;have h2:=o7 (k:=k) (t:=a);have h3:=b fun u hu=>h u (by simp[hu])
  simp only[zaq,zat,zay];omega
def c395k(hl:l.length<=1000000)(h:∀u∈l,M7 u):(aE AP).i 395 [.pv (.ae (l.map Ty.pv))] [] []=some ([.own ((l.map (Ty.sub (bh 0 (vars l)))).map Ty.pv) 0],[],[l.length]):=by
 have a:=QH (k:=1) h;refine c395i (S:=l.flatMap (Ty.gk 1)) (by omega) ?_ (by unfold Sm;omega) ?_
 .intro x hx;simp only[zaf]at hx;obtain⟨u,_,hx⟩:=hx;exact bw (mA x hx)
 .intro t ht;refine⟨(h t ht).1.1,(h t ht).1.2.wf,?_⟩;intro x hx;simp only[zaf];exact⟨t,ht,hx⟩
structure WD(n M:Nat)(s:cK)(c:Sc)(K:Nat)(g:Ty)(vs:List As):Prop where
 inv:Inv n M (eL Il n) s
 hn:n<=6000
 hm:M<=1000000
 id:c.id=K
 k:K<=100
 ok:c.ty.Ok
 kn:c.ty.Kn KV
 JF:QE K c.ty
 gZ:∀w,cf c.ty w->w∈eL Il n
 vn:c.ty.Vn
 g:Fit (eL Il n) g
 fvs:∀x∈vs,Fit (eL Il n) x.ty
 vl:vs.length<=5000
variable{s:cK}{l:List Ex}{m:Int}
def c389{c:Sc}(E:WD n M s c K g vs)(hN:N<=10):∃(C A:List Ty)(b:Bool),
   (aE AP).p 389 [s.pv,c.pv,g.pv,.ae (vs.map As.pv),vI N]=some [.ae (C.map Ty.pv),.ae (A.map Ty.pv),.bool b]/\(∀u∈C++A,(M7 u/\u.Vn)/\∀D,(∀x∈s.sl,x.bd=false)->(∀a∈vs,∃k,a.ty=az k)->yp D g->u.pd z0<=c.ty.pd z0+D+N)/\C.length<=6000/\A.length<=N:=by
 have h0:=Wv E.inv E.id (by have:=E.hn;have:=E.k;omega) (by have:=E.hm;omega) (g:=g) (p3:=.ae (vs.map As.pv)) (p4:=vI N) K 0 (by omega) (by omega) [] rfl;have I1:=pa E.inv K;have ai:n+K<=6100:=by have:=E.hn;have:=E.k;omega
 have al:M+K*(2*(n+K)+4)<=5000000:=by
  have:K*(2*(n+K)+4)<=100*12204:=zbX E.k (by omega);have:=E.hm;omega
 have e0:mE s 0=s:=rfl;rw[e0]at h0;have a1:([]++(List.range' 0 (K-0)).map fun j=>az (n+j:Nat))=(List.range K).map fun j=>az (n+j:Nat):=by rw[zaQ,zbA,List.range_eq_range']
 rw[a1]at h0
 have Q:∀x∈(List.range K).map (fun j=>az (n+j:Nat)),∃j:Nat,j<K/\x=az (n+j:Nat):=by
  intro x hx;simp only[zak,List.mem_range]at hx;obtain⟨j,hj,rfl⟩:=hx;exact⟨j,hj,rfl⟩
 have ak:((List.range K).map (fun j=>az (n+j:Nat))).length=K:=by simp
 generalize (List.range K).map (fun j=>az (n+j:Nat))=f at*
 have v:∀x∈f,Fit (eL Il (n+K)) x:=by
  intro x hx;obtain⟨j,hj,rfl⟩:=Q x hx;exact ky (db.2 (by omega))
 have G:=c48 (s:=f) (by unfold Sm;omega) E.ok;have mono:=mF (p:=Il) (n:=n) (m:=n+K) (by omega)
 have W:Fit (eL Il (n+K)) (c.ty.d7 f):=by
  refine⟨ou (fun x hx=>(v x hx).ok) E.ok,Bf E.kn (by simp only[KV,KS];omega) (fun x hx=>(v x hx).wf) (fun y hy hk=>by have:=E.JF y hy hk;omega),?_,Il.d7 (fun x hx=>(v x hx).vn) _ E.vn⟩;intro w ho;rcases Bi w ho with h|⟨x,hx,h⟩
  .exact mono w (E.gZ w h)
  .exact(v x hx).gZ w h
 have a3:(∀x∈s.sl,x.bd=false)->∀D,Ht (hF (n+K) D N) D (mE s K).sl:=fun z D=>Ic (fun i x hx=>by
  rw[zad (by rw[z x (aM hx)];simp)];exact QC i) QC K
 have U:∀D,(c.ty.d7 f).pd (hF (n+K) D N)<=c.ty.pd z0+(D+N):=fun D=>QD (fun x hx=>by
  obtain⟨j,_,rfl⟩:=Q x hx;rw[Ty.gR,zai (by rfl)];exact Ie _) _ (fun w _=>Ie w)
 have X:ESt Il (∀x∈s.sl,x.bd=false) (n+K) N (n+K) (M+K*(2*(n+K)+4)) (mE s K) (c.ty.d7 f) (c.ty.d7 f) g [] vs:=⟨⟨0,by omega,by simp⟩,a3,I1,.nil,W,W,E.g.bS mono,by simp,fun x hx=>(E.fvs x hx).bS mono⟩;generalize c.ty.d7 f=w at*;generalize mE s K=s1 at*;have ac:c.pv=.agg [vI c.id,vI c.ty.kind,.str c.ty.name,vI c.ty.id,vI c.ty.home,.ae (c.ty.args.map Ty.pv)]:=rfl;have hK:=E.id;rw[g389L0e]at h0;simp[sC,xj,tC,hK]at h0 G
 have o:∀r,(aE AP).p 389 [s.pv,c.pv,g.pv,.ae (vs.map As.pv),vI N]=some [.ae [],.ae [],.bool false]->r=r->∃(C A:List Ty)(b:Bool),
     (aE AP).p 389 [s.pv,c.pv,g.pv,.ae (vs.map As.pv),vI N]=some [.ae (C.map Ty.pv),.ae (A.map Ty.pv),.bool b]/\(∀u∈C++A,(M7 u/\u.Vn)/\∀D,(∀x∈s.sl,x.bd=false)->(∀a∈vs,∃k,a.ty=az k)->yp D g->u.pd z0<=c.ty.pd z0+D+N)/\C.length<=6000/\A.length<=N:=fun(_:Nat) h _=>⟨[],[],false,h,by simp,by simp,by simp⟩
 rcases Ww (vs:=vs) (N:=N) (by omega) N (n+K) _ s1 w [] (by simp) (by simp) X (by omega) (by omega)with⟨q,h1⟩|⟨m,M',S,R,args,hm,hM,ZS,E2,h1⟩
 .refine o 0 ?_ rfl;rw[g389L1e]at h1;simp[nF,oD,sC,tC]at h1;rw[aB g389];simp[g389,hK,g389L0e,h0,G,g389L1e,h1]
 .have ab:=E2.inv.len;have Z:Sm S.sl:=(by unfold Sm;omega);have k2:=c386 Z (t:=R);have F:=E2.t.wk E2.inv
  change (aE AP).p 386 [S.pv,R.pv]=some [(dY S.sl R).pv]at k2
  generalize dY S.sl R=x at*;obtain⟨a,b,cc,H,_⟩:=c194f F;rw[g389L1e]at h1;simp[nF,sC,tC]at h1 k2 H;cases cc with
  |true=>
   refine o 0 ?_ rfl;rw[aB g389];simp[g389,hK,g389L0e,h0,G,g389L1e,h1,k2,H]
  |false=>
   have nl:∀w∈eL Il m,w<m:=fun w h=>(db.1 h).2;obtain⟨s3,L,I3,X3,H3⟩:=c394 (Ug (by omega) (by omega)) nl E2.inv F;obtain⟨s4,J,I4,X4,H4⟩:=c394 (Ug (by omega) (by omega)) nl I3 E2.g;obtain⟨s5,e,I,I5,X5,H5,_⟩:=c385h (Ug (by omega) (by omega)) I4 F E2.g;have O:Sm s5.sl:=by unfold Sm;rw[I5.len];omega
   obtain⟨r,T,_,_,a2⟩:=c355 O I5.ok (m:=200) (by omega) E2.w.ok;simp at L J I T;by_cases he:e=0
   .subst he;by_cases hr:(200:Int)<r
    .refine o 0 ?_ rfl;rw[aB g389];simp[g389,hK,g389L0e,h0,G,g389L1e,h1,k2,H,L,J,I,T,hr]
    .rcases Wx I5 (by omega) (vs:=vs) (by have:=E.vl;omega) E2.vs (P:=fun u=>∀D,(∀x∈s.sl,x.bd=false)->(∀a∈vs,∃k,a.ty=az k)->yp D g->u.pd z0<=c.ty.pd z0+D+N) (fun x hx u hu D n0 vv gd=>by
      have h5:=H5 _ D gd (H4 _ D (H3 _ D (E2.tF n0 D)));have h6:=hu _ D h5;obtain⟨k,e⟩:=vv x hx;rw[e,Ty.gR _ (az k),zai (by rfl)]at h6;have h7:=Ie (B:=n+K) (D:=D) (N:=N) (az k).id;omega) (args:=args) _ 0 rfl (by omega) [] rfl (by simp)with⟨q,h2⟩|⟨us,a5,Y,h2⟩
     .refine o 0 ?_ rfl;rw[g389L2e]at h2;simp[oD,sC]at h2;rw[aB g389];simp[g389,hK,g389L0e,h0,G,g389L1e,h1,k2,H,L,J,I,T,hr,g389L2e,h2]
     .obtain⟨d,g1,g2,g3,h3⟩:=Wy I5 (by omega) (p3:=.ae (vs.map As.pv)) (args:=args) (by omega) (fun x hx=>⟨E2.args x hx,by
       have hw:=a2 (by omega);obtain⟨r',h1,h2⟩:=((E2.sp.ext ((X3.trans X4).trans X5) I5.rz).tr hw).1 x hx;exact⟨r',by omega,h2⟩⟩) (P:=fun u=>∀D,(∀x∈s.sl,x.bd=false)->(∀a∈vs,∃k,a.ty=az k)->yp D g->u.pd z0<=c.ty.pd z0+D+N) (fun x hx u hu D n0 _ gd=>by
       have h5:=H5 _ D gd (H4 _ D (H3 _ D (E2.tF n0 D)));have h6:=hu _ D h5;have h7:=((E2.sp.ext ((X3.trans X4).trans X5) I5.rz).pd h5).1 x hx;have h8:=U D;omega) (V:=vs.length) _ 0 rfl (by omega) us (by omega) (by have:=E.vl;omega) Y
      have a4:=E.vl;have k8:=c395k (l:=d) (by omega) fun u hu=>(g2 u hu).1.1
      have aj:(d.map (Ty.sub (bh 0 (vars d)))).length=d.length:=by simp
      have a0:∀u∈d.map (Ty.sub (bh 0 (vars d))),(M7 u/\u.Vn)/\∀D,(∀x∈s.sl,x.bd=false)->(∀a∈vs,∃k,a.ty=az k)->yp D g->u.pd z0<=c.ty.pd z0+D+N:=by
       intro u hu;simp only[zak]at hu;obtain⟨y,hy,rfl⟩:=hu;exact⟨⟨Ur (g2 y hy).1.1,Il.sub (fun i x h=>by obtain⟨k,rfl⟩:=vh h;exact Ik _) _ (g2 y hy).1.2⟩,fun D n0 v0 gd=>zaI (vd (fun i x h=>by obtain⟨k,rfl⟩:=vh h;rw[Ty.gR,zai (by rfl)];rfl) y) ((g2 y hy).2 D n0 v0 gd)⟩
      generalize d.map (Ty.sub (bh 0 (vars d)))=l at*;refine⟨l.take vs.length,l.drop vs.length,true,?_,by rw[zcf];exact a0,by simp;omega,by simp;omega⟩;have q1:=aaR (sz:=5) (τ:=2) (l:=l.map Ty.pv) (k:=.i64) (h:=(vs.length:Int)) (by omega) (by simp;omega);have q2:=Wz (sz:=5) (τ:=2) (l:=l.map Ty.pv) (k:=.i64) (h:=(vs.length:Int)) (by omega) (by simp;omega) (mo.head l);rw[g389L2e]at h2;rw[g389L3e]at h3;simp[sC]at h2 h3;simp at k8 q1 q2;rw[aB g389];simp[g389,hK,g389L0e,h0,G,g389L1e,h1,k2,H,L,J,I,T,hr,g389L2e,h2,g389L3e,h3,k8,q1,q2]
   .refine o 0 ?_ rfl;rw[aB g389];simp[g389,hK,g389L0e,h0,G,g389L1e,h1,k2,H,L,J,I,he]
structure Hd where
 name:bF
 dy:Bool
 args:List Ty
 types:List Ty
def Hd.pv(h:Hd):PV:=.agg [.str h.name,.bool h.dy,.ae (h.args.map Ty.pv),.ae (h.types.map Ty.pv)]
@[simp] theorem Hd.lM(h:Hd):h.pv=.agg [.str h.name,.bool h.dy,.ae (h.args.map Ty.pv),.ae (h.types.map Ty.pv)]:=rfl
def QI:El Hd.pv 4 true:=⟨fun _=>rfl,fun _=>rfl⟩
@[simp] theorem ZT{l:List Hd}:bj 4 (l.map Hd.pv)=true:=QI.head l
def xn(B:Nat)(h:Hd):Prop:=h.args.length<=3/\(∀u∈h.args,M7 u/\u.Vn)/\xm h.dy h.name/\∀u∈h.args,u.pd z0<=B
def hC(nm:bF)(cn:Bool):List AV:=[.pv (.str nm),.pv (.bool cn),.pv (.ae []),.pv (.ae [])]
def YM(E:WD n M s Y K g vs){nm:bF}(l:xm cn nm)(t:(∀x∈s.sl,x.bd=false)/\(∀a∈vs,∃k,a.ty=az k)/\yp D g/\Y.ty.pd z0+D+3<=B):∀(k i:Nat),4-i=k->i<=4->∀acc:List Hd,acc.length<=i->(∀h∈acc,xn B h)->
   ∃hs:List Hd,hs.length<=4/\(∀h∈hs,xn B h)/\cl AP g378L0 ⟨[(3,.pv (.ae (vs.map As.pv))),(4,.pv (vI 3)),(6,.au 6 0),(7,.au 7 0),(8,.au 8 0),(11,.au 11 0),(13,.own (acc.map Hd.pv) 0),(14,.pv (vI i))],[(6,sC s),(7,xj Y),(8,tC g),(11,hC nm cn)],[],[acc.length]⟩=
     some (.exit 0,⟨[(3,.pv (.ae (vs.map As.pv))),(4,.pv (vI 3)),(6,.au 6 0),(7,.au 7 0),(8,.au 8 0),(11,.au 11 0),(13,.own (hs.map Hd.pv) 0),(14,.pv (vI 4)),(21,.pv (.bool false))],[(6,sC s),(7,xj Y),(8,tC g),(11,hC nm cn)],[],[hs.length]⟩)
 |0,i,C,hi,acc,z,w=>by
  have:i=4:=by omega
  subst this;refine⟨acc,z,w,?_⟩;rw[g378L0e];simp[g378B0,sC,xj,tC,hC]
 |k+1,i,C,hi,acc,z,w=>by
  have hi:i<4:=(by omega);have f:(i:Int)<=3:=(by omega);obtain⟨v,m,b,e,A,G,F⟩:=c389 E (N:=i) (by omega);simp at e;cases b with
  |false=>
   obtain⟨hs,h1,h2,d⟩:=YM E (nm:=nm) l t k (i+1) (by omega) (by omega) acc (by omega) w;refine⟨hs,h1,h2,?_⟩;rw[g378L0e]at d ⊢;simp[sC,xj,tC,hC]at d;simp(disch:=omega)[-getElem?_pos,g378B0,sC,xj,tC,hC,f,e,aq];rw[g378L0e];simp[d]
  |true=>
   have r:v.length*64<=140737488355328:=(by omega);have q:m.length*64<=140737488355328:=(by omega);have j:(acc.length+1)*72<=140737488355328:=(by omega);have p:=mo.head v;have o:=mo.head m
   obtain⟨hs,h1,h2,d⟩:=YM E (nm:=nm) l t k (i+1) (by omega) (by omega) (acc++[⟨nm,cn,m,v⟩]) (by simp;omega) (by
    intro h y;simp at y;rcases y with y|rfl
    .exact w h y
    .exact⟨by simp only;omega,fun u hu=>(A u (by simp[hu])).1,l,fun u hu=>by have:=(A u (by simp[hu])).2 D t.1 t.2.1 t.2.2.1;omega⟩)
   refine⟨hs,h1,h2,?_⟩;rw[g378L0e]at d ⊢;simp[sC,xj,tC,hC]at d;by_cases z1:v=[]
   .by_cases z2:m=[]
    .subst z1;subst z2;simp at e d;simp(disch:=omega)[-getElem?_pos,g378B0,sC,xj,tC,hC,f,e,aq,j];rw[g378L0e];simp[d]
    .subst z1;simp at e d;simp(disch:=omega)[-getElem?_pos,g378B0,sC,xj,tC,hC,f,e,aq,q,j,o,z2];rw[g378L0e];simp[d]
   .by_cases z2:m=[]
    .subst z2;simp at e d;simp(disch:=omega)[-getElem?_pos,g378B0,sC,xj,tC,hC,f,e,aq,r,j,p,z1];rw[g378L0e];simp[d]
    .simp(disch:=omega)[-getElem?_pos,g378B0,sC,xj,tC,hC,f,e,aq,r,q,j,p,o,z1,z2];rw[g378L0e];simp[d]
def c378(E:WD n M s Y K g vs){nm:bF}(b:xm cn nm)(d:(∀x∈s.sl,x.bd=false)/\(∀a∈vs,∃k,a.ty=az k)/\yp D g/\Y.ty.pd z0+D+3<=B):∃hs:List Hd,hs.length<=4/\(∀h∈hs,xn B h)/\
   (aE AP).p 378 [s.pv,Y.pv,g.pv,.ae (vs.map As.pv),vI 3,.agg [.str nm,.bool cn,.ae [],.ae []]]=some [.ae (hs.map Hd.pv)]:=by
 obtain⟨hs,h1,h2,e⟩:=YM E (nm:=nm) b d _ 0 rfl (by omega) [] (by simp) (by simp);refine⟨hs,h1,h2,?_⟩;rw[aB g378];rw[g378L0e]at e;simp[sC,xj,tC,hC]at e;simp[g378,g378L0e,e]
def Us:∀y∈g.args,∀v∈y.nodes,v∈g.nodes:=by
 intro y hy v a;rw[Ty.aI];simp only[zah,zaf];exact .inr ⟨y,hy,a⟩
variable{K:Int->Prop}{s:bF}
def Kn.Ee(t:Ty):(∀y∈t.nodes,(y.kind≠4->K y.kind/\y.args=[])/\y.name.length<=100)->t.Kn K:=by
 refine Ty.cb (p:=fun t=>(∀y∈t.nodes,(y.kind≠4->K y.kind/\y.args=[])/\y.name.length<=100)->t.Kn K) ?_ t;intro t a h;refine .mk (h t (by rw[Ty.aI];simp)).1 (h t (by rw[Ty.aI];simp)).2 fun x hx=>a x hx fun y hy=>h y (Us x hx y hy)
def t_(t:Ty):(∀y∈t.nodes,y.args.length<=100)->t.Ok:=by
 refine Ty.cb (p:=fun t=>(∀y∈t.nodes,y.args.length<=100)->t.Ok) ?_ t;intro t a h;refine .mk (by have:=h t (by rw[Ty.aI];simp);unfold Sm;omega) fun x hx=>a x hx fun y hy=>h y (Us x hx y hy)
def qx(h:cf g k):g.Kn K->¬K 1->False:=by
 induction h with
 | @var g q=>intro a h1;have:=(a.hd (by rw[q];decide)).1;rw[q]at this;exact h1 this
 |arg _ c _ b=>intro a h1;exact b (a.kd _ c) h1
structure bG(t:Ty):Prop where
 ok:t.Ok
 kn:t.Kn KG
 vn:t.Vn
structure nK(c:Sc):Prop where
 ok:c.ty.Ok
 kn:c.ty.Kn KC
 JF:∃K:Nat,c.id=K/\K<=100/\QE K c.ty
def bG.YN(h:bG g)(a:S.p.v g):Fit S g:=⟨h.ok,h.kn.imp Wj,fun _ b=>(qx b h.kn (by simp)).elim,a⟩
def bG.fit(h:bG g):Fit (mC n) g:=h.YN trivial
def bG.df(h:bG g):∀x∈g.args,bG x:=fun x hx=>⟨h.ok.df x hx,h.kn.kd x hx,h.vn.df x hx⟩
def bG.mono{t:Ty}(h:bG t):nK ⟨0,t⟩:=⟨h.ok,h.kn.imp aa6,0,rfl,by omega,fun y hy a=>by have:=(h.kn.nodes y hy (by rw[a];decide)).1;rw[a]at this;simp at this⟩
def bG.JG(h:bG g):∀w,¬cf g w:=fun _ a=>qx a h.kn (by simp)
def abr:(∀w,¬cf g w)->Gr g:=by
 refine Ty.cb (p:=fun g=>(∀w,¬cf g w)->Gr g) ?_ g;intro g a h;have k:¬g.kind=1:=fun k=>h _ (.var k)
 exact .mk k fun x hx=>a x hx fun w b=>h w (.arg k hx b)
def bG.grd(h:bG g)(hd:g.pd z0<=D):yp D g:=⟨abr h.JG,fun ht=>by rw[QB g fun w a=>(h.JG w a).elim];exact hd⟩
def rG:a8.Vn:=by decide
def vi:bG a8:=⟨bw rfl,.bare rfl (by simp[a8]) (by simp[a8]),rG⟩
def Ut(c:Sc):Bool:=c.ty.nodes.all fun y=>(decide (y.args.length<=100) && decide (y.name.length<=100)) && (decide (y.kind=4)|| (decide (y.kind=0)|| decide (y.kind=2)|| decide (y.kind=3)) && decide (y.args.length=0)) && (decide (y.kind≠2)|| decide (0<=y.id) && decide (y.id<c.id))
def rH{c:Sc}{K:Nat}(d:c.id=K)(hK:K<=100)(h:Ut c=true):nK c:=by
 simp only[Ut,zas,zaj,zbo,zaS]at h;refine⟨t_ _ fun y hy=>(h y hy).1.1.1,Kn.Ee _ fun y hy=>⟨fun a=>?_,(h y hy).1.1.2⟩,K,d,hK,fun y hy a=>?_⟩
 .rcases(h y hy).1.2 with q|⟨q,b⟩
  .exact absurd q a
  .exact⟨by simp only[KC];omega,zba.1 b⟩
 .rcases(h y hy).2 with q|q
  .exact absurd a q
  .omega
def Uu:∀d∈br,d.params.length<=100/\∀c∈d.cons,Ut ⟨d.params.length,qw d.params c.fields (nJ d)⟩=true:=by decide +kernel
def xp:∀{ds:List Dt}{n i:Nat}{d:Dt}{c:ke},ds[i]?=some d->c∈d.cons->c.name=s->∃q,gP ds s n=some q:=by
 intro ds;induction ds with
 |nil=>intro n i d c h;simp at h
 |cons a r e=>
  intro n i d c h b hs;unfold gP;split
  .exact⟨_,rfl⟩
  .cases i with
   |zero=>
    simp at h;subst h;rename_i hn;exfalso;have:=kE.1 hn c b;simp[hs]at this
   |succ i=>exact e (by simpa using h) b hs
def Bm:∀d∈br,∀c∈d.cons,(qw d.params c.fields (nJ d)).Vn/\(∀f∈c.fields,(f.iV d.params).Vn)/\xm true c.name:=by decide +kernel
def QJ(j:∀d∈ds,d∈br)(hd:ds[I]?=some d){c:ke}(h:d.cons[i]?=some c):((dH ds c.name).getD dV).ty.Vn:=by
 obtain⟨q,g⟩:=xp (n:=0) hd (aM h) rfl;obtain⟨_,f,c',a,b,_⟩:=jE g;simp only[zbA]at a
 have e:dH ds c.name=some ⟨f.params.length,qw f.params c'.fields (nJ f)⟩:=by
  simp only[dH,g,za8,a,b,zaZ]
 rw[e];exact(Bm f (j f (aM a)) c' (aM b)).1
def sQ(f:∀d∈ds,d∈br):nK ((dH ds s).getD dV):=by
 cases e:dH ds s with
 |none=>exact⟨bw rfl,.bare rfl (by simp[dV]) (by simp[dV]),0,rfl,by omega,by intro y hy a;simp[dV,Ty.aI]at hy;rw[hy]at a;simp at a⟩
 |some sc=>
  simp only[dH,zau,zac]at e;obtain⟨q,_,d,hd,c,b,rfl⟩:=e;obtain⟨h1,h2⟩:=Uu d (f d (aM hd));exact rH (K:=d.params.length) rfl h1 (h2 c (aM b))
def cM:∀d∈br,d.params.length<=8/\d.cons.length<=8/\∀c∈d.cons,c.fields.length<=8/\∀x∈c.fields,x.nodes.all (fun y=>(decide (y.args.length<=100) && decide (y.name.length<=100)) && (decide (y.kind=4)|| decide (y.kind=5) && decide (y.args.length=0)))=true:=by decide +kernel
def QK:∀d∈br,∀c∈d.cons,(qw d.params c.fields (nJ d)).pd z0<=4/\∀f∈c.fields,(f.iV d.params).pd z0<=4:=by decide +kernel
def QL(b:∀d∈ds,d∈br):((dH ds s).getD dV).ty.pd z0<=4:=by
 cases e:dH ds s with
 |none=>decide
 |some sc=>
  simp only[dH,zau,zac]at e;obtain⟨q,_,d,hd,c,a,rfl⟩:=e;exact(QK d (b d (aM hd)) c (aM a)).1
def YO:∀d∈br,d.cons.length<=3:=by decide +kernel
def JH(hd:d∈br):∀c∈d.cons,Sm c.fields/\(∀x∈c.fields,x.Ok)/\∀x∈c.fields,x.Kn (·=5):=by
 intro c e;obtain⟨_,_,h⟩:=cM d hd;obtain⟨h1,h2⟩:=h c e;simp only[zas,zaj,zbo,zaS]at h2;refine⟨by unfold Sm;omega,fun x hx=>t_ _ fun y hy=>(h2 x hx y hy).1.1,fun x hx=>Kn.Ee _ fun y hy=>⟨fun b=>?_,(h2 x hx y hy).1.2⟩⟩;rcases(h2 x hx y hy).2 with q|⟨q,a⟩
 .exact absurd q b
 .exact⟨q,zba.1 a⟩
def sR:∀d∈br,d.name.length<=100/\∀c∈d.cons,c.name.length<=100:=by decide +kernel
structure lX(ds:List Dt):Prop where
 all:∀d∈ds,d∈br
 len:ds.length<=8
def lX.c193(h:lX ds):(aE AP).p 193 [.ae (ds.map Dt.pv),.str s]=some (uU (dH ds s)):=
 Lw.c193 (by have:=h.len;unfold Sm;omega) (fun d hd=>by have:=(cM d (h.all d hd)).2.1;unfold Sm;omega) (fun d hd=>by have:=(cM d (h.all d hd)).1;unfold Sm;omega) (fun d hd c e=>by
  obtain⟨a,b,c2⟩:=JH (h.all d hd) c e;exact⟨a,b,fun x hx=>(c2 x hx).cw⟩)
def QM:∀y∈g.gk k,y∈g.nodes/\y.kind=k:=by
 refine Ty.cb (p:=fun g=>∀y∈g.gk k,y∈g.nodes/\y.kind=k) ?_ g;intro g c y hy;rw[Ty.lU]at hy;rw[Ty.aI];split at hy
 .rename_i q;simp at hy;subst hy;exact⟨by simp,q.1⟩
 .simp only[zaf]at hy;obtain⟨a,b,hy⟩:=hy;have:=c a b y hy;exact⟨by simp only[zah,zaf];exact .inr ⟨a,b,this.1⟩,this.2⟩
def JI(h:g.Kn K)(h1:¬K 1)(c:g.Ok):Good [] g:=⟨c,h.wf,by
 intro y hy;obtain⟨a,b⟩:=QM y hy;have:=(h.nodes y a (by rw[b];decide)).1;rw[b]at this;exact absurd this h1⟩
def ZU:List Ty:=[az 0,az 1]
structure M9(c:Sc):Prop where
 g:Good ZU c.ty
 kn:c.ty.Kn KV
 JF:∃K:Nat,c.id=K/\K<=100/\QE K c.ty
def nK.v(h:nK Y):M9 Y:=⟨by
 have:=JI h.kn (by simp) h.ok;exact⟨this.ok,this.wf,fun x hx=>absurd (this.sub x hx) (by simp)⟩,h.kn.imp Qq,h.JF⟩
def M_{v:Int}(h:cf g v):∃y∈g.nodes,y.kind=1/\y.id=v:=by
 induction h with
 | @var g k=>exact⟨g,by rw[Ty.aI];simp,k,rfl⟩
 | @arg g a v _ hm _ b=>
  obtain⟨y,hy,e⟩:=b;exact⟨y,by rw[Ty.aI];simp only[zah,zaf];exact .inr ⟨a,hm,hy⟩,e⟩
def mG:∀{V:List Int}{i:Nat},cR (bh i V) k=some x->∃j:Nat,x=az j/\j<i+V.length
 |[],_,h=>by simp[bh,cR]at h
 |a::r,i,h=>by
  simp only[bh,cR]at h;split at h
  .cases h;exact⟨i,rfl,by simp⟩
  .obtain⟨j,h1,h2⟩:=mG h;exact⟨j,h1,by simp only[zay];omega⟩
def Ef:∀{V:List Int}{i:Nat},k∈V->∃x,cR (bh i V) k=some x
 |a::r,i,h=>by
  simp only[bh,cR];split
  .exact⟨_,rfl⟩
  .rename_i q;rcases zah.1 h with rfl|h
   .exact absurd rfl q
   .exact Ef h
def vj:∀{i:Nat},∀a∈bh i V,∃k:Nat,a.ty=az k/\k<i+V.length:=by
 induction V with
 |nil=>intro i a h;simp[bh]at h
 |cons v r b=>
  intro i a h;simp only[bh,zah]at h;rcases h with rfl|h
  .exact⟨i,rfl,by simp⟩
  .obtain⟨k,h1,h2⟩:=b a h;exact⟨k,h1,by simp only[zay];omega⟩
variable{s:List As}
def QN(t:Ty):∀v,cf (t.sub s) v->(cf t v/\cR s v=none)\/∃i x,cf t i/\cR s i=some x/\cf x v:=by
 refine Ty.cb (p:=fun t=>∀v,cf (t.sub s) v->(cf t v/\cR s v=none)\/∃i x,cf t i/\cR s i=some x/\cf x v) ?_ t;intro t d v h;rw[Ty.sub_eq]at h;by_cases q:t.kind=1
 .rw[zai q]at h;cases e:cR s t.id with
  |some x=>rw[e]at h;exact .inr ⟨_,x,.var q,e,by simpa using h⟩
  |none=>
   rw[e]at h;have h:cf t v:=by simpa using h
   have:=da q h;rw[<-this]at e;exact .inl ⟨h,e⟩
 .rw[zad q]at h;cases h with
  |var k=>exact absurd k q
  | @arg _ a _ k hm f=>
   simp only[zak]at hm;obtain⟨b,c,rfl⟩:=hm;rcases d b c v f with⟨h1,h2⟩|⟨i,x,h0,h1,h2⟩
   .exact .inl ⟨.arg q c h1,h2⟩
   .exact .inr ⟨i,x,.arg q c h0,h1,h2⟩
def Im(hs:∀i x,cR s i=some x->∃k:Nat,x=az k)(t:Ty):∀y∈(t.sub s).nodes,y.kind=2->∃z∈t.nodes,z.kind=2/\z.id=y.id:=by
 refine Ty.cb (p:=fun t=>∀y∈(t.sub s).nodes,y.kind=2->∃z∈t.nodes,z.kind=2/\z.id=y.id) ?_ t;intro t c y hy k;rw[Ty.sub_eq]at hy;split at hy
 .cases e:cR s t.id with
  |some x=>
   rw[e]at hy;obtain⟨j,rfl⟩:=hs _ x e;rw[zaW,Ty.aI]at hy;simp[az]at hy;subst hy;simp at k
  |none=>
   rw[e]at hy;exact⟨y,hy,k,rfl⟩
 .rw[Ty.aI]at hy;simp only[zah,zaf,zak]at hy;rcases hy with rfl|⟨_,⟨a,b,rfl⟩,hy⟩
  .exact⟨t,by rw[Ty.aI];simp,k,rfl⟩
  .obtain⟨z,d,q⟩:=c a b y hy k;exact⟨z,by rw[Ty.aI];simp only[zah,zaf];exact .inr ⟨a,b,d⟩,q⟩
def Uw:∀a∈bh 0 V,a.ty.Ok:=fun a b=>by obtain⟨k,e,_⟩:=vj a b;rw[e];exact bw rfl
def M9.elm(h:M9 Y)(l:Y.ty.Vn)(hV:V.length<=2)(n:∀y∈Y.ty.nodes,y.kind=1->y.id∈V)(f:bG g):∃K,WD V.length (V.length*V.length+4*V.length) (nE V.length) ⟨Y.id,Y.ty.sub (bh 0 V)⟩ K g (bh 0 V):=by
 obtain⟨K,h1,h2,h3⟩:=h.JF;have p:V.length*V.length<=2*2:=zbX hV hV;refine⟨K,⟨nj V.length,by omega,by omega,h1,h2,qk Uw h.g.ok,?_,?_,?_,Il.sub (fun i x hx=>by obtain⟨k,e,_⟩:=mG hx;rw[e];exact Ik _) _ l,f.YN f.vn,fun a o=>?_,by rw[dF];omega⟩⟩
 .refine oz (K:=KV) h.kn (fun k q _=>q) ?_ (.inl (by simp));intro i x hx;obtain⟨k,e,_⟩:=mG hx;rw[e];exact .bare rfl (by simp[az]) (by simp[az])
 .intro y hy d;obtain⟨z,j,k2,e⟩:=Im (s:=bh 0 V) (fun i x hx=>by obtain⟨k,e,_⟩:=mG hx;exact⟨k,e⟩) _ y hy d;have:=h3 z j k2;rw[e]at this;exact this
 .intro w m;rcases QN _ w m with⟨a,b⟩|⟨i,x,_,hx,a⟩
  .obtain⟨y,hy,k,e⟩:=M_ a;obtain⟨x,hx⟩:=Ef (i:=0) (n y hy k);rw[e]at hx;rw[hx]at b;cases b
  .obtain⟨k,e,d⟩:=mG hx;rw[e]at a;have:=da (t:=az k) rfl a;simp only[az]at this;exact db.2 (by omega)
 .obtain⟨k,e,d⟩:=vj a o;rw[e];exact ky (db.2 (by omega))
def nK.acx(h:nK Y)(d:Y.ty.Vn)(hV:V.length<=2)(b:bG g):∃K,WD V.length (V.length*V.length+4*V.length) (nE V.length) Y K g (bh 0 V):=by
 obtain⟨K,h1,h2,h3⟩:=h.JF;have l:V.length*V.length<=2*2:=zbX hV hV;refine⟨K,⟨nj V.length,by omega,by omega,h1,h2,h.ok,h.kn.imp Qq,h3,fun _ f=>(qx f h.kn (by simp)).elim,d,b.YN b.vn,fun a i=>?_,by rw[dF];omega⟩⟩;obtain⟨k,e,j⟩:=vj a i;rw[e];exact ky (db.2 (by omega))
def QO:∀n,∀x∈(nE n).sl,x.bd=false
 |0,x,h=>by simp[nE]at h
 |n+1,x,h=>by
  simp only[nE,a7,zae,zaU]at h;rcases h with h|rfl
  .exact QO n x h
  .rfl
def QP(t:Ty):(∀w,¬cf t w)->t.sub s=t:=by
 refine Ty.cb (p:=fun t=>(∀w,¬cf t w)->t.sub s=t) ?_ t;intro t a h;have k:¬t.kind=1:=fun k=>h _ (.var k)
 rw[Ty.sub_eq,zad k]
 have e:t.args.map (Ty.sub s)=t.args:=by
  conv=>rhs;rw[<-zda t.args]
  exact zaP fun x hx=>a x hx fun w b=>h w (.arg k hx b)
 rw[e];cases t;rfl
def WE{C:Nat}(s:bG g){D:Nat}(v:g.pd z0<=D){ds:List Dt}(j:∀x∈E,(x.sc.ty.sub vs).pd z0<=D)(u:Sm E)(e:Sm vs)(d:(∀x∈s0.sl,x.bd=false)/\∀a∈vs,∃k,a.ty=az k)(t:∀x∈E,x.sc.ty.Ok/\∃K,WD n0 C s0 ⟨x.sc.id,x.sc.ty.sub vs⟩ K g vs)(f:∀x∈E,xm false x.name)(hT:T<=1000000):∀(n i:Nat),E.length-i=n->i<=E.length->∀acc:List Hd,acc.length+4*n<=T->(∀h∈acc,xn (2*D+3) h)->
   ∃hs:List Hd,hs.length<=T/\(∀h∈hs,xn (2*D+3) h)/\cl AP g362L0 ⟨[(0,.pv (.ae (ds.map Dt.pv))),(4,.pv (vI 3)),(14,.au 14 0),(15,.pv (.ae (vs.map As.pv))),(16,.au 16 0),(17,.own (acc.map Hd.pv) 0),(18,.pv (.ae (E.map En.pv))),(19,.pv (vI i))],[(14,sC s0),(16,tC g)],[],[acc.length]⟩=
     some (.exit 0,⟨[(0,.pv (.ae (ds.map Dt.pv))),(4,.pv (vI 3)),(14,.au 14 0),(15,.pv (.ae (vs.map As.pv))),(16,.au 16 0),(17,.own (hs.map Hd.pv) 0),(18,.pv (.ae (E.map En.pv))),(19,.pv (vI E.length)),(51,.pv (.bool false))],[(14,sC s0),(16,tC g)],[],[hs.length]⟩)
 |0,i,hn,hi,acc,A,q=>by
  have:i=E.length:=by omega
  subst this;refine⟨acc,by omega,q,?_⟩;rw[g362L0e];simp[g362B0,sC,tC]
 |n+1,i,hn,hi,acc,A,q=>by
  have hi:i<E.length:=(by omega);obtain⟨x,hx⟩:=aR hi;obtain⟨p,K,El⟩:=t x (aM hx);obtain⟨l,F,w,k2⟩:=c378 El (nm:=x.name) (cn:=false) (f x (aM hx)) (B:=2*D+3) (D:=D) ⟨d.1,d.2,s.grd v,by have:=j x (aM hx);simp only;omega⟩;have o:=c377 e (c:=x.sc) p
  obtain⟨hs,h1,h2,m⟩:=WE s v (ds:=ds) j u e d t f hT n (i+1) (by omega) (by omega) (acc++l) (by simp;omega) (by
   intro h b;simp at b;rcases b with b|b
   .exact q h b
   .exact w h b)
  refine⟨hs,h1,h2,?_⟩;unfold Sm at u;have y:(acc.length+l.length)*72<=140737488355328:=by omega
  have r:acc.length*72<=140737488355328:=(by omega);have b:=QI.head l;rw[g362L0e]at m ⊢;generalize x.sc.ty.sub vs=G at*;simp[sC,tC]at m;simp at o k2 b;by_cases z:l=[]
  .subst z;simp at k2 m;simp(disch:=omega)[-getElem?_pos,g362B0,sC,tC,hx,hi,o,k2,r,aq];rw[g362L0e];simp[m]
  .simp(disch:=omega)[-getElem?_pos,g362B0,sC,tC,hx,hi,o,k2,y,b,z,aq];rw[g362L0e];simp[m]
def WG(e:(∀x∈s0.sl,x.bd=false)/\∀a∈vs,∃k,a.ty=az k)(j:∀c:Sc,nK c->c.ty.Vn->∃K,WD n0 M s0 c K g vs)(y:bG g){D:Nat}(A:g.pd z0<=D)(w:4<=D)(f:lX ds)(hd:ds[I]?=some d)(hT:T<=1000000):∀(n i:Nat),d.cons.length-i=n->i<=d.cons.length->∀acc:List Hd,acc.length+4*n<=T->(∀h∈acc,xn (2*D+3) h)->
   ∃hs:List Hd,hs.length<=T/\(∀h∈hs,xn (2*D+3) h)/\cl AP g362L2 ⟨[(0,.pv (.ae (ds.map Dt.pv))),(4,.pv (vI 3)),(14,.au 14 0),(15,.pv (.ae (vs.map As.pv))),(16,.au 16 0),(17,.own (acc.map Hd.pv) 0),(21,.pv (vI I)),(22,.pv (vI i))],[(14,sC s0),(16,tC g)],[],[acc.length]⟩=
     some (.exit 4,⟨[(0,.pv (.ae (ds.map Dt.pv))),(4,.pv (vI 3)),(14,.au 14 0),(15,.pv (.ae (vs.map As.pv))),(16,.au 16 0),(17,.own (hs.map Hd.pv) 0),(21,.pv (vI I)),(22,.pv (vI d.cons.length)),(88,.pv (.bool false))],[(14,sC s0),(16,tC g)],[],[hs.length]⟩)
 |0,i,hn,hi,acc,H,u=>by
  have:i=d.cons.length:=by omega
  subst this;refine⟨acc,by omega,u,?_⟩;have p:=(zaa.1 hd).1;rw[g362L2e];simp[-getElem?_pos,g362B2,sC,tC,hd,p]
 |n+1,i,hn,hi,acc,H,u=>by
  have hi:i<d.cons.length:=(by omega);have p:=(zaa.1 hd).1;obtain⟨c,o⟩:=aR hi;have q:=f.c193 (s:=c.name);have hs:=sQ f.all (s:=c.name);have r:=QJ f.all hd o;have E:=QL f.all (s:=c.name);have F:=(cM d (f.all d (aM hd))).2.1;generalize t:(dH ds c.name).getD dV=sc at*;obtain⟨K,El⟩:=j sc hs r;obtain⟨l,L,C,k2⟩:=c378 El (nm:=c.name) (cn:=true) (Bm d (f.all d (aM hd)) c (aM o)).2.2 (B:=2*D+3) (D:=D) ⟨e.1,e.2,y.grd A,by omega⟩
  obtain⟨hs,h1,h2,m⟩:=WG e j y A w f hd hT n (i+1) (by omega) (by omega) (acc++l) (by simp;omega) (by
   intro h b;simp at b;rcases b with b|b
   .exact u h b
   .exact C h b)
  refine⟨hs,h1,h2,?_⟩;have G:(acc.length+l.length)*72<=140737488355328:=by omega
  have v:acc.length*72<=140737488355328:=(by omega);have b:=QI.head l;rw[g362L2e]at m ⊢;simp[sC,tC]at m;simp at k2 b;simp[uU,t]at q;by_cases z:l=[]
  .subst z;simp at k2 m;simp(disch:=omega)[-getElem?_pos,g362B2,sC,tC,hd,p,o,hi,q,k2,v,aq];rw[g362L2e];simp[m]
  .simp(disch:=omega)[-getElem?_pos,g362B2,sC,tC,hd,p,o,hi,q,k2,G,b,z,aq];rw[g362L2e];simp[m]
def WH(b:(∀x∈s0.sl,x.bd=false)/\∀a∈vs,∃k,a.ty=az k)(f:∀c:Sc,nK c->c.ty.Vn->∃K,WD n0 M s0 c K g vs)(q:bG g)(r:g.pd z0<=D)(j:4<=D)(m:lX ds){T:Nat}(hT:T<=1000000):∀(n i:Nat),ds.length-i=n->i<=ds.length->∀acc:List Hd,acc.length+32*n<=T->(∀h∈acc,xn (2*D+3) h)->
   ∃hs:List Hd,hs.length<=T/\(∀h∈hs,xn (2*D+3) h)/\cl AP g362L1 ⟨[(0,.pv (.ae (ds.map Dt.pv))),(4,.pv (vI 3)),(14,.au 14 0),(15,.pv (.ae (vs.map As.pv))),(16,.au 16 0),(17,.own (acc.map Hd.pv) 0),(21,.pv (vI i))],[(14,sC s0),(16,tC g)],[],[acc.length]⟩=
     some (.exit 2,⟨[(0,.pv (.ae (ds.map Dt.pv))),(4,.pv (vI 3)),(14,.au 14 0),(15,.pv (.ae (vs.map As.pv))),(16,.au 16 0),(17,.own (hs.map Hd.pv) 0),(21,.pv (vI ds.length)),(78,.pv (.bool false))],[(14,sC s0),(16,tC g)],[],[hs.length]⟩)
 |0,i,hn,hi,acc,u,o=>by
  have:i=ds.length:=by omega
  subst this;refine⟨acc,by omega,o,?_⟩;rw[g362L1e];simp[g362B1,sC,tC]
 |n+1,i,hn,hi,acc,u,o=>by
  have hi:i<ds.length:=(by omega);obtain⟨d,hd⟩:=aR hi;have t:=(cM d (m.all d (aM hd))).2.1;obtain⟨l,w,s,e⟩:=WG b f q r j m hd (T:=acc.length+32) (by omega) _ 0 rfl (by omega) acc (by omega) o;obtain⟨hs,h1,h2,p⟩:=WH b f q r j m hT n (i+1) (by omega) (by omega) l (by omega) s;refine⟨hs,h1,h2,?_⟩;have hl:=m.len;rw[g362L1e]at p ⊢;rw[g362L2e]at e;simp[sC,tC]at p e;simp(disch:=omega)[-getElem?_pos,g362B1,sC,tC,hd,hi,aq];rw[g362L2e];simp(disch:=omega)[e,aq];rw[g362L1e];simp[p]
def c362(d:bG g)(H:g.pd z0<=D)(B:4<=D)(G:lX ds){l:List En}(z:∀x∈l,x.sc.ty.pd z0<=D)(hl:l.length<=10000)(n:∀x∈l,M9 x.sc)(A:∀x∈l,x.sc.ty.Vn)(v:∀x∈l,xm false x.name):∃hs:List Hd,hs.length<=100000/\(∀h∈hs,xn (2*D+3) h)/\
   (aE AP).p 362 [.ae (ds.map Dt.pv),.ae (l.map En.pv),g.pv,.ae [],vI 3]=some [.ae (hs.map Hd.pv)]:=by
 obtain⟨a,b,c,q,_⟩:=c194g d.ok;have L:=G.len;cases c with
 |true=>
  refine⟨[],by simp,by simp,?_⟩;simp at q;rw[aB g362];simp[g362,q]
 |false=>
  have J:=gM l;have C:=JI d.kn (by simp) d.ok;obtain⟨vs,_,⟨u,t,s⟩,k2⟩:=c376 (S:=ZU) (by simp[ZU]) (by intro x hx;simp[ZU]at hx;rcases hx with rfl|rfl<;>exact bw rfl) (g:=g) ⟨C.ok,C.wf,fun x hx=>absurd (C.sub x hx) (by simp)⟩ (l:=l) (by unfold Sm;omega) (by omega) (fun x hx=>(n x hx).g)
  have j:vs.length<=2:=by
   have:=fh u t;simpa[ZU]using this
  have N:=dF (i:=0) (l:=vs);have f:Sm (bh 0 vs):=(by unfold Sm;omega);have m:(∀x∈(nE vs.length).sl,x.bd=false)/\∀a∈bh 0 vs,∃k,a.ty=az k:=⟨QO _,fun a M=>by obtain⟨k,e,_⟩:=vj a M;exact⟨k,e⟩⟩;have r:=c46 f d.ok;have o:g.sub (bh 0 vs)=g:=QP g fun w K=>(qx K d.kn (by simp)).elim
  rw[o]at r;have F:=c201 (l:=l) (by unfold Sm;omega);obtain⟨o1,Q,P,h1⟩:=WE (s0:=nE vs.length) (vs:=bh 0 vs) d H (ds:=ds) (E:=aW l) (fun x hx=>zaI (vd (fun i x h=>by obtain⟨k,e,_⟩:=mG h;rw[e,Ty.gR,zai (by rfl)];rfl) _) (z x (cd l x hx))) (by unfold Sm;omega) f m (fun x hx=>⟨(n x (cd l x hx)).g.ok,(n x (cd l x hx)).elm (A x (cd l x hx)) j (fun y hy k=>s x.sc.ty (by simp only[zah,zak];exact .inr ⟨x,hx,rfl⟩) y hy k) d⟩) (fun x hx=>v x (cd l x hx)) (T:=40000) (by omega) _ 0 rfl (by omega) [] (by simp;omega) (by simp);obtain⟨o2,b1,O,h2⟩:=WH m (fun c n I=>n.acx I j d) d H B G (T:=100000) (by omega) _ 0 rfl (by omega) o1 (by omega) P;refine⟨o2,b1,O,?_⟩;rw[g362L0e]at h1;rw[g362L1e]at h2;generalize aW l=E at*;generalize nE vs.length=s0 at*;generalize bh 0 vs=V at*;simp[sC,tC]at h1 h2;simp at q k2 r F;rw[aB g362];simp[g362,q,k2,r,F,g362L0e,h1,g362L1e,h2]
def Io(d:Dt):List AV:=[.pv (vI d.pos),.pv (.str d.name),.pv (.ae (d.params.map .str)),.pv (.ae (d.cons.map ke.pv))]
structure Tape(L:List Int)(tm:Nat)(TP:Int->Sh):Prop where
 get:∀i,(TP i)[tm]?=some (some [.pv (.ae (L.map vI)),.pv (vI i)])
 set:∀i j,(TP i).set tm (some [.pv (.ae (L.map vI)),.pv (vI j)])=TP j
 quiet:∀i,aY (TP i)
def Tape.norm(h:Tape L tm TP):∀i aQ ts,bt aQ ts (TP i)=(TP i,aQ,ts):=fun i=>(h.quiet i).norm
def Tape.shift(h:Tape L tm TP):∀i n,gh n (TP i)=TP i:=fun i=>(h.quiet i).shift
def Tape.take(h:Tape L tm TP):∀i j,(TP j).take (TP i).length=TP j:=by
 intro i j;refine zaz ?_;rw[<-h.set i j,zbJ];exact zal _
def JJ{A B:Sh}(c:aY A)(b:aY B):Tape L A.length (fun i=>A++[some [.pv (.ae (L.map vI)),.pv (vI i)]]++B) where
 get:=fun i=>by simp
 set:=fun i j=>by simp[List.set_append]
 quiet:=fun i=>(c.app (aY.one (by intro v a;simp at a;rcases a with rfl|rfl<;>exact⟨_,rfl⟩))).app b
def BO(hT:Tape L tm TP)(g:Sm L)(hi:i<=L.length){n:Int}(h1:1<=n)(h2:n<4611686018427387904):
   ∃(r:Int)(j:Nat),(aE AP).i 68 [.aL tm 0,.pv (vI n)] (TP i) []=some ([.pv (vI r)],TP j,[])/\0<=r/\r<n/\j<=L.length:=by
 unfold Sm at g;have c:=hT.norm;have b:=hT.shift;have f:=hT.get;have a:=hT.set;have d:=hT.take;rw[aC g68];by_cases h:i<L.length
 .obtain⟨x,hx⟩:=aR h;obtain⟨r,e,e1,e2⟩:=c26 (n:=x) h1 h2;refine⟨r,i+1,?_,e1,e2,h⟩;have h':¬L.length<=i:=by omega
  simp (disch:=omega) [-getElem?_pos,g68,h',aq,hx,e,c,b,f,a,d]
 .have h':L.length<=i:=(by omega);refine⟨0,i,?_,by omega,by omega,hi⟩;simp[-getElem?_pos,g68,h',c,b,f,a,d]
def abt(hT:Tape L tm TP)(h:Sm L)(hi:i<=L.length):∃(s:List UInt8)(j:Nat),(aE AP).i 175 [.aL tm 0] (TP i) []=some ([.pv (.str s)],TP j,[])/\s∈varNames/\j<=L.length:=by
 have b:=hT.norm;have a:=hT.shift;have c:=hT.take;obtain⟨k,j,e,g,f,hj⟩:=BO hT h hi (n:=8) (by omega) (by omega);obtain⟨m,rfl,hm⟩:=yl (n:=varNames.length) g (by simpa[varNames]using f);obtain⟨s,hs⟩:=aR hm;refine⟨s,j,?_,aM hs,hj⟩
 try simp[b,a,c]at e
 rw[aC g175]
 have d:([PV.str [120],.str [121],.str [122],.str [102],.str [103],.str [118,49],.str [118,50],.str [105,100]]:List PV)[m]?=some (.str s):=by
  have:([PV.str [120],.str [121],.str [122],.str [102],.str [103],.str [118,49],.str [118,50],.str [105,100]]:List PV)=varNames.map PV.str:=rfl;rw[this];simp[b,a,c,hs]
 simp[b,a,c,-getElem?_pos,g175,e,d]
def rJ(L:List Int)(tm:Nat)(TP:Int->Sh)(ds:List Dt)(lv:List Ty)(dep:Nat):Prop:=∀i:Nat,i<=L.length->∃(t:Ty)(j:Nat),
 (aE AP).i 27 [.aL tm 0,.pv (.ae (ds.map Dt.pv)),.pv (.ae (lv.map Ty.pv)),.pv (vI dep)] (TP i) []=some ([t.av],TP j,[])/\gw (·∈ds) lv dep t/\j<=L.length
def abu(hT:Tape L tm TP)(f:dep<1000)(m:rJ L tm TP ds lv dep)(hS:Sm d.params):∀(n k:Nat),d.params.length-k=n->k<=d.params.length->∀(acc:List Ty)(i:Nat),acc.length=k->(∀x∈acc,gw (·∈ds) lv dep x)->i<=L.length->
   ∃(r:List Ty)(j:Nat),cl AP g27L0 ⟨[(0,.aL tm 0),(1,.pv (.ae (ds.map Dt.pv))),(2,.pv (.ae (lv.map Ty.pv))),(3,.pv (vI (dep+1))),(8,.au 8 0),(10,.au 10 0),(11,.own (acc.map Ty.pv) 0),(12,.pv (vI k))],
     [(8,[.pv (vI 0),.pv (.str []),.pv (vI 0),.pv (vI 0),.own [] 1]),(10,[.pv (vI d.pos),.pv (.str d.name),.pv (.ae (d.params.map .str)),.pv (.ae (d.cons.map ke.pv))])],TP i,[acc.length,0]⟩=
     some (.exit 1,⟨[(0,.aL tm 0),(1,.pv (.ae (ds.map Dt.pv))),(2,.pv (.ae (lv.map Ty.pv))),(3,.pv (vI (dep+1))),(8,.au 8 0),(10,.au 10 0),(11,.own (r.map Ty.pv) 0),(12,.pv (vI d.params.length)),(65,.pv (.bool false))],
     [(8,[.pv (vI 0),.pv (.str []),.pv (vI 0),.pv (vI 0),.own [] 1]),(10,[.pv (vI d.pos),.pv (.str d.name),.pv (.ae (d.params.map .str)),.pv (.ae (d.cons.map ke.pv))])],TP j,[r.length,0]⟩)/\
     r.length=d.params.length/\(∀x∈r,gw (·∈ds) lv dep x)/\j<=L.length
 |0,k,hn,h,acc,i,o,hm,hi=>by
  have b:=hT.norm;have a:=hT.shift;have c:=hT.take;have:k=d.params.length:=(by omega);subst this;refine⟨acc,i,?_,o,hm,hi⟩;rw[g27L0e];simp[b,a,c,g27B0]
 |n+1,k,hn,h,acc,i,o,hm,hi=>by
  have b:=hT.norm;have a:=hT.shift;have c:=hT.take;unfold Sm at hS;have h:k<d.params.length:=(by omega);have s:(acc.length+1)*64<=140737488355328:=(by omega);obtain⟨t,j,e,mt,hj⟩:=m i hi
  try simp[b,a,c]at e
  obtain⟨r,q,p,hr,g,l⟩:=abu hT f m hS n (k+1) (by omega) (by omega) (acc++[t]) j (by simp;omega) (by
   intro x hx;simp at hx;rcases hx with hx|rfl
   .exact hm x hx
   .exact mt) hj
  try simp[b,a,c]at p
  refine⟨r,q,?_,hr,g,l⟩;rw[g27L0e];have h1:(dep:Int)+1-1=dep:=by omega
  simp (disch:=omega) [b,a,c,-getElem?_pos,g27B0,h,aq,h1,e,s];rw[p]
def abv(hT:Tape L tm TP)(j:Sm L)(f:Sm lv):rJ L tm TP ds lv 0:=by
 have b:=hT.norm;have a:=hT.shift;have d:=hT.take;intro i hi;obtain⟨k,h,e1,p,o,e⟩:=BO hT j hi (n:=7) (by omega) (by omega)
 try simp[b,a,d]at e1
 unfold Sm at f;by_cases h1:k<3
 .by_cases h2:lv=[]
  .subst h2;refine⟨a8,h,?_,.int,e⟩;have c:=c34
   try simp[b,a,d]at c
   rw[aC g27];simp[b,a,d,-getElem?_pos,g27,e1,h1,c,a8]
  .have hp:0<lv.length:=za5.2 h2;obtain⟨r,l,e2,r0,r1,g⟩:=BO hT j e (n:=lv.length) (by omega) (by omega);obtain⟨m,rfl,hm⟩:=yl r0 r1;obtain⟨x,hx⟩:=aR hm
   try simp[b,a,d]at e2
   refine⟨x,l,?_,.leaf (aM hx),g⟩;rw[aC g27];simp[b,a,d,-getElem?_pos,g27,e1,h1,hp,e2,hx]
 .refine⟨a8,h,?_,.int,e⟩;have c:=c34
  try simp[b,a,d]at c
  rw[aC g27];simp[b,a,d,-getElem?_pos,g27,e1,h1,c,a8]
def abw(hT:Tape L tm TP)(K:Sm L)(Q:ds.length<=20)(J:∀d∈ds,d.params.length<=8)(H:Sm lv)(A:dep<1000)(I:rJ L tm TP ds lv dep):rJ L tm TP ds lv (dep+1):=by
 have f:=hT.norm;have e:=hT.shift;have g:=hT.take;intro i hi;obtain⟨k,N,e1,T,S,q⟩:=BO hT K hi (n:=7) (by omega) (by omega)
 try simp[f,e,g]at e1
 unfold Sm at H;have u:¬((dep:Int)+1<1):=by omega
 have B:(dep:Int)+1-1=dep:=by omega
 have o:∀h1:k<3,∀h2:¬lv=[],∃(t:Ty)(j:Nat),(aE AP).i 27 [.aL tm 0,.pv (.ae (ds.map Dt.pv)),.pv (.ae (lv.map Ty.pv)),.pv (vI ((dep+1:Nat):Int))] (TP i) []=some ([t.av],TP j,[])/\gw (·∈ds) lv (dep+1) t/\j<=L.length:=by
  intro h1 h2;have hp:0<lv.length:=za5.2 h2;obtain⟨r,w,e2,r0,r1,p⟩:=BO hT K q (n:=lv.length) (by omega) (by omega);obtain⟨m,rfl,hm⟩:=yl r0 r1;obtain⟨x,hx⟩:=aR hm
  try simp[f,e,g]at e2
  refine⟨x,w,?_,.leaf (aM hx),p⟩;rw[aC g27];simp[f,e,g,-getElem?_pos,g27,e1,h1,hp,e2,hx]
 by_cases h1:k<3/\¬lv=[]
 .exact o h1.1 h1.2
 .have M:¬k<3\/lv=[]:=by
   by_cases h:k<3
   .right;by_cases h':lv=[]
    .exact h'
    .exact absurd ⟨h,h'⟩ h1
   .exact .inl h
  by_cases h2:k<4
  .refine⟨a8,N,?_,.int,q⟩;have c:=c34
   try simp[f,e,g]at c
   rw[aC g27];rcases M with h|h
   .simp[f,e,g,-getElem?_pos,g27,e1,h,h2,c,a8]
   .subst h;simp[f,e,g,-getElem?_pos,g27,e1,h2,c,a8]
  .have h3:¬k<3:=(by omega);by_cases h4:(k=4\/k=5)/\¬ds=[]
   .obtain⟨h4,h5⟩:=h4;have hp:0<ds.length:=za5.2 h5;obtain⟨r,w,e2,r0,r1,p⟩:=BO hT K q (n:=ds.length) (by omega) (by omega);obtain⟨m,rfl,hm⟩:=yl r0 r1;obtain⟨d,hx⟩:=aR hm
    try simp[f,e,g]at e2
    have z:=aM hx
    have y:Sm d.params:=by
     unfold Sm;have:=J d z;omega
    obtain⟨as,E,e3,R,G,v⟩:=abu hT A I y d.params.length 0 rfl (by omega) [] w rfl (by simp) p;rw[g27L0e]at e3
    try simp[f,e,g]at e3
    have F:Sm as:=(by unfold Sm at y⊢;omega);have c:=c62 (s:=d.name) (l:=as) F
    try simp[f,e,g]at c
    refine⟨⟨4,d.name,0,0,as⟩,E,?_,.dy z R G,v⟩;rw[aC g27];rcases h4 with rfl|rfl
    .simp[f,e,g,-getElem?_pos,g27,e1,hp,u,e2,hx,g27L0e,e3,c]
    .simp[f,e,g,-getElem?_pos,g27,e1,hp,u,e2,hx,g27L0e,e3,c]
   .obtain⟨a,w,D,P,p⟩:=I N q;obtain⟨b,E,C,O,v⟩:=I w p
    try simp[f,e,g]at D C
    have c:=c69 (a:=a) (b:=b)
    try simp[f,e,g]at c
    refine⟨⟨4,[45,62],0,0,[a,b]⟩,E,?_,.arrow P O,v⟩;rw[aC g27];by_cases h5:ds=[]
    .subst h5
     try simp[f,e,g]at D C
     simp (disch:=omega) [f,e,g,-getElem?_pos,g27,e1,h2,h3,u,B,aq,D,C,c]
    .have h6:¬k=4/\¬k=5:=by
      constructor
      .intro h;exact h4 ⟨.inl h,h5⟩
      .intro h;exact h4 ⟨.inr h,h5⟩
     simp (disch:=omega) [f,e,g,-getElem?_pos,g27,e1,h2,h3,h6.1,h6.2,u,B,aq,D,C,c]
def t27(hT:Tape L tm TP)(e:Sm L)(b:ds.length<=20)(c:∀d∈ds,d.params.length<=8)(a:Sm lv):∀dep:Nat,dep<1000->rJ L tm TP ds lv dep
 |0,_=>abv hT e a
 |dep+1,h=>abw hT e b c a (by omega) (t27 hT e b c a dep (by omega))
def qy:cA.Ok:=bw rfl
def Ex.JK(h:q∈e.ch):SizeOf.sizeOf q<SizeOf.sizeOf e:=by
 rw[Ex.ch,zae,zak]at h;cases e;rcases h with h|⟨a,b,rfl⟩
 .have:=_root_.List.sizeOf_lt_of_mem h;simp at*;omega
 .have:=_root_.List.sizeOf_lt_of_mem b;have:=dB.sJ a;simp at*;omega
def Ex.sz(e:Ex):Nat:=1+(e.ch.attach.map fun x=>x.1.sz).sum
termination_by SizeOf.sizeOf e
decreasing_by exact Ex.JK x.2
def Ex.ua(e:Ex):e.sz=1+(e.ch.map Ex.sz).sum:=by
 rw[Ex.sz,zcz,zc4]
def Ex.lY(e:Ex):1<=e.sz:=by rw[Ex.ua];omega
def gS{l:List α}{f:α->Nat}(h:∀x∈l,f x<=M):(l.map f).sum<=l.length*M:=by
 induction l with
 |nil=>simp
 |cons a r b=>
  have h1:=h a (by simp);have h2:=b fun x hx=>h x (by simp[hx])
  simp only[zan,zbT,zay,zaG];omega
def lq{l:List α}{f:α->Nat}{x:α}(h:x∈l):f x<=(l.map f).sum:=by
 induction l with
 |nil=>cases h
 |cons a r b=>
  simp only[zan,zbT];rcases zah.1 h with rfl|h
  .omega
  .have:=b h;omega
def Ex.QR(h:q∈e.ch):q.sz<e.sz:=by
 have:=lq (f:=Ex.sz) h;rw[e.ua];omega
@[simp] def KT(k:Int):Prop:=k=0\/k=5
inductive rR:Ex->Prop
 |leaf {e:Ex}:(e.kind=1\/e.kind=2)/\e.name.length<=100\/e.kind=3/\0<=e.num/\e.num<1000000000\/e.kind=10/\e.name=[]/\e.num=0/\e.ty=cA->e.kids=[]->e.aF=[]->rR e
 |lam {e a:Ex}:e.kind=4->e.name.length<=100->e.kids=[a]->e.aF=[]->rR a->rR e
 |app {e a b:Ex}:e.kind=5->e.kids=[a,b]->e.aF=[]->rR a->rR b->rR e
 |Ip {e a b:Ex}:e.kind=6\/e.kind=7->e.name.length<=100->e.kids=[a,b]->e.aF=[]->rR a->rR b->rR e
 |xq {e a:Ex}:e.kind=8->e.kids=[a]->rR a->e.aF.length<=100->
     (∀x∈e.aF,x.dy.length<=100/\x.vars.length<=10/\∀v∈x.vars,v.length<=100)->(∀x∈e.aF,rR x.body)->rR e
 |YP {e a:Ex}:e.kind=9->e.kids=[a]->e.aF=[]->e.ty.Kn KT->e.ty.nodes.length<=10000->rR a->rR e
 |held {e a:Ex}:e.kind=11->e.kids=[a]->e.aF=[]->rR a->rR e
def rR.c(h:rR e):∀x∈e.ch,rR x:=by
 intro x hx;rw[Ex.ch,zae,zak]at hx;cases h with
 |leaf _ h2 h3=>rw[h2,h3]at hx;simp at hx
 |lam _ _ h2 h3 h=>rw[h2,h3]at hx;simp at hx;subst hx;exact h
 |app _ h2 h3 h h'=>rw[h2,h3]at hx;simp at hx;rcases hx with rfl|rfl<;>assumption
 |Ip _ _ h2 h3 h h'=>rw[h2,h3]at hx;simp at hx;rcases hx with rfl|rfl<;>assumption
 |YP _ h2 h3 _ _ h=>rw[h2,h3]at hx;simp at hx;subst hx;exact h
 |held _ h2 h3 h=>rw[h2,h3]at hx;simp at hx;subst hx;exact h
 |xq _ h2 h _ _ h6=>
  rw[h2]at hx;simp at hx;rcases hx with rfl|⟨a,b,rfl⟩
  .exact h
  .exact h6 a b
def wN(n:Nat):Nat:=5 ^ (n / 4)*(n % 4+1)+(if n<4 then 0 else n % 4)
def abx(h:n<=i):wN n<=wN i:=by
 have step:∀n,wN n<=wN (n+1):=by
  intro n;unfold wN;by_cases q:n % 4=3
  .have h1:(n+1) / 4=n / 4+1:=(by omega);have h2:(n+1) % 4=0:=(by omega);rw[h1,h2,q,zcH];by_cases z:n<4
   .have:n / 4=0:=by omega
    rw[this];split<;>split<;>omega
   .obtain⟨k,b⟩:∃k,n / 4=k+1:=⟨n / 4-1,by omega⟩;have:=zcP k 5 (by decide);rw[b,zcH];generalize 5 ^ k=P at*;split<;>split<;>omega
  .have h1:(n+1) / 4=n / 4:=(by omega);have h2:(n+1) % 4=n % 4+1:=(by omega);rw[h1,h2];have:5 ^ (n / 4)*(n % 4+1)<=5 ^ (n / 4)*(n % 4+1+1):=Nat.mul_le_mul_left _ (by omega);split<;>split<;>omega
 induction h with
 |refl=>exact zal _
 |step _ a=>exact zaI a (step _)
def QS(m:Nat):wN (4*m)=5 ^ m:=by
 unfold wN;have h1:4*m / 4=m:=by omega
 have h2:4*m % 4=0:=by omega
 rw[h1,h2];split<;>omega
def Ux(s:bF):Bool:=dx ⟨4,s,0,0,[]⟩
def Iq(s:bF):Bool:=dx ⟨5,s,0,0,[]⟩
def Ty.wr(t:Ty):Bool:=(decide (t.kind=4)|| decide (t.kind=5)) && (t.args.attach.map fun x=>x.1.wr).all fun b=>b
termination_by SizeOf.sizeOf t
decreasing_by
 have:=_root_.List.sizeOf_lt_of_mem x.2;cases t;simp at*;omega
def Ty.WI(t:Ty):t.wr=((decide (t.kind=4)|| decide (t.kind=5)) && t.args.all Ty.wr):=by
 rw[Ty.wr,zcz,zc4,List.all_map];rfl
def WJ(a:Ar):Bool:=!decide (a.pos<0) && (Ux a.dy && (!decide (4<a.vars.length) && a.vars.all Iq))
def de(k:Int):Option (Bool×Nat):=
 if k=1\/k=2 then some (true,0)else if k=3\/k=10 then some (false,0)else if k=4 then some (true,1)else if k=5 then some (false,2)
 else if k=6\/k=7 then some (true,2)else if k=8\/k=9\/k=11 then some (false,1)else none
noncomputable def Ex.Bn(e:Ex)(nm:Bool)(kd:Nat):Bool:=
 !decide (e.pos<0) && (decide (e.kids.length=kd) && ((decide (0<e.aF.length)== decide (e.kind=8)) && (!decide (e.num<0) && (!decide (999999999<e.num) && ((decide (e.num=0)|| decide (e.kind=3)) &&
   ((nm || decide (e.name=[])) && ((!decide (e.kind=2)|| Ux e.name) && ((!nm || (decide (e.kind=2)|| Iq e.name)) && ((!decide (e.kind=9)|| (dx e.ty && e.ty.wr)) && (decide (e.kind=9)|| decide (e.ty=cA)))))))))))
noncomputable def Ex.xr(e:Ex):Bool:=(match de e.kind with|some (nm,kd)=>e.Bn nm kd|none=>false) && (e.aF.all WJ && (e.ch.attach.map fun x=>x.1.xr).all id)
termination_by SizeOf.sizeOf e
decreasing_by exact Ex.JK x.2
def Ex.QT(e:Ex):e.xr=((match de e.kind with|some (nm,kd)=>e.Bn nm kd|none=>false) && (e.aF.all WJ && e.ch.all Ex.xr)):=by
 rw[Ex.xr,zcz,zc4,List.all_map];rfl
def AdT(t:Ty):Prop:=t.nodes.length<=100000000/\t.pd z0<=40/\(∀w,¬cf t w)/\∀y∈t.nodes,y.kind≠5
def Ir:AdT cA:=⟨by rw[Ty.aI];simp[cA],by decide,fun w a=>by
 cases a with
 |var q=>simp[cA]at q
 |arg _ h _=>simp[cA]at h,fun y hy=>by
 rw[Ty.aI]at hy;simp[cA]at hy;rw[hy];simp⟩
inductive Ex.Ad:Ex->Prop
 |mk {e:Ex}:AdT e.ty->(∀x∈e.ch,x.Ad)->e.Ad
def Ex.Ad.t(h:e.Ad):AdT e.ty:=by cases h;assumption
def Ex.Ad.c(h:e.Ad):∀x∈e.ch,x.Ad:=by cases h;assumption
structure xT(n:Nat)(e:Ex):Prop where
 sc:YA e
 h:e.BN n
 w:e.sz<=wN n
 tx:rR e
 vl:e.xr=true
 ad:e.Ad
def Bo(h:e.BN n):n<=i->e.BN i:=by
 induction h generalizing i with
 |mk _ a=>
  intro hm;obtain⟨k,rfl⟩:∃k,i=k+1:=⟨i-1,by omega⟩;exact .mk fun x hx=>a x hx (by omega)
def xT.up(h:xT n e)(hm:n<=i):xT i e:=⟨h.sc,Bo h.h hm,zaI h.w (abx hm),h.tx,h.vl,h.ad⟩
def qz:cA.Cw:=⟨fun _=>rfl,by simp[cA]⟩
def Eg(hl:l.length<=4)(h:∀x∈l,x.sz<=5 ^ n):1+(l.map Ex.sz).sum<=5 ^ (n+1):=by
 have h1:=gS h;have h2:l.length*5 ^ n<=4*5 ^ n:=zaH _ hl;have h3:1<=5 ^ n:=zcP n 5 (by decide);rw[zcH];generalize 5 ^ n=P at*;omega
noncomputable def zj(e:Ex):Bool:=match de e.kind with|some (nm,kd)=>e.Bn nm kd|none=>false
theorem xt(e:Ex):e.xr=(zj e && (e.aF.all WJ && e.ch.all Ex.xr)):=by
 rw[Ex.QT];unfold zj;cases de e.kind with
 |none=>rfl
 |some p=>rfl
variable{s:bF}
def Uy(h:xm false s):zj ⟨4,0,s,0,[e],[],cA⟩=true:=by
 have h1:Iq s=true:=h.2;simp[zj,de,Ex.Bn,h1]
def JL:zj ⟨5,0,[],0,[e,q],[],cA⟩=true:=by simp[zj,de,Ex.Bn]
def Uz(a:k=6\/k=7)(h:xm false s):zj ⟨k,0,s,0,[e,q],[],cA⟩=true:=by
 have h1:Iq s=true:=h.2;rcases a with rfl|rfl<;>simp[zj,de,Ex.Bn,h1]
def QU:zj ⟨11,0,[],0,[e],[],cA⟩=true:=by simp[zj,de,Ex.Bn]
def UA(h1:dx g=true)(h2:g.wr=true):zj ⟨9,0,[],0,[e],[],g⟩=true:=by simp[zj,de,Ex.Bn,h1,h2]
def mH(b:zj ⟨k,0,s,m,l,[],g⟩=true)(c:k≠8)(hl:l.length<=4)(ht:g.Ok)(a:g.Cw)(hx:∀x∈l,xT (4*n) x)(tx:rR ⟨k,0,s,m,l,[],g⟩)(had:AdT g:=by exact Ir):xT (4*(n+1)) ⟨k,0,s,m,l,[],g⟩ where
 sc:=⟨.mk (by simp only;omega) (by simp) (by simp) ht (by simpa[Ex.ch]using fun x h=>(hx x h).sc.ok),.mk (fun h=>absurd h c) (by simpa[Ex.ch]using fun x h=>(hx x h).sc.one),.mk a (by simpa[Ex.ch]using fun x h=>(hx x h).sc.cw)⟩
 h:=Bo (n:=4*n+1) (.mk (by simpa[Ex.ch]using fun x h=>(hx x h).h)) (by omega)
 w:=by
  rw[QS,Ex.ua];have e:(⟨k,0,s,m,l,[],g⟩:Ex).ch=l:=by simp[Ex.ch]
  rw[e];exact Eg hl fun x h=>by have:=(hx x h).w;rwa [QS]at this
 tx:=tx
 vl:=by
  have a:(⟨k,0,s,m,l,[],g⟩:Ex).ch.all Ex.xr=true:=by simp[Ex.ch];exact fun x h=>(hx x h).vl
  rw[xt,a,b];rfl
 ad:=.mk had (by simpa[Ex.ch]using fun x h=>(hx x h).ad)
def jU(a:(k=1/\xm false s\/k=2/\xm true s)/\m=0\/k=3/\s=[]/\0<=m/\m<4\/k=10/\s=[]/\m=0):xT 4 ⟨k,0,s,m,[],[],cA⟩:=by
 refine mH (n:=0) ?_ (by omega) (by simp) qy qz (by simp) (.leaf ?_ rfl rfl)
 .rcases a with⟨⟨rfl,h⟩|⟨rfl,h⟩,rfl⟩|⟨rfl,rfl,h1,h2⟩|⟨rfl,rfl,rfl⟩
  .have h1:Iq s=true:=h.2;simp[zj,de,Ex.Bn,h1]
  .have h1:Ux s=true:=h.2;simp[zj,de,Ex.Bn,h1]
  .have c:¬m<0:=(by omega);have b:¬999999999<m:=(by omega);simp[zj,de,Ex.Bn,c,b]
  .simp[zj,de,Ex.Bn]
 .rcases a with⟨⟨h0,h⟩|⟨h0,h⟩,_⟩|⟨h0,_,h1,h2⟩|⟨h0,h1,h2⟩
  .exact .inl ⟨.inl h0,h.1⟩
  .exact .inl ⟨.inr h0,h.1⟩
  .exact .inr (.inl ⟨h0,h1,by show m<1000000000;omega⟩)
  .exact .inr (.inr ⟨h0,h1,h2,rfl⟩)
def UB(hn:0<n)(hr:r<3){ks:List Ex}(hf:xT (4*n+r) ⟨k,0,s,m,ks,[],cA⟩)(hy:xT (4*n) q):xT (4*n+r+1) ⟨5,0,[],0,[⟨k,0,s,m,ks,[],cA⟩,q],[],cA⟩ where
 sc:=⟨.mk (by simp) (by simp) (by simp) qy (by simpa[Ex.ch]using⟨hf.sc.ok,hy.sc.ok⟩),.mk (fun h=>absurd (show(5:Int)=8 from h) (by decide)) (by simpa[Ex.ch]using⟨hf.sc.one,hy.sc.one⟩),.mk qz (by simpa[Ex.ch]using⟨hf.sc.cw,hy.sc.cw⟩)⟩
 h:=.mk (by simpa[Ex.ch]using⟨hf.h,Bo hy.h (by omega)⟩)
 w:=by
  have h1:=hf.w;have h2:=hy.w;rw[QS]at h2;have h3:1<=5 ^ n:=zcP n 5 (by decide);rw[Ex.ua];have e:(⟨5,0,[],0,[⟨k,0,s,m,ks,[],cA⟩,q],[],cA⟩:Ex).ch=[⟨k,0,s,m,ks,[],cA⟩,q]:=(by simp[Ex.ch]);rw[e];simp only[zan,zbc,zbT,List.sum_nil];unfold wN at h1⊢;have e1:(4*n+r) / 4=n:=(by omega);have e2:(4*n+r) % 4=r:=(by omega);have e3:(4*n+r+1) / 4=n:=(by omega);have e4:(4*n+r+1) % 4=r+1:=(by omega);rw[e1,e2,zad (by omega)]at h1;rw[e3,e4,zad (by omega)];have e5:5 ^ n*(r+1+1)=5 ^ n*(r+1)+5 ^ n:=Nat.mul_add_one _ _;rw[e5];omega
 tx:=.app rfl rfl rfl hf.tx hy.tx
 vl:=by
  have a:(⟨5,0,[],0,[⟨k,0,s,m,ks,[],cA⟩,q],[],cA⟩:Ex).ch.all Ex.xr=true:=(by simp[Ex.ch,hf.vl,hy.vl]);rw[xt,a,JL];rfl
 ad:=.mk Ir (by simpa[Ex.ch]using⟨hf.ad,hy.ad⟩)
def YQ{L:List Int}(hT:Tape L tm TP){I:Nat}(j:bG g)(t:E.length<=10000)(m:∀x∈E,M9 x.sc)(e:∀x∈E,xm false x.name):∀(n i:Nat),E.length-i=n->i<=E.length->∀acc:List bF,acc.length<=i->(∀s∈acc,xm false s)->
   ∃fs:List bF,fs.length<=E.length/\(∀s∈fs,xm false s)/\cl AP g348L0 ⟨[(0,.aL tm 0),(7,.au 7 0),(8,.au 8 0),(9,.own (acc.map .str) 0),(10,.pv (.ae (E.map En.pv))),(11,.pv (vI i))],[(7,tC g),(8,rq 1)],TP I,[acc.length,0,0,0]⟩=
     some (.exit 0,⟨[(0,.aL tm 0),(7,.au 7 0),(8,.au 8 0),(9,.own (fs.map .str) 0),(10,.pv (.ae (E.map En.pv))),(11,.pv (vI E.length)),(19,.pv (.bool false))],[(7,tC g),(8,rq 1)],TP I,[fs.length,0,0,0]⟩)
 |0,i,hn,hi,acc,q,d=>by
  have b:=hT.norm;have a:=hT.shift;have c:=hT.take;have:i=E.length:=(by omega);subst this;refine⟨acc,q,d,?_⟩;rw[g348L0e];simp[b,a,c,g348B0,tC,rq]
 |n+1,i,hn,hi,acc,q,d=>by
  have b:=hT.norm;have a:=hT.shift;have c:=hT.take;have hi:i<E.length:=(by omega);obtain⟨x,hx⟩:=aR hi;obtain⟨K,o,w,u⟩:=(m x (aM hx)).JF;have k:=c238 (N:=K) (by omega) (p:=x.sc.ty) j.ok u;have v:(acc.length+1)*16<=140737488355328:=(by omega);cases r:QG K x.sc.ty g with
  |none=>
   obtain⟨fs,h1,f,h⟩:=YQ hT (L:=L) (I:=I) j t m e n (i+1) (by omega) (by omega) acc (by omega) d;refine⟨fs,h1,f,?_⟩;rw[r]at k;rw[g348L0e]at h ⊢;simp[b,a,c,tC,rq]at h;simp[b,a,c,rI]at k;simp(disch:=omega)[b,a,c,-getElem?_pos,g348B0,tC,rq,hx,hi,o,k,aq];rw[g348L0e];simp[b,a,c,h]
  |some l=>
   obtain⟨fs,h1,f,h⟩:=YQ hT (L:=L) (I:=I) j t m e n (i+1) (by omega) (by omega) (acc++[x.name]) (by simp;omega) (by
    intro s hs;simp only[zae,zaU]at hs;rcases hs with hs|rfl
    .exact d s hs
    .exact e x (aM hx))
   refine⟨fs,h1,f,?_⟩;rw[r]at k;rw[g348L0e]at h ⊢;simp[b,a,c,tC,rq]at h;simp[b,a,c,rI]at k;simp(disch:=omega)[b,a,c,-getElem?_pos,g348B0,tC,rq,hx,hi,o,k,v,aq];rw[g348L0e];simp[b,a,c,h]
def pb(L:List Int)(tm:Nat)(TP:Int->Sh)(n:Nat)(r:Option (List AV×Sh×aH)):Prop:=∃(e:Ex)(a c b:Bool)(j:Nat),r=some ([.agg (j8 a c b e)],TP j,[])/\xT n e/\j<=L.length
structure Ctx(n D:Nat)(l:List En):Prop where
 len:l.length<=n
 sch:∀x∈l,M9 x.sc
 nm:∀x∈l,xm false x.name
 vn:∀x∈l,x.sc.ty.Vn
 hd:∀x∈l,x.sc.ty.pd z0<=D
def HH:Nat->Nat
 |0=>53
 |1=>25
 |2=>11
 |_=>4
def kA(h:n<3):2*HH (n+1)+3<=HH n:=by
 have:n=0\/n=1\/n=2:=by omega
 rcases this with rfl|rfl|rfl<;>decide
def UC:∀d,4<=HH d
 |0=>by decide
 |1=>by decide
 |2=>by decide
 |_+3=>by simp[HH]
def WK:∀d,HH (d+1)<=25
 |0=>by decide
 |1=>by decide
 |_+2=>by simp[HH]
def c348(hT:Tape L tm TP)(w:Sm L){l:List En}(hl:Ctx 10000 D l)(F:bG g)(hi:i<=L.length):
   pb L tm TP 4 ((aE AP).i 348 [.aL tm 0,.pv (.ae (ds.map Dt.pv)),.pv (.ae (l.map En.pv)),.pv g.pv] (TP i) []):=by
 have d:=hT.norm;have c:=hT.shift;have f:=hT.take;have N:=gM l;have O:=hl.len;have p:=c201 (l:=l) (by unfold Sm;omega);obtain⟨fs,hf,B,e⟩:=YQ hT (L:=L) (I:=i) F (E:=aW l) (by omega) (fun x hx=>hl.sch x (cd l x hx)) (fun x hx=>hl.nm x (cd l x hx)) _ 0 rfl (by omega) [] (by simp) (by simp);generalize aW l=E at*;have k2:=c20 (a:=g) (b:=a8) F.ok;have k:=c34;rw[g348L0e]at e;simp[d,c,f,tC,rq]at e p k
 have o:∀j,j<=L.length->(g=a8/\∃r t,0<=r/\t<=L.length/\(aE AP).i 68 [.aL tm 0,.pv (vI 4)] (TP j) []=some ([.pv (vI r)],TP t,[]))\/¬g=a8:=by
  intro j hj;by_cases q:g=a8
  .obtain⟨r,t,e1,r0,_,h⟩:=BO hT w hj (n:=4) (by omega) (by omega);exact .inl ⟨q,r,t,r0,h,e1⟩
  .exact .inr q
 by_cases H:fs=[]
 .subst H
  try simp[d,c,f]at e
  rcases o i hi with⟨q,r,t,r0,h,e1⟩|q
  .rw[zaE q]at k2;subst q
   try simp[d,c,f]at k2 e1
   by_cases hr:0<r
   .obtain⟨m,z,e2,m0,m1,v⟩:=BO hT w h (n:=3) (by omega) (by omega);refine⟨⟨3,0,[],m,[],[],cA⟩,true,true,true,z,?_,jU (.inr (.inl ⟨rfl,rfl,m0,by omega⟩)),v⟩
    try simp[d,c,f]at e2
    simp[d,c,f,a8]at k2 k e;rw[aC g348];simp[d,c,f,g348,p,g348L0e,e,k,k2,e1,hr,e2,j8,ib,cA,a8]
   .refine⟨⟨10,0,[],0,[],[],cA⟩,true,true,true,t,?_,jU (.inr (.inr ⟨rfl,rfl,rfl⟩)),h⟩;simp[d,c,f,a8]at k2 k e;rw[aC g348];simp[d,c,f,g348,p,g348L0e,e,k,k2,e1,hr,j8,ib,cA,a8]
  .rw[zaB q]at k2;refine⟨⟨10,0,[],0,[],[],cA⟩,true,true,true,i,?_,jU (.inr (.inr ⟨rfl,rfl,rfl⟩)),hi⟩;simp[d,c,f,a8]at k2 k;rw[aC g348];simp[d,c,f,g348,p,g348L0e,e,k,k2,j8,ib,cA,a8]
 .have hp:0<fs.length:=za5.2 H;obtain⟨K,C,y,J,_,u⟩:=BO hT w hi (n:=6) (by omega) (by omega)
  try simp[d,c,f]at y
  by_cases h6:0<K
  .obtain⟨m,M,G,m0,m1,A⟩:=BO hT w u (n:=fs.length) (by omega) (by omega);obtain⟨m,rfl,hm⟩:=yl m0 m1;obtain⟨s,hs⟩:=aR hm;refine⟨⟨1,0,s,0,[],[],cA⟩,true,true,true,M,?_,jU (.inl ⟨.inl ⟨rfl,B s (aM hs)⟩,rfl⟩),A⟩
   try simp[d,c,f]at G
   rw[aC g348];simp[d,c,f,-getElem?_pos,g348,p,g348L0e,e,hp,y,h6,G,hs,j8,ib,cA]
  .rcases o C u with⟨q,r,t,r0,h,e1⟩|q
   .rw[zaE q]at k2;subst q
    try simp[d,c,f]at k2 e1
    by_cases hr:0<r
    .obtain⟨m,z,e2,m0,m1,v⟩:=BO hT w h (n:=3) (by omega) (by omega);refine⟨⟨3,0,[],m,[],[],cA⟩,true,true,true,z,?_,jU (.inr (.inl ⟨rfl,rfl,m0,by omega⟩)),v⟩
     try simp[d,c,f]at e2
     simp[d,c,f,a8]at k2 k e;rw[aC g348];simp[d,c,f,g348,p,g348L0e,e,hp,y,h6,k,k2,e1,hr,e2,j8,ib,cA,a8]
    .refine⟨⟨10,0,[],0,[],[],cA⟩,true,true,true,t,?_,jU (.inr (.inr ⟨rfl,rfl,rfl⟩)),h⟩;simp[d,c,f,a8]at k2 k e;rw[aC g348];simp[d,c,f,g348,p,g348L0e,e,hp,y,h6,k,k2,e1,hr,j8,ib,cA,a8]
   .rw[zaB q]at k2;refine⟨⟨10,0,[],0,[],[],cA⟩,true,true,true,C,?_,jU (.inr (.inr ⟨rfl,rfl,rfl⟩)),u⟩;simp[d,c,f,a8]at k2 k;rw[aC g348];simp[d,c,f,g348,p,g348L0e,e,hp,y,h6,k,k2,j8,ib,cA,a8]
def lZ(L:List Int)(tm:Nat)(TP:Int->Sh)(ds:List Dt)(dep:Nat):Prop:=∀(i:Nat)(l:List En)(g:Ty),i<=L.length->Ctx (1000-20*dep) (HH dep) l->bG g->g.nodes.length<=6000-20*dep/\g.pd z0<=HH dep->
 pb L tm TP (4*(dep+1)) ((aE AP).i 326 [.aL tm 0,.pv (.ae (ds.map Dt.pv)),.pv (.ae (l.map En.pv)),.pv g.pv,.pv (vI dep)] (TP i) [])
def Ctx.push(h:Ctx n D E){c:Sc}(d:nK c)(hs:xm false s)(b:c.ty.Vn)(hp:c.ty.pd z0<=M)(hm:n+1<=i)(e:D<=M):Ctx i M (E++[⟨s,c⟩]):=⟨by have:=h.len;simp;omega,by
 intro x hx;simp at hx;rcases hx with hx|rfl
 .exact h.sch x hx
 .exact d.v,by
 intro x hx;simp at hx;rcases hx with hx|rfl
 .exact h.nm x hx
 .exact hs,by
 intro x hx;simp at hx;rcases hx with hx|rfl
 .exact h.vn x hx
 .exact b,by
 intro x hx;simp at hx;rcases hx with hx|rfl
 .exact zaI (h.hd x hx) e
 .exact hp⟩
def Ctx.bS(h:Ctx n D E)(hm:n<=i)(b:D<=M):Ctx i M E:=⟨by have:=h.len;omega,h.sch,h.nm,h.vn,fun x hx=>zaI (h.hd x hx) b⟩
def pc(h:g.args=[]):g.pd z0=0:=by
 rw[Ty.gR,h];split<;>rfl
variable{D:Dt->Prop}
def xu(h:∀g∈lv,g.args=[])(m:gw D lv n g):g.pd z0<=n:=by
 induction m with
 |leaf hl=>rw[pc (h _ hl)];exact zbB _
 |int=>rw[pc rfl];exact zbB _
 |dy hd hl _ c=>
  rw[Ty.gR,zad (by simp)];exact lV fun x hx=>by have:=c x hx;omega
 |arrow _ _ b a=>
  rw[Ty.gR,zad (by simp)];refine lV fun x hx=>?_;simp at hx;rcases hx with rfl|rfl<;>omega
def QV(hV:∀d,D d->i7 d.name d.params.length=true)(h:∀g∈lv,g.Vn)(m:gw D lv n g):g.Vn:=by
 induction m with
 |leaf hl=>exact h _ hl
 |int=>exact rG
 |dy hd hl _ c=>exact Ed (.inr (.inr (.inr (.inr ⟨rfl,rfl,rfl,by simp only[hl];exact hV _ hd⟩)))) c
 |arrow _ _ b a=>exact Ij b a
def xy:∀d∈br,i7 d.name d.params.length=true:=by decide +kernel
def qA(e:∀d,D d->d.params.length<=8)(hV:∀d,D d->i7 d.name d.params.length=true)(hN:∀d,D d->d.name.length<=100)(h:∀g∈lv,g.args=[]/\g.kind=3/\g.name=[])(m:gw D lv n g):bG g:=by
 refine⟨m.ok e (fun g ht=>(h g ht).1),?_,QV hV (fun g ht=>vg (h g ht).1 (.inr (.inr (.inl (h g ht).2.1)))) m⟩;induction m with
 |leaf hl=>exact .bare (h _ hl).1 (fun _=>by rw[(h _ hl).2.1];simp) (by rw[(h _ hl).2.2];simp)
 |int=>exact .bare rfl (by simp[a8]) (by simp[a8])
 |dy hd _ _ c=>exact .mk (by simp) (hN _ hd) c
 |arrow _ _ b a=>exact .mk (by simp) (by simp) (by intro x hx;simp at hx;rcases hx with rfl|rfl<;>assumption)
theorem Eh(i:bG g)(h:g.gC 3=false):dx g=true/\g.wr=true:=by
 obtain⟨j,e,b⟩:=i;clear j;induction e with
 | @mk t f hn _ d=>
  rw[Ty.o_,zbZ,zbl]at h;have a:∀x∈t.args,dx x=true/\x.wr=true:=fun x hx=>d x hx (by simpa using h.2 x hx) (b.df x hx)
  have hd:=b.hd;have m:t.kind≠3:=by have:=h.1;simp at this;exact this
  have c:t.kind=4:=by
   rcases Decidable.em (t.kind=4)with q|q
   .exact q
   .have:=(f q).1;unfold Hv at hd;simp at this;omega
  obtain⟨h1,h2,h3⟩:t.id=0/\t.home=0/\i7 t.name t.args.length=true:=by
   unfold Hv at hd;rcases hd with q|q|q|q|⟨_,q⟩
   .omega
   .omega
   .omega
   .omega
   .exact q
  rw[gf,Ty.WI];have l:t.args.all dx=true:=zas.2 fun x hx=>(a x hx).1
  have k:t.args.all Ty.wr=true:=zas.2 fun x hx=>(a x hx).2;simp[c,h1,h2,h3,l,k]
def bG.arrow{a b:Ty}(d:bG a)(c:bG b):bG ⟨4,[45,62],0,0,[a,b]⟩:=⟨⟨by simp[Sm],by intro x hx;simp at hx;rcases hx with rfl|rfl;exact d.ok;exact c.ok⟩,.mk (by simp) (by simp) (by intro x hx;simp at hx;rcases hx with rfl|rfl;exact d.kn;exact c.kn),Ij d.vn c.vn⟩
def jt:∀s∈varNames,xm false s:=by decide +kernel
def aby(h:g.Kn KG):∀y∈g.nodes,y.kind≠5:=by
 induction h with
 | @mk t b _ _ a=>
  intro y hy;rw[Ty.aI,zah,zaf]at hy;rcases hy with rfl|⟨x,hx,hy⟩
  .intro q;have:=(b (by omega)).1;simp at this;omega
  .exact a x hx y hy
def abz(c:bG g)(h:g.gC 3=false):g.Kn KT:=by
 have e:=c.kn;clear c;induction e with
 | @mk t f hn _ d=>
  rw[Ty.o_,zbZ,zbl]at h;refine .mk (fun q=>?_) hn fun x hx=>d x hx (by simpa using h.2 x hx);obtain⟨a,b⟩:=f q;refine⟨?_,b⟩;have:=h.1
  simp at a this⊢;omega
variable {L:List Int}  {tm:Nat} {TP:Int->Sh} {ds:List Dt} {dep:Nat} {l:List En} {g:Ty} {i:Nat}
def xz(L:List Int)(tm:Nat)(TP:Int->Sh)(ds:List Dt)(dep:Nat)(l:List En)(g:Ty)(i:Nat):Prop:=
 pb L tm TP (4*(dep+1)) ((aE AP).i 326 [.aL tm 0,.pv (.ae (ds.map Dt.pv)),.pv (.ae (l.map En.pv)),.pv g.pv,.pv (vI dep)] (TP i) [])
variable{D j9 j:Nat}{a b:Ty}{r9:Int}
def QW(hT:Tape L tm TP)(f:Sm L)(hl:Ctx 10000 D l)(d:bG g)(hi:i<=L.length):xz L tm TP ds 0 l g i:=by
 have b:=hT.norm;have a:=hT.shift;have c:=hT.take;obtain⟨e,f1,f2,f3,j,k,ht,hj⟩:=c348 hT f (ds:=ds) hl d hi;refine⟨e,f1,f2,f3,j,?_,ht.up (by omega),hj⟩;rw[aC g326];cases f1<;>cases f2<;>cases f3<;>simp[b,a,c,j8,ib]at k<;>simp[b,a,c,g326,k,j8,ib,aU]
def UD(hT:Tape L tm TP)(m:Sm L)(f:dep<100)(hl:Ctx 10000 D l)(h:bG g)(d:j9<=L.length)(e9:(aE AP).i 68 [.aL tm 0,.pv (vI 9)] (TP i) []=some ([.pv (vI 0)],TP j9,[])):xz L tm TP ds (dep+1) l g i:=by
 have b:=hT.norm;have a:=hT.shift;have c:=hT.take;obtain⟨e,f1,f2,f3,j,k,ht,hj⟩:=c348 hT m (ds:=ds) hl h d;refine⟨e,f1,f2,f3,j,?_,ht.up (by omega),hj⟩;have h1:¬((dep:Int)+1<1):=by omega
 try simp[b,a,c]at e9
 rw[aC g326];cases f1<;>cases f2<;>cases f3<;>simp[b,a,c,j8,ib]at k<;>simp[b,a,c,g326,h1,e9,k,j8,ib,aU]
structure QX(L:List Int)(tm:Nat)(TP:Int->Sh)(g:Ty)(i:Nat)(a b:Ty)(ar:Bool)(k r9:Int)(j9 j:Nat):Prop where
 nz:¬r9=0
 e9:(aE AP).i 68 [.aL tm 0,.pv (vI 9)] (TP i) []=some ([.pv (vI r9)],TP j9,[])
 arr:(aE AP).p 194 [g.pv]=some [a.pv,b.pv,.bool ar]
 xA:(aE AP).i 68 [.aL tm 0,.pv (vI 10)] (TP j9) []=some ([.pv (vI k)],TP j,[])
 hj:j<=L.length
def YR(hT:Tape L tm TP)(G:Sm L)(h:dep<3)(H:lZ L tm TP ds dep)(hl:Ctx (1000-20*(dep+1)) (HH (dep+1)) l){k:Int}(P:QX L tm TP g i a b true k r9 j9 j)(B:k<7)(w:bG a)(E:bG b)(p:b.nodes.length<=6000-20*dep)(F:a.pd z0<=HH (dep+1))(D:b.pd z0<=HH (dep+1)):xz L tm TP ds (dep+1) l g i:=by
 have q:=hT.norm;have f:=hT.shift;have r:=hT.take;obtain⟨nz,e9,arr,xA,hj⟩:=P;obtain⟨s,y,e1,hs,o⟩:=abt hT G hj;have z:=hl.len;have C:=kA h;have u:=c176 (t:=a);have k2:=c179 (l:=l) (by unfold Sm;omega) (n:=s) (c:=⟨0,a⟩);obtain⟨e,f1,f2,f3,x,e2,v,m⟩:=H y (l++[⟨s,⟨0,a⟩⟩]) b o (hl.push w.mono (jt _ hs) w.vn (by show a.pd z0<=_;omega) (by omega) (by omega)) E ⟨p,by omega⟩;have d:=lp f1 f2 f3 e;generalize j8 f1 f2 f3 e=A at e2 d;have I:=Ex.aG e;refine⟨⟨4,0,s,0,[e],[],cA⟩,true,true,true,x,?_,(mH (Uy (jt _ hs)) (by decide) (by simp) qy qz (by simpa using v) (.lam rfl (jt _ hs).1 rfl rfl v.tx)).up (by omega),m⟩;have h1:¬((dep:Int)+1<1):=by omega
 have h2:(dep:Int)+1-1=dep:=by omega
 try simp[q,f,r]at e9 arr xA e1 u k2 e2
 rw[aC g326];simp(disch:=omega)[q,f,r,g326,h1,h2,nz,e9,arr,xA,B,e1,u,k2,e2,aq,d.eQ,d.flat,d.pO,d.len,d.leaf,I,j8,ib,cA]
def YS(hT:Tape L tm TP)(S:Sm L)(o:dep<3)(w:ds.length<=20)(e:∀d∈ds,d.params.length<=8)(v:∀d∈ds,i7 d.name d.params.length=true)(z:∀d∈ds,d.name.length<=100)(D:lZ L tm TP ds dep)(hl:Ctx (1000-20*(dep+1)) (HH (dep+1)) l)(R:bG g)(n:g.nodes.length<=6000-20*(dep+1)/\g.pd z0<=HH (dep+1)){k:Int}(P:QX L tm TP g i a b false k r9 j9 j)(N:k<2):xz L tm TP ds (dep+1) l g i:=by
 have p:=hT.norm;have c:=hT.shift;have q:=hT.take;obtain⟨nz,e9,arr,xA,hj⟩:=P;obtain⟨t,M,e1,mt,u⟩:=t27 hT S w e (lv:=[]) (by simp[p,c,q,Sm]) 1 (by omega) j hj;have E:bG t:=qA e v z (by simp) mt;have H:=mt.small e (by simp);have tp:=xu (by simp) mt;have O:=kA o;obtain⟨n,Q⟩:=n;have C:=c69 (a:=t) (b:=g);have m:Ctx (1000-20*dep) (HH dep) l:=hl.bS (by omega) (by omega)
 obtain⟨x,f1,f2,f3,K,e2,hx,s⟩:=D M l _ u m (E.arrow R) ⟨by rw[Ty.aI];simp;omega,by
  rw[Ty.gR,zad (by simp)];refine lV fun x hx=>?_;simp at hx;rcases hx with rfl|rfl<;>omega⟩
 obtain⟨y,G,f5,F,J,e3,hy,r⟩:=D K l _ s m E ⟨by omega,by omega⟩;have f:=lp f1 f2 f3 x;generalize j8 f1 f2 f3 x=A at e2 f;have h:=lp G f5 F y;generalize j8 G f5 F y=B at e3 h;have U:=Ex.aG x;have T:=Ex.aG y;have I:A.take 11=A:=zaz (by rw[f.len];omega);refine⟨⟨5,0,[],0,[x,y],[],cA⟩,true,true,true,J,?_,(mH JL (by decide) (by simp) qy qz (by simpa using⟨hx,hy⟩) (.app rfl rfl rfl hx.tx hy.tx)).up (by omega),r⟩;have h1:¬((dep:Int)+1<1):=by omega
 have h2:(dep:Int)+1-1=dep:=by omega
 simp[p,c,q,Ty.av]at e9 arr xA e1 C e2 e3;rw[aC g326];simp(disch:=omega)[p,c,q,g326,h1,h2,nz,e9,arr,xA,N,e1,C,e2,e3,aq,f.eQ,f.flat,f.pO,f.len,f.leaf,h.eQ,h.flat,h.pO,h.len,h.leaf,I,U,T,aU,j8,ib,cA]
def YT(hT:Tape L tm TP)(y:Sm L)(h:dep<3)(v:lZ L tm TP ds dep)(hl:Ctx (1000-20*(dep+1)) (HH (dep+1)) l)(c:bG g)(f:g.nodes.length<=6000-20*(dep+1)/\g.pd z0<=HH (dep+1))(P:QX L tm TP g i a b false 4 r9 j9 j)(h3:g.gC 3=false)(h4:g.gC 1=false):xz L tm TP ds (dep+1) l g i:=by
 have p:=hT.norm;have e:=hT.shift;have q:=hT.take;obtain⟨nz,e9,arr,xA,hj⟩:=P;have m:=c351 (k:=3) c.ok;have k2:=c351 (k:=1) c.ok;rw[h3]at m;rw[h4]at k2;have t:=kA h;obtain⟨f,u⟩:=f;have r:=WK dep;have n:Ctx (1000-20*dep) (HH dep) l:=hl.bS (by omega) (by omega);obtain⟨x,f1,f2,f3,s,e2,hx,o⟩:=v j l _ hj n c ⟨by omega,by omega⟩;have d:=lp f1 f2 f3 x;generalize j8 f1 f2 f3 x=A at e2 d;have w:=Ex.aG x;refine⟨⟨9,0,[],0,[x],[],g⟩,true,true,false,s,?_,(mH (UA (Eh c h3).1 (Eh c h3).2) (by decide) (by simp) c.ok c.kn.cw (by simpa using hx) (.YP rfl rfl rfl (abz c h3) (by simp only;omega) hx.tx) (had:=⟨by omega,by omega,c.JG,aby c.kn⟩)).up (by omega),o⟩;have h1:¬((dep:Int)+1<1):=by omega
 have h2:(dep:Int)+1-1=dep:=by omega
 try simp[p,e,q]at e9 arr xA m k2 e2
 rw[aC g326];simp(disch:=omega)[p,e,q,g326,h1,h2,nz,e9,arr,xA,m,k2,e2,aq,d.eQ,d.flat,d.pO,d.len,d.leaf,w,j8,ib,cA]
def UE(hT:Tape L tm TP)(v:Sm L)(f:dep<3)(t:lZ L tm TP ds dep)(hl:Ctx (1000-20*(dep+1)) (HH (dep+1)) l)(s:bG g)(e:g.nodes.length<=6000-20*(dep+1)/\g.pd z0<=HH (dep+1))(P:QX L tm TP g i a b false 5 r9 j9 j):xz L tm TP ds (dep+1) l g i:=by
 have m:=hT.norm;have d:=hT.shift;have n:=hT.take;obtain⟨nz,e9,arr,xA,hj⟩:=P;have q:=kA f;obtain⟨e,r⟩:=e;have o:=WK dep;have h:Ctx (1000-20*dep) (HH dep) l:=hl.bS (by omega) (by omega);obtain⟨x,f1,f2,f3,p,e2,hx,k⟩:=t j l _ hj h s ⟨by omega,by omega⟩;have c:=lp f1 f2 f3 x;generalize j8 f1 f2 f3 x=A at e2 c;have u:=Ex.aG x;refine⟨⟨11,0,[],0,[x],[],cA⟩,true,true,true,p,?_,(mH QU (by decide) (by simp) qy qz (by simpa using hx) (.held rfl rfl rfl hx.tx)).up (by omega),k⟩;have h1:¬((dep:Int)+1<1):=by omega
 have h2:(dep:Int)+1-1=dep:=by omega
 try simp[m,d,n]at e9 arr xA e2
 rw[aC g326];simp(disch:=omega)[m,d,n,g326,h1,h2,nz,e9,arr,xA,e2,aq,c.eQ,c.flat,c.pO,c.len,c.leaf,u,j8,ib,cA]
end Go.Ab.Lw
namespace Go.Ab.Lw
open Ev
structure Thw(x u:Ty):Prop where
 ok:u.Ok
 kn:u.Kn KS
 vn:u.Vn
 vr:∀y∈u.nodes,y.kind=1->∃z∈x.nodes,z.kind=3/\z.home=99/\y.id=IntKind.i64.wrap (900+z.id)
 n:u.nodes.length<=x.nodes.length
 hp:u.pd z0<=x.pd z0
structure abA(x u:Ty):Prop where
 ok:u.Ok
 kn:u.Kn KS
 vn:u.Vn
 vr:∀y∈u.nodes,y.kind=1->∃z∈x.nodes,z.kind=3/\z.home=99/\y.id=IntKind.i64.wrap (900+z.id)
 hp:1+u.pd z0<=Ty.NA z0 x.args
variable{x u g:Ty}{l as:List Ty}{k:Int}{s:List As}{L:List Int}{tm dep i B K n:Nat}{TP:Int->Sh}{ds:List Dt}{Y:Sc}{z:List Ho}
def WL(hx:x.Ok)(j:∀a∈x.args,∃u:Ty,(aE AP).p 375 [a.pv]=some [u.pv]/\Thw a u):∀(k i:Nat),x.args.length-i=k->i<=x.args.length->∀acc:List Ty,acc.length=i->(∀u∈acc,abA x u)->(acc.flatMap Ty.nodes).length<=((x.args.take i).flatMap Ty.nodes).length->∃us:List Ty,
   cl AP g375L0 ⟨[(1,.au 1 0),(2,.au 2 0),(3,.au 3 0),(4,.pv (vI i))],[(1,tC x),(2,zC 0),(3,uC x acc 1)],[],[0,acc.length]⟩=
     some (.exit 0,⟨[(1,.au 1 0),(2,.au 2 0),(3,.au 3 0),(4,.pv (vI x.args.length)),(23,.pv (.bool false))],[(1,tC x),(2,zC 0),(3,uC x us 1)],[],[0,us.length]⟩)/\us.length=x.args.length/\(∀u∈us,abA x u)/\(us.flatMap Ty.nodes).length<=(x.args.flatMap Ty.nodes).length
 |0,i,o,hi,acc,h,hu,g=>by
  have:i=x.args.length:=by omega
  subst this;refine⟨acc,?_,h,hu,by simpa using g⟩;rw[g375L0e];simp[g375B0,tC,zC,uC]
 |k+1,i,o,hi,acc,h,hu,g=>by
  have hi:i<x.args.length:=(by omega);obtain⟨a,b⟩:=aR hi;have d:=hx.sm;unfold Sm at d;obtain⟨u,e,c⟩:=j a (aM b);have m:=c.n
  obtain⟨us,f,h1,h2,h3⟩:=WL hx j k (i+1) (by omega) (by omega) (acc++[u]) (by simp;omega) (by
   intro y hy;simp at hy;rcases hy with hy|rfl
   .exact hu y hy
   .exact⟨c.ok,c.kn,c.vn,fun z l q=>by obtain⟨w,hw,hr⟩:=c.vr z l q;exact⟨w,Us a (aM b) w hw,hr⟩,by have:=c.hp;have:=Bg (ht:=z0) (aM b);omega⟩) (by rw[zaM,b,zco,zat,zco,zat];simp only[zcq,zaq,zbO,zaJ];omega)
  refine⟨us,?_,h1,h2,h3⟩;have r:(acc.length+1)*64<=140737488355328:=by omega
  rw[g375L0e]at f ⊢;simp at e;simp[tC,zC,uC]at f;simp(disch:=omega)[-getElem?_pos,g375B0,tC,zC,uC,hi,b,aq,e,r];rw[g375L0e];simp[f]
def c375x(b:bG x):∃u:Ty,(aE AP).p 375 [x.pv]=some [u.pv]/\Thw x u:=by
 revert b
 refine Ty.cb (p:=fun x=>bG x->∃u:Ty,(aE AP).p 375 [x.pv]=some [u.pv]/\Thw x u) ?_ x;intro x l b;have c:x∈x.nodes:=by rw[Ty.aI];simp
 have d:1<=x.nodes.length:=by rw[Ty.aI];simp
 by_cases q:x.kind=3/\x.home=99
 .have k:=c63 (n:=IntKind.i64.wrap (900+x.id));refine⟨⟨1,[],IntKind.i64.wrap (900+x.id),0,[]⟩,?_,⟨bw rfl,.bare rfl (by simp) (by simp),vg rfl (.inl rfl),?_,by rw[Ty.aI];simpa using d,by rw[pc rfl];exact zbB _⟩⟩
  .simp at k;rw[aB g375];simp[g375,q.1,q.2,k]
  .intro y hy _;rw[Ty.aI]at hy;simp at hy;subst hy;exact⟨x,c,q.1,q.2,rfl⟩
 .obtain⟨us,e,h1,h2,h3⟩:=WL b.ok (fun a i=>l a i (b.df a i)) _ 0 rfl (by omega) [] rfl (by simp) (by simp);refine⟨⟨x.kind,x.name,x.id,x.home,us⟩,?_,⟨⟨by have:=b.ok.sm;unfold Sm at*;simp only;omega,fun y hy=>(h2 y hy).ok⟩,.mk (fun r=>?_) b.kn.nm fun y hy=>(h2 y hy).kn,JE b.vn h1 fun y hy=>(h2 y hy).vn,?_,by rw[Ty.aI,Ty.aI x];simp only[zay];omega,?_⟩⟩
  .rw[aB g375];rw[g375L0e]at e;simp[tC,zC,uC]at e;by_cases g:x.kind=3
   .have j:¬x.home=99:=fun h=>q ⟨g,h⟩;simp[g]at e;simp[g375,g,j,g375L0e,e]
   .simp[g375,g,g375L0e,e]
  .have:=b.kn.hd r;refine⟨Wj _ this.1,?_⟩;rw[this.2]at h1;exact zba.1 h1
  .intro y hy f;rw[Ty.aI]at hy;simp only[zah,zaf]at hy;rcases hy with rfl|⟨u,hu,hy⟩
   .have:=(b.kn.hd (by change x.kind=1 at f;rw[f];decide)).1
    change x.kind=1 at f
    rw[f]at this;simp at this
   .exact(h2 u hu).vr y hy f
  .have k:¬x.kind=1:=fun k=>b.JG _ (.var k);rw[Ty.gR,zad (show ¬(⟨x.kind,x.name,x.id,x.home,us⟩:Ty).kind=1 from k),Ty.gR z0 x,zad k];exact lV fun u hu=>(h2 u hu).hp
def QY:∀{out:List Ty}{y:Ty},y∈out\/y∈l->y∈l.foldl jg out:=by
 induction l with
 |nil=>intro out y h;simpa using h
 |cons a r b=>
  intro out y h;rw[zaO];refine b ?_;rcases h with h|h
  .left;unfold jg;split
   .exact h
   .simp[h]
  .simp only[zah]at h;rcases h with rfl|h
   .left;unfold jg;split
    .assumption
    .simp
   .exact .inr h
def c59x(hu:u.Ok)(hn:u.nodes.length<=4000):∃r:List Ty,(aE AP).p 59 [.ae [u.pv]]=some [.ae (r.map Ty.pv)]/\Sm r/\∀y∈u.gk 3,y∈r:=by
 have hl:=o7 (k:=3) (t:=u);have c0:iz (u.gk 3) []:=⟨by simp,by simp,by omega,fun x hx=>bw (mA x hx)⟩;have a:∀x∈[u].flatMap (Ty.gk 3),x∈u.gk 3:=by simp
 have h:=L59 (S:=u.gk 3) (l:=[u]) (by simp[Sm]) (by simpa using hu) a _ 0 rfl (by omega) [] c0;have b:=c0.fold a;refine⟨_,?_,b.len,fun y hy=>QY (.inr (by simpa using hy))⟩;rw[aB g59];rw[g59L0e]at h;simp at h;simp[g59,g59L0e,h]
def QZ:∀y∈g.nodes,y.kind=k->y.args=[]->y∈g.gk k:=by
 refine Ty.cb (p:=fun g=>∀y∈g.nodes,y.kind=k->y.args=[]->y∈g.gk k) ?_ g;intro g e y hy c d;rw[Ty.aI]at hy;rw[Ty.lU];simp only[zah,zaf]at hy;rcases hy with rfl|⟨a,b,hy⟩
 .rw[zai ⟨c,by rw[d];rfl⟩];simp
 .have:¬(g.kind=k/\g.args.length=0):=by
   rintro⟨_,h⟩
   rw[zba.1 h]at b;cases b
  rw[zad this];simp only[zaf];exact⟨a,b,e a b y hy c d⟩
def Q0(hr:Sm l){t:Ty}:∀(n i:Nat),l.length-i=n->i<=l.length->∀acc:List Int,acc.length<=i->∃ids:List Int,ids.length<=l.length/\(∀v∈acc,v∈ids)/\(∀z∈l.drop i,z.home=99->IntKind.i64.wrap (900+z.id)∈ids)/\
   cl AP g361L0 ⟨[(1,.au 1 0),(2,.au 2 0),(3,.own (acc.map vI) 0),(4,.pv (.ae (l.map Ty.pv))),(5,.pv (vI i))],[(1,tC t),(2,gz 1)],[],[acc.length,0]⟩=
     some (.exit 0,⟨[(1,.au 1 0),(2,.au 2 0),(3,.own (ids.map vI) 0),(4,.pv (.ae (l.map Ty.pv))),(5,.pv (vI l.length)),(12,.pv (.bool false))],[(1,tC t),(2,gz 1)],[],[ids.length,0]⟩)
 |0,i,hn,hi,acc,d=>by
  have:i=l.length:=by omega
  subst this;refine⟨acc,d,fun _ h=>h,by simp,?_⟩;rw[g361L0e];simp[g361B0,tC,gz]
 |n+1,i,hn,hi,acc,d=>by
  have hi:i<l.length:=(by omega);obtain⟨x,hx⟩:=aR hi;have c:=hr;unfold Sm at hr;have j:(acc.length+1)*8<=140737488355328:=(by omega);have b:bj 1 (acc.map vI)=true:=gL.head acc;rw[aZ hx];by_cases q:x.home=99
  .obtain⟨ids,h1,h2,h3,e⟩:=Q0 (t:=t) c n (i+1) (by omega) (by omega) (acc++[IntKind.i64.wrap (900+x.id)]) (by simp;omega);refine⟨ids,h1,fun v g=>h2 v (by simp[g]),?_,?_⟩
   .intro z a b;simp only[zah]at a;rcases a with rfl|a
    .exact h2 _ (by simp)
    .exact h3 z a b
   .rw[g361L0e]at e⊢;simp[tC,gz]at e;simp(disch:=omega)[-getElem?_pos,g361B0,tC,gz,hx,hi,q,j,b];rw[g361L0e];have f:IntKind.i64.wrap ((i:Int)+1)=(i:Int)+1:=aq (by omega) (by omega);simp[f,e]
  .obtain⟨ids,h1,h2,h3,e⟩:=Q0 (t:=t) c n (i+1) (by omega) (by omega) acc (by omega);refine⟨ids,h1,h2,?_,?_⟩
   .intro z a b;simp only[zah]at a;rcases a with rfl|a
    .exact absurd b q
    .exact h3 z a b
   .rw[g361L0e]at e⊢;simp[tC,gz]at e;simp(disch:=omega)[-getElem?_pos,g361B0,tC,gz,hx,hi,q,aq];rw[g361L0e];simp[e]
def lr{ids:List Int}:∀(vs:List Int)(acc:List As),(∀a∈acc,∃k:Nat,k<acc.length/\a.ty=bm k)->(∀a∈bJ ids vs acc,∃k:Nat,k<(bJ ids vs acc).length/\a.ty=bm k)/\(bJ ids vs acc).length<=acc.length+vs.length/\(∀v,(∃x,cR acc v=some x)->∃x,cR (bJ ids vs acc) v=some x)/\∀v∈vs,v∈ids->∃x,cR (bJ ids vs acc) v=some x
 |[],acc,h=>⟨h,by simp[bJ],fun _ h=>h,by simp⟩
 |v::r,acc,h=>by
  simp only[bJ];by_cases q:v∈ids
  .rw[zai q]
   obtain⟨h1,h2,h3,h4⟩:=lr (ids:=ids) r (acc++[⟨v,bm acc.length⟩]) (by
    intro a b;simp at b;rcases b with b|rfl
    .obtain⟨k,c,e⟩:=h a b;exact⟨k,by simp;omega,e⟩
    .exact⟨acc.length,by simp,rfl⟩)
   refine⟨h1,by simp at h2⊢;omega,?_,?_⟩
   .rintro w ⟨x,hx⟩
    exact h3 w ⟨x,by rw[A4,hx];rfl⟩
   .intro w hw hi;simp only[zah]at hw;rcases hw with rfl|hw
    .refine h3 w ?_;rw[A4];cases cR acc w with
     |some x=>exact⟨x,rfl⟩
     |none=>exact⟨bm acc.length,by simp[cR]⟩
    .exact h4 w hw hi
  .rw[zad q];obtain⟨h1,h2,h3,h4⟩:=lr (ids:=ids) r acc h;refine⟨h1,by simp;omega,h3,?_⟩;intro w hw hi;simp only[zah]at hw;rcases hw with rfl|hw
   .exact absurd hi q
   .exact h4 w hw hi
def zk:∀y∈(u.sub s).nodes,(∃i x,cR s i=some x/\y∈x.nodes)\/∃z∈u.nodes,y.kind=z.kind:=by
 refine Ty.cb (p:=fun u=>∀y∈(u.sub s).nodes,(∃i x,cR s i=some x/\y∈x.nodes)\/∃z∈u.nodes,y.kind=z.kind) ?_ u;intro u f y hy
 have df:∀a∈u.args,y∈(a.sub s).nodes->(∃i x,cR s i=some x/\y∈x.nodes)\/∃z∈u.nodes,y.kind=z.kind:=by
  intro a d h;rcases f a d y h with h|⟨z,g,h⟩
  .exact .inl h
  .exact .inr ⟨z,Us a d z g,h⟩
 have c:u∈u.nodes:=by rw[Ty.aI];simp
 rw[Ty.sub_eq]at hy;split at hy
 .cases e:cR s u.id with
  |some x=>rw[e]at hy;exact .inl ⟨_,x,e,hy⟩
  |none=>rw[e]at hy;exact .inr ⟨y,by simpa using hy,rfl⟩
 .rw[Ty.aI]at hy;simp only[zah,zaf,zak]at hy;rcases hy with rfl|⟨b,⟨a,d,rfl⟩,hy⟩
  .exact .inr ⟨u,c,rfl⟩
  .exact df a d hy
def sS:∀{l:List Ty}{out:List Int},(l.foldl bP out).length<=out.length+l.length
 |[],out=>by simp
 |a::r,out=>by
  have h:=sS (l:=r) (out:=bP out a);have:(bP out a).length<=out.length+1:=by unfold bP;split<;>simp
  simp only[zaO,zay];omega
def Bp:(vars [u]).length<=u.nodes.length:=by
 have:=sS (l:=[u].flatMap Ty.nodes) (out:=[]);simpa[vars]using this
def mI:∀{out:List Int}{y:Ty},y∈l->y.kind=1->y.id∈l.foldl bP out:=by
 have a6:∀(l:List Ty)(out:List Int)(v:Int),v∈out->v∈l.foldl bP out:=by
  intro l;induction l with
  |nil=>intro out v h;exact h
  |cons a r b=>intro out v h;rw[zaO];refine b _ v ?_;unfold bP;split<;>simp[h]
 induction l with
 |nil=>intro out y h;simp at h
 |cons a r b=>
  intro out y h c;rw[zaO];simp only[zah]at h;rcases h with rfl|h
  .refine a6 r _ _ ?_;unfold bP;by_cases q:y.id∈out<;>simp[q,c]
  .exact b h c
def c361x(o:bG x)(hn:x.nodes.length<=90):∃c:Sc,(aE AP).p 361 [x.pv]=some [c.pv]/\nK c/\c.ty.Vn/\c.ty.pd z0<=x.pd z0:=by
 obtain⟨r,v,hr,l⟩:=c59x o.ok (by omega);obtain⟨u,k2,T⟩:=c375x o;obtain⟨ids,hi,_,m,h⟩:=Q0 (t:=x) hr _ 0 rfl (by omega) [] (by simp);have hl:=o7 (k:=1) (t:=u);have w:=T.n;have s:=c208 (t:=u) ⟨T.ok,T.kn.wf,u.gk 1,by omega,fun y hy=>bw (mA y hy),fun y hy=>hy⟩ (ids:=ids) (by unfold Sm at*;omega);have D:=Bp (u:=u);obtain⟨c1,c2,_,C⟩:=lr (ids:=ids) (vars [u]) [] (by simp)
 have g:∀y∈u.nodes,y.kind=1->∃z,cR (bJ ids (vars [u]) []) y.id=some z:=by
  intro y hy f;refine C _ (mI (by simpa using hy) f) ?_;obtain⟨z,b,q,j,e⟩:=T.vr y hy f;rw[e]
  refine m z (by
   rw[zar];refine l z ?_;have B:=(o.kn.nodes z b (by rw[q];decide)).2;exact QZ z b q B) j
 refine⟨cG ids u (vars [u]),?_,⟨qo T.ok,?_,(bJ ids (vars [u]) []).length,rfl,by simp at c2;omega,?_⟩,Il.sub (fun i z b=>by
  obtain⟨a,d,rfl⟩:=eW b;obtain⟨k,_,e⟩:=c1 a d;rw[e];exact vg rfl (.inr (.inl rfl))) _ T.vn,zaI (vd (fun i z b=>by
  obtain⟨a,d,rfl⟩:=eW b;obtain⟨k,_,e⟩:=c1 a d;rw[e];exact pc rfl) u) T.hp⟩
 .generalize cG ids u (vars [u])=c at*;rw[g361L0e]at h;simp[tC,gz]at h;simp at v k2 s;rw[aB g361];simp[g361,v,k2,s,g361L0e,h]
 .refine oz (K:=KS) T.kn (by simp only[KS,KC];omega) ?_ (.inr g);intro i z b;obtain⟨a,d,rfl⟩:=eW b;obtain⟨k,_,e⟩:=c1 a d;rw[e];exact .bare rfl (by simp[bm]) (by simp[bm])
 .intro y hy f;rcases zk y hy with⟨i,z,b,hy⟩|⟨z,b,e⟩
  .obtain⟨a,d,rfl⟩:=eW b;obtain⟨k,A,e⟩:=c1 a d;rw[e,Ty.aI]at hy;simp[bm]at hy;subst hy;simp only;omega
  .have:=(T.kn.nodes z b (by rw[<-e,f];decide)).1;rw[<-e,f]at this;simp at this
def Q3:List Ty:=[⟨3,[],0,99,[]⟩,⟨3,[],1,99,[]⟩]
variable{l:List En}
def c349(hT:Tape L tm TP)(C:Sm L)(v:dep<3)(R:ds.length<=20)(h:∀d∈ds,d.params.length<=8)(Q:∀d∈ds,i7 d.name d.params.length=true)(S:∀d∈ds,d.name.length<=100)(hG:lZ L tm TP ds dep)(hl:Ctx (1000-20*(dep+1)) (HH (dep+1)) l)(hg:bG g)(u:g.nodes.length<=6000-20*(dep+1)/\g.pd z0<=HH (dep+1))(hi:i<=L.length):
   pb L tm TP (4*(dep+2)) ((aE AP).i 349 [.aL tm 0,.pv (.ae (ds.map Dt.pv)),.pv (.ae (l.map En.pv)),.pv g.pv,.pv (vI (dep+1:Nat))] (TP i) []):=by
 have k:=hT.norm;have e:=hT.shift;have o:=hT.take;obtain⟨r,j1,e1,r0,r1,P⟩:=BO hT C hi (n:=2) (by omega) (by omega);obtain⟨s,j2,e2,hs,O⟩:=abt hT C P;obtain⟨p,j3,e3,p0,p1,N⟩:=BO hT C O (n:=2) (by omega) (by omega)
 have f:∀t∈(if p=0 then Q3 else[]),t.args=[]/\t.kind=3/\t.name=[]:=by
  intro t ht;split at ht
  .simp[k,e,o,Q3]at ht;rcases ht with rfl|rfl<;>exact⟨rfl,rfl,rfl⟩
  .cases ht
 obtain⟨x,j4,e4,mx,M⟩:=t27 hT C R h (lv:=if p=0 then Q3 else[]) (by unfold Sm;split<;>simp[k,e,o,Q3]) 2 (by omega) j3 N;have D:bG x:=qA h Q S f mx;have a2:=mx.small h (fun t ht=>(f t ht).1);have a1:=xu (fun t ht=>(f t ht).1) mx;have a4:=kA v;have a5:=UC (dep+1);obtain⟨u,ab⟩:=u;obtain⟨c,X,sc,sv,a0⟩:=c361x D (by omega);have a3:=hl.len;have k1:=c176 (t:=x);have k2:=c179 (l:=l) (by unfold Sm;omega) (n:=s) (c:=⟨0,x⟩);have I:Ctx (1000-20*dep) (HH dep) l:=hl.bS (by omega) (by omega)
 have H:Ctx (1000-20*dep) (HH dep) (if r=1 then l++[⟨s,⟨0,x⟩⟩]else l):=by
  split
  .exact hl.push D.mono (jt _ hs) D.vn (by show x.pd z0<=_;omega) (by omega) (by omega)
  .exact I
 obtain⟨a,f1,f2,f3,j5,e5,z,K⟩:=hG j4 _ x M H D ⟨by omega,by omega⟩;obtain⟨y,k3⟩:=c307 z.sc.ok 10;obtain⟨w,k4⟩:=c307 z.sc.ok 11;have k5:=c34;have Z:=c176 (t:=a8)
 obtain⟨c',T,G,E,F⟩:∃c':Sc,c'=(if y=true\/w=true then⟨0,a8⟩else c)/\nK c'/\c'.ty.Vn/\c'.ty.pd z0<=HH dep:=by
  refine⟨_,rfl,?_⟩;split
  .exact⟨vi.mono,rG,by rw[pc rfl];exact zbB _⟩
  .exact⟨sc,sv,by omega⟩
 have Y:=c179 (l:=l) (by unfold Sm;omega) (n:=s) (c:=c');obtain⟨b,f4,f5,f6,j6,U,hb,J⟩:=hG j5 _ g K (hl.push (s:=s) G (jt _ hs) E F (by omega) (by omega)) hg ⟨by omega,by omega⟩;have j:=lp f1 f2 f3 a;generalize j8 f1 f2 f3 a=A at e5 j;have q:=lp f4 f5 f6 b;generalize j8 f4 f5 f6 b=B at U q;have ac:=Ex.aG a;have bc:=Ex.aG b;have tA:A.take 11=A:=zaz (by rw[j.len];omega);have hk:6+r≠8:=by omega
 refine⟨⟨6+r,0,s,0,[a,b],[],cA⟩,true,true,true,j6,?_,(mH (Uz (by omega) (jt _ hs)) hk (by simp) qy qz (by simpa using⟨z,hb⟩) (.Ip (by simp only;omega) (jt _ hs).1 rfl rfl z.tx hb.tx)).up (by omega),J⟩;have h2:(dep:Int)+1-1=dep:=by omega
 have W:=c71 (n:=99) (m:=0);have V:=c71 (n:=99) (m:=1);have hr:r=0\/r=1:=by omega
 simp[k,e,o,Ty.av]at e1 e2 e3 e4 X k1 k2 k3 k4 e5;rw[aC g349];rcases hr with rfl|rfl<;>by_cases hp:p=0<;>cases y<;>cases w<;>subst T<;>simp[k,e,o,a8]at k5 Z Y U<;>simp[k,e,o,hp,Q3]at e4 e5 W V <;>
 simp (disch:=omega) [k,e,o,g349,h2,e1,e2,e3,hp,e4,X,k1,k2,k3,k4,k5,Z,Y,e5,U,W,V,aq,j.eQ,j.flat,j.pO,j.len,j.leaf,q.eQ,q.flat,q.pO,q.len,q.leaf,tA,ac,bc,aU,j8,ib,cA]
def Na(h:k∈L):cR (L.map fun k=>As.mk k x) k=some x:=by
 induction L with
 |nil=>simp at h
 |cons a r b=>
  simp only[zan,cR];by_cases e:a=k
  .simp[e]
  .simp only[zah]at h;rcases h with h|h
   .exact absurd h.symm e
   .simp[e,b h]
def np{y:Ty}(h:cR (L.map fun k=>As.mk k x) k=some y):y=x:=by
 obtain⟨a,b,rfl⟩:=eW h;simp only[zak]at b;obtain⟨w,_,rfl⟩:=b;rfl
def vk(hs:∀i x,cR s i=some x->x.nodes.length<=1)(t:Ty):(t.sub s).nodes.length<=t.nodes.length:=by
 refine Ty.cb (p:=fun t=>(t.sub s).nodes.length<=t.nodes.length) ?_ t;intro t c;rw[Ty.sub_eq];split
 .cases e:cR s t.id with
  |some x=>
   have:=hs _ _ e;rw[Ty.aI t];simp only[zaW,zay];omega
  |none=>exact zal _
 .rw[Ty.aI,Ty.aI t];simp only[zay,za7,zbd]
  have:(t.args.map ((fun x=>x.nodes.length) ∘ Ty.sub s)).sum<=(t.args.map fun x=>x.nodes.length).sum:=by
   generalize t.args=l at c;induction l with
   |nil=>simp
   |cons a r b=>
    have h1:=c a (by simp);have h2:=b fun x hx=>c x (by simp[hx])
    simp only[zan,zbT,Function.comp_apply];omega
  omega
def c363x{t:Ty}(h:M7 t)(c:t.Vn):∃u:Ty,(aE AP).p 363 [t.pv]=some [u.pv]/\bG u/\u.nodes.length<=4000/\u.pd z0<=t.pd z0:=by
 have hl:=o7 (k:=1) (t:=t);have hn:=h.2;refine⟨_,c363 (S:=t.gk 1) (by omega) (fun x hx=>bw (mA x hx)) (t:=t) ⟨h.1.1,h.1.2.wf,fun x hx=>hx⟩,⟨?_,?_,Il.sub (fun i x hx=>by rw[np hx];exact rG) _ c⟩,zaI (vk (fun i x hx=>by rw[np hx,Ty.aI];simp[a8]) t) h.2,vd (fun i x hx=>by rw[np hx];exact pc rfl) t⟩
 .refine qk ?_ h.1.1;intro a b;simp only[zak]at b;obtain⟨w,_,rfl⟩:=b;exact vi.ok
 .refine oz (K:=KS) h.1.2 (by simp only[KS,KG];omega) ?_ (.inr ?_)
  .intro i x hx;rw[np hx];exact vi.kn
  .intro y hy d;exact⟨a8,Na (mI (by simpa using hy) d)⟩
def ZV(h:Hd):List AV:=[.pv (.str h.name),.pv (.bool h.dy),.pv (.ae (h.args.map Ty.pv)),.pv (.ae (h.types.map Ty.pv))]
def ZW(k:Int)(s:bF)(ks:List Ex):List AV:=[.pv (vI k),.pv (vI 0),.pv (.str s),.pv (vI 0),.own (ks.map Ex.pv) 3,.own [] 4,.pv (vI 0),.pv (.str []),.pv (vI 0),.pv (vI 0),.own [] 5]
def abB(hT:Tape L tm TP)(f:dep<3)(w:lZ L tm TP ds dep)(hl:Ctx (1000-20*dep) (HH dep) l){h:Hd}(D:B<=HH dep)(e:xn B h):∀(n i:Nat),h.args.length-i=n->i<=h.args.length->∀(k:Int)(s:bF)(ks:List Ex)(I N:Nat),xT N ⟨k,0,s,0,ks,[],cA⟩->4*(dep+1)<=N->N+n<=4*(dep+1)+3->I<=L.length->∃(k':Int)(s':bF)(ks':List Ex)(J:Nat),xT (N+n) ⟨k',0,s',0,ks',[],cA⟩/\J<=L.length /\
   cl AP g352L0 ⟨[(0,.aL tm 0),(1,.pv (.ae (ds.map Dt.pv))),(2,.pv (.ae (l.map En.pv))),(4,.pv (vI (dep+1))),(10,.au 10 0),(12,.au 12 0),(13,.au 13 0),(14,.pv (vI i))],[(10,rq 0),(12,ZV h),(13,ZW k s ks)],TP I,[0,0,0,ks.length,0,0]⟩=
     some (.exit 0,⟨[(0,.aL tm 0),(1,.pv (.ae (ds.map Dt.pv))),(2,.pv (.ae (l.map En.pv))),(4,.pv (vI (dep+1))),(10,.au 10 0),(12,.au 12 0),(13,.au 13 0),(14,.pv (vI h.args.length)),(45,.pv (.bool false))],[(10,rq 0),(12,ZV h),(13,ZW k' s' ks')],TP J,[0,0,0,ks'.length,0,0]⟩)
 |0,i,hn,hi,k,s,ks,I,N,m,hN,o,p=>by
  have c:=hT.norm;have a:=hT.shift;have d:=hT.take;have:i=h.args.length:=(by omega);subst this;refine⟨k,s,ks,I,m,p,?_⟩;rw[g352L0e];simp[c,a,d,g352B0,rq,ZV,ZW]
 |n+1,i,hn,hi,k,s,ks,I,N,m,hN,o,p=>by
  have c:=hT.norm;have a:=hT.shift;have d:=hT.take;have hi:i<h.args.length:=(by omega);obtain⟨t,ht⟩:=aR hi;obtain⟨u,v,E,K,H⟩:=c363x (e.2.1 t (aM ht)).1 (e.2.1 t (aM ht)).2;obtain⟨y,f1,f2,f3,j,k2,hy,hj⟩:=w I l u p hl E ⟨by omega,by have:=e.2.2.2 t (aM ht);omega⟩
  have g:xT (N+1) ⟨5,0,[],0,[⟨k,0,s,0,ks,[],cA⟩,y],[],cA⟩:=by
   obtain⟨r,rfl⟩:∃r,N=4*(dep+1)+r:=⟨N-4*(dep+1),by omega⟩;exact UB (by omega) (by omega) m hy
  obtain⟨k',s',ks',J,C,z,q⟩:=abB hT f w hl D e n (i+1) (by omega) (by omega) 5 [] [⟨k,0,s,0,ks,[],cA⟩,y] j (N+1) g (by omega) (by omega) hj;refine⟨k',s',ks',J,C.up (by omega),z,?_⟩;have b:=lp f1 f2 f3 y;generalize j8 f1 f2 f3 y=A at k2 b;have F:=Ex.aG y;have x:A.take 11=A:=zaz (by rw[b.len];omega);have h2:(dep:Int)+1-1=dep:=by omega
  have G:=e.1;rw[g352L0e]at q ⊢;simp[c,a,d,rq,ZV,ZW,cA]at q
  try simp[c,a,d]at v k2
  simp (disch:=omega) [c,a,d,-getElem?_pos,g352B0,rq,ZV,ZW,ht,hi,h2,v,k2,aq,b.eQ,b.flat,b.pO,b.len,b.leaf,x,F,aU];rw[g352L0e];simp[c,a,d,q]
def c352(hT:Tape L tm TP)(s:Sm L)(b:dep<3)(y:lX ds)(x:lZ L tm TP ds dep)(hl:Ctx (1000-20*(dep+1)) (HH (dep+1)) l)(r:bG g)(q:g.pd z0<=HH (dep+1))(hi:i<=L.length):
   pb L tm TP (4*(dep+2)) ((aE AP).i 352 [.aL tm 0,.pv (.ae (ds.map Dt.pv)),.pv (.ae (l.map En.pv)),.pv g.pv,.pv (vI (dep+1:Nat))] (TP i) []):=by
 have d:=hT.norm;have a:=hT.shift;have f:=hT.take;have v:=hl.len;obtain⟨hs,A,w,p⟩:=c362 r q (UC _) y (l:=l) hl.hd (by omega) hl.sch hl.vn hl.nm;by_cases z:hs=[]
 .subst z;obtain⟨e,f1,f2,f3,j,k,ht,hj⟩:=c348 hT s (ds:=ds) (hl.bS (by omega) (zal _)) r hi;refine⟨e,f1,f2,f3,j,?_,ht.up (by omega),hj⟩
  try simp[d,a,f]at p
  rw[aC g352];cases f1<;>cases f2<;>cases f3<;>simp[d,a,f,j8,ib]at k<;>simp[d,a,f,g352,p,k,j8,ib,aU]
 .have hp:0<hs.length:=za5.2 z;obtain⟨m,j,e1,m0,m1,hj⟩:=BO hT s hi (n:=hs.length) (by omega) (by omega);obtain⟨m,rfl,hm⟩:=yl m0 m1;obtain⟨h,hx⟩:=aR hm;have c:=w h (aM hx);have B:=c.1;obtain⟨k',s',ks',J,u,t,e2⟩:=abB hT (L:=L) (l:=l) b x (hl.bS (by omega) (by have:=kA b;omega)) (kA b) c _ 0 rfl (by omega) (if h.dy=true then 2 else 1) h.name [] j (4*(dep+1)) ((jU (.inl ⟨by have h3:=c.2.2.1;cases o:h.dy with|true=>rw[o]at h3;exact .inr ⟨by simp,h3⟩|false=>rw[o]at h3;exact .inl ⟨by simp,h3⟩,rfl⟩)).up (by omega)) (by omega) (by omega) hj;refine⟨⟨k',0,s',0,ks',[],cA⟩,false,false,false,J,?_,u.up (by omega),t⟩;rw[g352L0e]at e2
  try simp[d,a,f]at p e1
  rw[aC g352];cases o:h.dy<;>simp[d,a,f,rq,ZV,ZW,o]at e2<;>simp[d,a,f,-getElem?_pos,g352,p,z,e1,hx,o,g352L0e,e2,j8,ib,cA,aU]
def vm:∀d∈br,d.params.length<=100/\∀c∈d.cons,∀f∈c.fields,Ut ⟨d.params.length,f.iV d.params⟩=true:=by decide +kernel
def Q4(h:nK ⟨K,g⟩)(c:g.Vn)(e:as.length=K)(b:∀a∈as,bG a):bG (g.d7 as):=by
 obtain⟨K',h1,_,h3⟩:=h.JF;have:K'=K:=by simp at h1;omega
 subst this;exact⟨ou (fun a h=>(b a h).ok) h.ok,Bf h.kn (by simp only[KC,KG];omega) (fun a h=>(b a h).kn) (fun y hy d=>by have:=h3 y hy d;omega),Il.d7 (fun a h=>(b a h).vn) _ c⟩
def YU:∀d∈br,∀c∈d.cons,c.fields.length<=4:=by decide +kernel
variable{s:bF}{l:List Ho}
def Ei(k:lX ds)(i:∀a∈as,bG a):((fieldsOf ds s as).getD []).length<=4/\∀f∈(fieldsOf ds s as).getD [],bG f:=by
 cases e:fieldsOf ds s as with
 |none=>simp
 |some fs=>
  simp only[fieldsOf,zau]at e;obtain⟨q,_,d,hd,c,g,e⟩:=e;split at e
  .rename_i hl;cases e;have b:=k.all d (aM hd);obtain⟨_,_,h8⟩:=cM d b;obtain⟨j,h⟩:=vm d b;refine⟨by simpa using YU d b c (aM g),?_⟩;intro f hf;simp only[zaW,zak]at hf;obtain⟨x,hx,rfl⟩:=hf;exact Q4 (rH rfl j (h c (aM g) x hx)) ((Bm d b c (aM g)).2.1 x hx) hl i
  .cases e
def Nb(l:lX ds)(j:∀a∈as,a.pd z0<=1):∀f∈(fieldsOf ds s as).getD [],f.pd z0<=5:=by
 cases e:fieldsOf ds s as with
 |none=>simp
 |some fs=>
  simp only[fieldsOf,zau]at e;obtain⟨q,_,d,hd,c,g,e⟩:=e;split at e
  .cases e
   have h:=l.all d (aM hd);obtain⟨k,b⟩:=vm d h;intro f hf;simp only[zaW,zak]at hf;obtain⟨x,hx,rfl⟩:=hf;have h1:=(QK d h c (aM g)).2 x hx;have h2:=QD (ht:=z0) j (x.iV d.params) fun w i=>(qx i (rH (c:=⟨d.params.length,x.iV d.params⟩) rfl k (b c (aM g) x hx)).kn (by simp)).elim
   omega
  .cases e
def lX.small(h:lX ds):Small ds where
 num:=by have:=h.len;unfold Sm;omega
 dy:=fun d hd=>by have:=(cM d (h.all d hd)).2.1;unfold Sm;omega
 tot:=by have:=h.len;have:=Ui (b:=8) fun d hd=>(cM d (h.all d hd)).2.1;unfold Sm;omega
 par:=fun d hd=>by have:=(cM d (h.all d hd)).1;unfold Sm;omega
 Wo:=fun d hd c e=>by
  obtain⟨a,b,c2⟩:=JH (h.all d hd) c e;exact⟨a,b,fun x hx=>(c2 x hx).cw⟩
def WM(hT:Tape L tm TP)(u:Sm L)(h:ds.length<=20)(b:∀d∈ds,d.params.length<=8)(f:∀d∈ds,i7 d.name d.params.length=true)(l:∀d∈ds,d.name.length<=100){p2:PV}{p4:PV}{g:Ty}{d:Dt}(p:d.params.length<=8):∀(n k:Nat),d.params.length-k=n->k<=d.params.length->∀(acc:List Ty)(i:Nat),acc.length=k->(∀x∈acc,bG x/\x.nodes.length<=9/\x.pd z0<=1)->i<=L.length->
   ∃(r:List Ty)(j:Nat),r.length=d.params.length/\(∀x∈r,bG x/\x.nodes.length<=9/\x.pd z0<=1)/\j<=L.length /\
   cl AP g350L0 ⟨[(0,.aL tm 0),(1,.pv (.ae (ds.map Dt.pv))),(2,.pv p2),(4,.pv p4),(8,.au 8 0),(10,.au 10 0),(11,.au 11 0),(12,.own (acc.map Ty.pv) 0),(13,.pv (vI k))],[(8,tC g),(10,rq 1),(11,Io d)],TP i,[acc.length,0,0,0]⟩=
     some (.exit 0,⟨[(0,.aL tm 0),(1,.pv (.ae (ds.map Dt.pv))),(2,.pv p2),(4,.pv p4),(8,.au 8 0),(10,.au 10 0),(11,.au 11 0),(12,.own (r.map Ty.pv) 0),(13,.pv (vI d.params.length)),(41,.pv (.bool false))],[(8,tC g),(10,rq 1),(11,Io d)],TP j,[r.length,0,0,0]⟩)
 |0,k,hn,m,acc,i,s,hm,hi=>by
  have c:=hT.norm;have a:=hT.shift;have e:=hT.take;have:k=d.params.length:=(by omega);subst this;refine⟨acc,i,s,hm,hi,?_⟩;rw[g350L0e];simp[c,a,e,g350B0,tC,rq,Io]
 |n+1,k,hn,m,acc,i,s,hm,hi=>by
  have c:=hT.norm;have a:=hT.shift;have e:=hT.take;have m:k<d.params.length:=(by omega);obtain⟨t,v,e1,mt,o⟩:=t27 hT u h b (lv:=[]) (by simp[c,a,e,Sm]) 1 (by omega) i hi;have y:bG t:=qA b f l (by simp) mt;have z:=mt.small b (by simp)
  obtain⟨r,j,h1,h2,h3,q⟩:=WM hT u h b f l (p2:=p2) (p4:=p4) (g:=g) p n (k+1) (by omega) (by omega) (acc++[t]) v (by simp;omega) (by
   intro x hx;simp at hx;rcases hx with hx|rfl
   .exact hm x hx
   .exact⟨y,by omega,xu (by simp) mt⟩) o
  refine⟨r,j,h1,h2,h3,?_⟩;have w:(acc.length+1)*64<=140737488355328:=by omega
  rw[g350L0e]at q ⊢;simp[c,a,e,tC,rq,Io]at q;simp[c,a,e,Ty.av]at e1;simp(disch:=omega)[c,a,e,-getElem?_pos,g350B0,tC,rq,Io,m,e1,w,aq];rw[g350L0e];simp[c,a,e,q]
def Ss(x:Ex)(as:List Ar):List AV:=[.pv (vI 8),.pv (vI 0),.pv (.str []),.pv (vI 0),.own [x.pv] 4,.own (as.map Ar.pv) 5,.pv (vI 0),.pv (.str []),.pv (vI 0),.pv (vI 0),.own [] 6]
def ZX(c:ke)(vs:List bF):List AV:=[.pv (vI 0),.pv (.str c.name),.own (vs.map .str) 7,.pv (vI 0),.pv (vI 0),.pv (.str []),.pv (vI 0),.own [] 8,.own [] 9,.pv (vI 0),.pv (.str []),.pv (vI 0),.pv (vI 0),.own [] 10]
def wN4:List bF:=[[120],[121],[122],[119]]
def JM:∀s∈wN4,xm false s:=by decide +kernel
def WN{L:List Int}(hT:Tape L tm TP){I:Nat}{p1 p2 p4:PV}{g:Ty}{d:Dt}{as:List Ty}{x:Ex}{ar:List Ar}{C:Nat}{c:ke}{f:List Ty}(w:f.length<=8)(hf:∀t∈f,bG t){D:Nat}(o:∀t∈f,t.pd z0<=D){N:Nat}(hN:N<=10000):∀(n k:Nat),f.length-k=n->k<=f.length->∀(vs:List bF)(l:List En),vs.length=k->(∀v∈vs,xm false v)->Ctx (N+k) D l->
   ∃(r:List bF)(l':List En),r.length=f.length/\(∀v∈r,xm false v)/\Ctx (N+f.length) D l' /\
   cl AP g350L2 ⟨[(0,.aL tm 0),(1,.pv p1),(2,.pv p2),(4,.pv p4),(8,.au 8 0),(10,.au 10 0),(11,.au 11 0),(12,.own (as.map Ty.pv) 0),(14,.au 14 0),(15,.pv (vI C)),(16,.pv (.ae (f.map Ty.pv))),(18,.au 18 0),(19,.pv (.ae (l.map En.pv))),(20,.pv (vI k))],
     [(8,tC g),(10,rq 1),(11,Io d),(14,Ss x ar),(18,ZX c vs)],TP I,[as.length,0,0,0,1,ar.length,0,vs.length,0,0,0]⟩=
     some (.exit 4,⟨[(0,.aL tm 0),(1,.pv p1),(2,.pv p2),(4,.pv p4),(8,.au 8 0),(10,.au 10 0),(11,.au 11 0),(12,.own (as.map Ty.pv) 0),(14,.au 14 0),(15,.pv (vI C)),(16,.pv (.ae (f.map Ty.pv))),(18,.au 18 0),(19,.pv (.ae (l'.map En.pv))),(20,.pv (vI f.length)),(92,.pv (.bool false))],
     [(8,tC g),(10,rq 1),(11,Io d),(14,Ss x ar),(18,ZX c r)],TP I,[as.length,0,0,0,1,ar.length,0,r.length,0,0,0]⟩)
 |0,k,hn,p,vs,l,j,h,hl=>by
  have b:=hT.norm;have a:=hT.shift;have e:=hT.take;have:k=f.length:=(by omega);subst this;refine⟨vs,l,j,h,hl,?_⟩;rw[g350L2e];simp[b,a,e,g350B2,tC,rq,Io,Ss,ZX]
 |n+1,k,hn,p,vs,l,j,h,hl=>by
  have b:=hT.norm;have a:=hT.shift;have e:=hT.take;have p:k<f.length:=(by omega);obtain⟨t,ht⟩:=aR p;have E:=hl.len;obtain⟨q,m,B⟩:∃q:Nat,(k:Int).tmod 4=q/\q<4:=⟨((k:Int) % 4).toNat,by rw[Int.tmod_eq_emod_of_nonneg (by omega)];omega,by omega⟩;obtain⟨s,hs⟩:=aR (l:=wN4) (i:=q) (by simpa[wN4]using B);have A:=c176 (t:=t);have k2:=c179 (l:=l) (by unfold Sm;omega) (n:=s) (c:=⟨0,t⟩)
  obtain⟨r,l',h1,y,h2,z⟩:=WN hT (L:=L) (I:=I) (p1:=p1) (p2:=p2) (p4:=p4) (g:=g) (d:=d) (as:=as) (x:=x) (ar:=ar) (C:=C) (c:=c) w hf o hN n (k+1) (by omega) (by omega) (vs++[s]) (l++[⟨s,⟨0,t⟩⟩]) (by simp;omega) (by
   intro v j;simp only[zae,zaU]at j;rcases j with j|rfl
   .exact h v j
   .exact JM _ (aM hs)) (hl.push (hf t (aM ht)).mono (JM _ (aM hs)) (hf t (aM ht)).vn (o t (aM ht)) (by omega) (zal _))
  refine⟨r,l',h1,y,h2,?_⟩;have F:(vs.length+1)*16<=140737488355328:=by omega
  have u:([PV.str [120],.str [121],.str [122],.str [119]]:List PV)[q]?=some (.str s):=by
   have:([PV.str [120],.str [121],.str [122],.str [119]]:List PV)=wN4.map PV.str:=rfl;rw[this];simp[b,a,e,hs]
  rw[g350L2e]at z ⊢;simp[b,a,e,tC,rq,Io,Ss,ZX]at z
  try simp[b,a,e]at A k2
  simp (disch:=omega) [b,a,e,-getElem?_pos,g350B2,tC,rq,Io,Ss,ZX,p,ht,m,u,A,k2,F,aq,aU];rw[g350L2e];simp[b,a,e,z]
def Mc.cx(m:Mc)(k:Nat):List AV:=[.pv (.ae (m.ds.map Dt.pv)),.pv (vI m.home),.pv (.ae (m.s.sl.map Sl.pv)),.pv (.ae (m.s.tr.map Ch.pv)),.pv (vI m.err),.pv (vI m.pos),.own (m.rc.map Ho.pv) k,.own (m.hd.map .bool) (k+1)]
def uz(h:Int)(s:cK):Nat->cK
 |0=>s
 |i+1=>a7 (uz h s i) h false
def xB{s:cK}(I:qF n s)(h:Int):∀i,qF (n+i) (uz h s i)
 |0=>I
 |i+1=>(xB I h i).fresh h
def vp(s:cK)(h:Int):∀i,Ext s.sl (uz h s i).sl
 |0=>.refl _
 |i+1=>(vp s h i).trans (Ext.fresh _ h false)
def cQ(n K:Nat):List Ty:=(List.range' n K).map fun j:Nat=>az j
def zm(n K:Nat):cQ n (K+1)=cQ n K++[az (n+K:Nat)]:=by simp[cQ,List.range'_concat]
@[simp] theorem oE(n K:Nat):(cQ n K).length=K:=by simp[cQ]
def rK{n K:Nat}:∀x∈cQ n K,eg (n+K) x:=by
 intro x hx;simp only[cQ,zak,zc1]at hx;obtain⟨j,hj,rfl⟩:=hx;exact ky (db.2 (by omega))
def j_(m:Mc)(i:Nat):Mc:={m with s:=uz m.home m.s i}
def abC{m:Mc}{n:Nat}(I:qF n m.s)(b:Y.id=K)(hn:n+K<=1000000):∀(k i:Nat),K-i=k->i<=K->
   cl AP g382L0 ⟨[(0,.aL 0 0),(3,.au 3 0),(4,.au 4 0),(6,.own ((cQ n i).map Ty.pv) 0),(7,.pv (vI i))],[(3,xj Y),(4,zC 1)],[some ((j_ m i).cx 2)],[i,0,m.rc.length,m.hd.length]⟩=
     some (.exit 0,⟨[(0,.aL 0 0),(3,.au 3 0),(4,.au 4 0),(6,.own ((cQ n K).map Ty.pv) 0),(7,.pv (vI K)),(11,.pv (.bool false))],[(3,xj Y),(4,zC 1)],[some ((j_ m K).cx 2)],[K,0,m.rc.length,m.hd.length]⟩)
 |0,i,d,hi=>by
  have:i=K:=by omega
  subst this;rw[g382L0e];simp[g382B0,xj,zC,b,Mc.cx,j_]
 |k+1,i,d,hi=>by
  have hi:i<K:=(by omega);have e:=c367 (m:=j_ m i) (n:=n+i) (xB I m.home i) (by omega);have a:=abC I b hn k (i+1) (by omega) (by omega);have f:(i+1)*64<=140737488355328:=(by omega);have hl:=oE n i;rw[zm]at a;unfold jc at e;simp[Mc.sh,Mc.tk,Mc.cells,j_,az]at e;rw[g382L0e]at a⊢;simp[xj,zC,b,Mc.cx,j_,uz,az]at a;generalize cQ n i=acc at*;generalize a7 (uz m.home m.s i) m.home false=g at*;subst hl;simp(disch:=omega)[-getElem?_pos,g382B0,xj,zC,b,hi,Mc.cx,j_,e,aq,f];rw[g382L0e];simp[a]
def Ej(t:Ty):AV:=.agg [.pv (vI t.kind),.pv (.str t.name),.pv (vI t.id),.pv (vI t.home),.pv (.ae (t.args.map Ty.pv))]
def c382{m:Mc}(I:qF n m.s)(b:Y.id=K)(hn:n+K<=1000000)(e:Y.ty.Ok):(aE AP).i 382 [.aL 0 0,.pv Y.pv] m.sh m.tk=some ([Ej (Y.ty.d7 (cQ n K)),.own ((cQ n K).map Ty.pv) 0],[some ((j_ m K).cx 1)],[K,m.rc.length,m.hd.length]):=by
 have h:=abC I b hn _ 0 rfl (by omega);have d:=c48 (s:=cQ n K) (by unfold Sm;simp;omega) e;have hl:=oE n K;have h0:cQ n 0=[]:=by simp[cQ]
 rw[h0]at h;have a:Y.pv=.agg [vI Y.id,vI Y.ty.kind,.str Y.ty.name,vI Y.ty.id,vI Y.ty.home,.ae (Y.ty.args.map Ty.pv)]:=rfl;rw[g382L0e]at h;simp[xj,zC,b,Mc.cx,j_,uz]at h d;generalize cQ n K=acc at*;generalize Y.ty.d7 acc=u at*;rw[aC g382];simp[g382,Mc.sh,Mc.tk,Mc.cells,Mc.cx,Ej,a,b,g382L0e,h,d,j_,hl]
def aP(l:List Ho):List Ty:=l.flatMap fun h=>h.ctx.map (fun x=>x.sc.ty)++[h.goal]
def UF(h:Ho):Prop:=h.ctx.length<=1000000
def WO{h:Ho}(hi:z[i]?=some h)(d:UF h):∀(n j:Nat),h.ctx.length-j=n->j<=h.ctx.length->∀acc:List Ty,acc.length+n<=B->B<=1000000000000->
   cl AP g356L1 ⟨[(0,.pv (.ae (z.map Ho.pv))),(3,.own (acc.map Ty.pv) 0),(4,.pv (vI i)),(5,.pv (vI j))],[],[],[acc.length]⟩=
     some (.exit 2,⟨[(0,.pv (.ae (z.map Ho.pv))),(3,.own ((acc++(h.ctx.drop j).map fun x=>x.sc.ty).map Ty.pv) 0),(4,.pv (vI i)),(5,.pv (vI h.ctx.length)),(19,.pv (.bool false))],[],[],[acc.length+n]⟩)
 |0,j,hn,hj,acc,f,e=>by
  have:j=h.ctx.length:=by omega
  subst this;have a:=(zaa.1 hi).1;rw[g356L1e];simp[-getElem?_pos,g356B1,hi,a]
 |n+1,j,hn,hj,acc,f,e=>by
  have hj:j<h.ctx.length:=(by omega);obtain⟨x,hx⟩:=aR hj;have a:=(zaa.1 hi).1;have b:=WO hi d n (j+1) (by omega) (by omega) (acc++[x.sc.ty]) (by simp;omega) e;have c:(acc.length+1)*64<=140737488355328:=(by omega);unfold UF at d;rw[g356L1e]at b⊢;rw[aZ hx];simp at b;simp(disch:=omega)[-getElem?_pos,g356B1,hi,a,hx,hj,c,aq];rw[g356L1e];simp[b];omega
def abD(hl:z.length<=100000)(f:∀h∈z,UF h):∀(n i:Nat),z.length-i=n->i<=z.length->∀acc:List Ty,acc.length+n*1000001<=200000000000->
   cl AP g356L0 ⟨[(0,.pv (.ae (z.map Ho.pv))),(3,.own (acc.map Ty.pv) 0),(4,.pv (vI i))],[],[],[acc.length]⟩=
     some (.exit 0,⟨[(0,.pv (.ae (z.map Ho.pv))),(3,.own ((acc++aP (z.drop i)).map Ty.pv) 0),(4,.pv (vI z.length)),(9,.pv (.bool false))],[],[],[acc.length+(aP (z.drop i)).length]⟩)
 |0,i,hn,hi,acc,g=>by
  have:i=z.length:=by omega
  subst this;rw[g356L0e];simp[g356B0,aP]
 |n+1,i,hn,hi,acc,g=>by
  have hi:i<z.length:=(by omega);obtain⟨h,hx⟩:=aR hi;have a:=f h (aM hx);have c:=a;unfold UF at c;have e1:=WO hx a (B:=acc.length+1000001) _ 0 rfl (by omega) acc (by omega) (by omega);have b:=abD hl f n (i+1) (by omega) (by omega) (acc++(h.ctx.map (fun x=>x.sc.ty)++[h.goal])) (by simp;omega);have d:(acc.length+h.ctx.length+1)*64<=140737488355328:=(by omega);have e:=mo.head (acc++h.ctx.map fun x=>x.sc.ty);rw[za3,zbd]at e;have hr:aP (z.drop i)=(h.ctx.map (fun x=>x.sc.ty)++[h.goal])++aP (z.drop (i+1)):=(by rw[aZ hx];simp[aP]);rw[hr];generalize aP (z.drop (i+1))=R at*;rw[g356L1e]at e1;rw[g356L0e]at b⊢;rw[zar]at e1;simp at e1 b;simp(disch:=omega)[-getElem?_pos,g356B0,hi,hx,g356L1e,e1,d,e,aq];rw[g356L0e];simp[b,zbD,Nat.add_comm 1]
def c356(hl:l.length<=100000)(a:∀h∈l,UF h):(aE AP).p 356 [.ae (l.map Ho.pv)]=some [.ae ((aP l).map Ty.pv)]:=by
 have h:=abD hl a _ 0 rfl (by omega) [] (by simp;omega);rw[aB g356];rw[g356L0e]at h;simp at h;simp[g356,g356L0e,h]
def lu(b:∀h∈l,UF h):(aP l).length<=l.length*1000001:=by
 unfold aP;rw[za7];refine gS fun h a=>?_;have:=b h a
 unfold UF at this;simp;omega
end Go.Ab.Lw
