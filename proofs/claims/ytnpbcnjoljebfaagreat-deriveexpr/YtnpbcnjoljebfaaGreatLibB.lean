import Derived.Test.YtnpbcnjoljebfaaGreatLibA
/- What functions of the given program answer, told of their slim code on the abstract machine. -/
set_option linter.unusedVariables false
set_option linter.defProp false
set_option linter.unusedSimpArgs false
set_option linter.unnecessarySimpa false
set_option maxRecDepth 100000
set_option maxHeartbeats 8000000
namespace Go.Ab
def zcd:=@List.mem_map_of_mem
def zbX:=@Nat.mul_add
def zbJ:=@List.mem_iff_getElem?
def zcf:=@Nat.mul_le_mul
def zcz:=@List.length_zip
def zcU:=@Nat.min_le_left
def zbR:=@List.getElem?_zip_eq_some
def zcc:=@List.of_mem_zip
def zbM:=@List.getElem?_of_mem
def zbi:=@Option.getD_some
def zaP:=@List.length_pos_iff
def zcq:=@List.map_attach_eq_pmap
def zcO:=@List.pmap_eq_map
def zbI:=@List.sum_cons
def zaZ:=@List.length_flatMap
def zb0:=@List.map_map
end Go.Ab
namespace Go.Ab.Lw
open Ev
structure Good(S:List Ty)(t:Ty):Prop where
 ok:t.Ok
 wf:t.Wf
 sub:∀x∈t.fw 1,x∈S
theorem nN{t:Ty}(a:t.Wf):∀x∈t.nodes,x.kind=1->x∈t.fw 1:=by
 revert a
 refine Ty.cB (p:=fun t=>t.Wf->∀x∈t.nodes,x.kind=1->x∈t.fw 1) ?_ t;intro t c a x hx b;rw[Ty.aM]at hx;rw[Ty.mi];simp only[zah,zam]at hx;rcases hx with rfl|⟨y,hy,hx⟩
 ·have d:=a.var b;simp[b,d]
 ·have:¬(t.kind=1∧t.args.length=0):=by
   rintro⟨_,h⟩
   have:t.args=[]:=by simpa using h
   rw[this]at hy;simp at hy
  rw[zad this];simp only[zam];exact⟨y,hy,c y hy (a.cY y hy) x hx b⟩
theorem Ux{S:List Ty}(hf:S.length<1099511627776){l:List Ty}(hS:Sm l)(b:∀t∈l,Good S t):(aC AP).p 55 [.aq (l.map Ty.pv)]=some [.aq ((vars l).map vI)]:=by
 refine c55 (S:=S.map Ty.id) (by simpa using hf) hS (fun t a=>(b t a).ok) ?_;intro x hx c;simp only[zam]at hx;obtain⟨t,a,hx⟩:=hx;exact zcd ((b t a).sub x (nN (b t a).wf x hx c))
theorem za{S:List Ty}(hf:S.length<1099511627776)(c:∀x∈S,x.Ok){l:List Ty}(hS:Sm l)(b:∀t∈l,Good S t):(aC AP).p 56 [.aq (l.map Ty.pv)]=some [.aq ((vars l).map vI)]:=by
 rw[<-kg (fun t a=>(b t a).wf)];refine c56 hf c hS (fun t a=>(b t a).ok) ?_;intro x hx;simp only[zam]at hx;obtain⟨t,a,hx⟩:=hx;exact(b t a).sub x hx
theorem W9{l:List En}(hS:Sm l):∀(n i:Nat),l.length-i=n->i<=l.length->∀acc:List Sc,acc.length<=i->
   cl AP g226L0 ⟨[(0,.pv (.aq (l.map En.pv))),(3,.own (acc.map As.pv) 0),(4,.pv (vI i))],[],[],[acc.length]⟩=
     some (.exit 0,⟨[(0,.pv (.aq (l.map En.pv))),(3,.own ((acc++(l.drop i).map En.sc).map As.pv) 0),(4,.pv (vI l.length)),(8,.pv (.bool false))],[],[],[(acc++(l.drop i).map En.sc).length]⟩)
 |0,i,hn,hi,acc,c=>by
  have:i=l.length:=by omega
  subst this;rw[g226L0e];simp[g226B0]
 |n+1,i,hn,hi,acc,c=>by
  have hi:i<l.length:=(by omega);obtain⟨x,hx⟩:=aP hi;unfold Sm at hS;have b:(acc.length+1)*72<=140737488355328:=(by omega);have a:=W9 hS n (i+1) (by omega) (by omega) (acc++[x.sc]) (by simp;omega);rw[g226L0e]at a⊢;rw[aV hx];simp at a;simp(disch:=omega)[-getElem?_pos,g226B0,hx,hi,ah,b];rw[g226L0e];simp[a]
theorem c226{l:List En}(hS:Sm l):(aC AP).p 226 [.aq (l.map En.pv)]=some [.aq ((l.map En.sc).map As.pv)]:=by
 have h:=W9 hS _ 0 rfl (by omega) [] (by simp);rw[az g226];rw[g226L0e]at h;simp at h;simp[g226,g226L0e,h]
theorem W_{l:List Sc}(hS:Sm l):∀(n i:Nat),l.length-i=n->i<=l.length->∀acc:List Ty,acc.length<=i->
   cl AP g225L0 ⟨[(0,.pv (.aq (l.map As.pv))),(3,.own (acc.map Ty.pv) 0),(4,.pv (vI i))],[],[],[acc.length]⟩=
     some (.exit 0,⟨[(0,.pv (.aq (l.map As.pv))),(3,.own ((acc++(l.drop i).map As.ty).map Ty.pv) 0),(4,.pv (vI l.length)),(8,.pv (.bool false))],[],[],[(acc++(l.drop i).map As.ty).length]⟩)
 |0,i,hn,hi,acc,c=>by
  have:i=l.length:=by omega
  subst this;rw[g225L0e];simp[g225B0]
 |n+1,i,hn,hi,acc,c=>by
  have hi:i<l.length:=(by omega);obtain⟨x,hx⟩:=aP hi;unfold Sm at hS;have b:(acc.length+1)*64<=140737488355328:=(by omega);have a:=W_ hS n (i+1) (by omega) (by omega) (acc++[x.ty]) (by simp;omega);rw[g225L0e]at a⊢;rw[aV hx];simp at a;simp(disch:=omega)[-getElem?_pos,g225B0,hx,hi,ah,b];rw[g225L0e];simp[a]
theorem c225{S:List Ty}(hf:S.length<1099511627776)(d:∀x∈S,x.Ok){l:List Sc}(hS:Sm l)(e:∀c∈l,Good S c.ty):(aC AP).p 225 [.aq (l.map As.pv)]=some [.aq ((vars (l.map As.ty)).map vI)]:=by
 have h:=W_ hS _ 0 rfl (by omega) [] (by simp);have k:=za hf d (l:=l.map As.ty) (by unfold Sm at*;simpa using hS) (by intro t a;simp at a;obtain⟨c,b,rfl⟩:=a;exact e c b);rw[az g225];rw[g225L0e]at h;simp at h k;simp[g225,g225L0e,h,k]
theorem Uy{l:List En}(hS:Sm l):∀(n i:Nat),l.length-i=n->i<=l.length->∀acc:List En,acc.length<=i->
   cl AP g201L0 ⟨[(0,.pv (.aq (l.map En.pv))),(3,.own (acc.map En.pv) 0),(4,.pv (vI i))],[],[],[acc.length]⟩=
     some (.exit 0,⟨[(0,.pv (.aq (l.map En.pv))),(3,.own ((acc++a8 (l.drop i)).map En.pv) 0),(4,.pv (vI l.length)),(10,.pv (.bool false))],[],[],[(acc++a8 (l.drop i)).length]⟩)
 |0,i,hn,hi,acc,m=>by
  have:i=l.length:=by omega
  subst this;rw[g201L0e];simp[g201B0,a8]
 |n+1,i,hn,hi,acc,m=>by
  have hi:i<l.length:=(by omega);obtain⟨x,hx⟩:=aP hi;have k:=c181 (l:=l.drop (i+1)) (s:=x.name) (by unfold Sm at hS⊢;simp;omega);unfold Sm at hS;have j:(acc.length+1)*88<=140737488355328:=(by omega);have b:=NB (sz:=7) (l:=l.map En.pv) (k:=.i64) (h:=(i:Int)+1) (by omega) (by simp;omega) (by simp);have hd:((i:Int)+1).toNat=i+1:=(by omega);rw[hd]at b;rw[aV hx];simp only[ta]at k;cases e:m8 (l.drop (i+1)) x.name with
  |some c=>
   have f:(l.drop (i+1)).any (fun y=>decide (y.name=x.name))=true:=any_none.2 ⟨c,e⟩;have d:a8 (x::l.drop (i+1))=a8 (l.drop (i+1)):=(by simp only[a8,f,za0]);have a:=Uy hS n (i+1) (by omega) (by omega) acc (by omega);rw[g201L0e]at a⊢;rw[e]at k;simp at a k;simp(disch:=omega)[-getElem?_pos,g201B0,hx,hi,ah,b,k,d];rw[g201L0e];simp[a]
  |none=>
   have f:(l.drop (i+1)).any (fun y=>decide (y.name=x.name))=false:=by
    cases h:(l.drop (i+1)).any (fun y=>decide (y.name=x.name))with
    |false=>rfl
    |true=>obtain⟨c,g⟩:=any_none.1 h;rw[e]at g;cases g
   have d:a8 (x::l.drop (i+1))=x::a8 (l.drop (i+1)):=(by simp only[a8,f];simp);have a:=Uy hS n (i+1) (by omega) (by omega) (acc++[x]) (by simp;omega);rw[g201L0e]at a⊢;rw[e]at k;simp at a k;simp(disch:=omega)[-getElem?_pos,g201B0,hx,hi,ah,b,k,d,j];rw[g201L0e];simp[a]
theorem c201{l:List En}(hS:Sm l):(aC AP).p 201 [.aq (l.map En.pv)]=some [.aq ((a8 l).map En.pv)]:=by
 have h:=Uy hS _ 0 rfl (by omega) [] (by simp);rw[az g201];rw[g201L0e]at h;simp at h;simp[g201,g201L0e,h]
def dt(l:List En):List Int:=vars ((a8 l).map fun x=>x.sc.ty)
theorem c200{S:List Ty}(hf:S.length<1099511627776)(g:∀x∈S,x.Ok){l:List En}(hS:Sm l)(h:∀x∈l,Good S x.sc.ty):(aC AP).p 200 [.aq (l.map En.pv)]=some [.aq ((dt l).map vI)]:=by
 have d:=c201 hS;have hl:=d6 l;have b:=c226 (l:=a8 l) (by unfold Sm at*;omega);have a:=c225 hf g (l:=(a8 l).map En.sc) (by unfold Sm at*;simp;omega) (by intro c f;simp at f;obtain⟨x,hx,rfl⟩:=f;exact h x (cS l x hx));rw[az g200];have e:((a8 l).map En.sc).map As.ty=(a8 l).map fun x=>x.sc.ty:=by simp
 rw[e]at a;simp at d b a;simp[g200,d,b,a,dt]
inductive Ty.Kn (K:Int->Prop):Ty->Prop
 |mk {t:Ty}:(t.kind≠4->K t.kind∧t.args=[])->t.name.length<=100->(∀x∈t.args,x.Kn K)->t.Kn K
theorem Ty.Kn.hd{K:Int->Prop}{t:Ty}(h:t.Kn K):t.kind≠4->K t.kind∧t.args=[]:=by cases h;assumption
theorem Ty.Kn.nm{K:Int->Prop}{t:Ty}(h:t.Kn K):t.name.length<=100:=by cases h;assumption
theorem Ty.Kn.kd{K:Int->Prop}{t:Ty}(h:t.Kn K):∀x∈t.args,x.Kn K:=by cases h;assumption
theorem Ty.Kn.imp{K K':Int->Prop}(hK:∀k,K k->K' k){t:Ty}(h:t.Kn K):t.Kn K':=by
 induction h with
 |mk h1 hn _ a=>exact .mk (fun q=>⟨hK _ (h1 q).1,(h1 q).2⟩) hn a
theorem Ty.Kn.wf{K:Int->Prop}{t:Ty}(h:t.Kn K):t.Wf:=by
 induction h with
 |mk h1 _ _ a=>exact⟨fun q=>(h1 (by rw[q];decide)).2,a⟩
theorem Ty.Kn.wb{K:Int->Prop}{t:Ty}(h:t.Kn K):t.Wb:=by
 induction h with
 |mk h1 _ _ a=>exact⟨fun q=>(h1 (by rw[q];decide)).2,a⟩
theorem Ty.Kn.cw{K:Int->Prop}{t:Ty}(h:t.Kn K):t.Cw:=by
 induction h with
 |mk h1 _ _ a=>exact⟨fun q=>(h1 q).2,a⟩
theorem Ty.Kn.bare{K:Int->Prop}{t:Ty}(h:t.args=[])(a:t.kind≠4->K t.kind)(hn:t.name.length<=100):t.Kn K:=.mk (fun q=>⟨a q,h⟩) hn (by rw[h];simp)
theorem Ty.Kn.nodes{K:Int->Prop}{t:Ty}(h:t.Kn K):∀y∈t.nodes,y.kind≠4->K y.kind∧y.args=[]:=by
 induction h with
 | @mk t h1 _ _ b=>
  intro y hy;rw[Ty.aM]at hy;simp only[zah,zam]at hy;rcases hy with rfl|⟨a,c,hy⟩
  ·exact h1
  ·exact b a c y hy
@[simp] def KS(k:Int):Prop:=k=0∨k=1∨k=3
abbrev Ty.Kw(t:Ty):Prop:=t.Kn KS
theorem Ty.Kw.var{t:Ty}(h:t.Kw):t.kind=1->t.args=[]:=fun q=>(Ty.Kn.hd h (by rw[q];decide)).2
theorem Ty.Kw.cY{t:Ty}(h:t.Kw):∀x∈t.args,x.Kw:=Ty.Kn.kd h
@[simp] def KG(k:Int):Prop:=k=0∨k=3
@[simp] def KC(k:Int):Prop:=k=0∨k=2∨k=3
@[simp] def KV(k:Int):Prop:=k=0∨k=1∨k=2∨k=3
theorem RY:∀k,KG k->KS k:=by intro k h;simp at h⊢;omega
theorem Xa:∀k,KG k->KC k:=by intro k h;simp at h⊢;omega
theorem NW:∀k,KC k->KV k:=by intro k h;simp at h⊢;omega
theorem NX:∀k,KS k->KV k:=by intro k h;simp at h⊢;omega
theorem qQ{K K':Int->Prop}{s:List As}{t:Ty}(h:t.Kn K)(hK:∀k,K k->k≠1->K' k)(hs:∀i x,iH s i=some x->x.Kn K')(h1:K' 1∨∀y∈t.nodes,y.kind=1->∃x,iH s y.id=some x):(t.sub s).Kn K':=by
 induction h with
 | @mk t c hn _ f=>
  have b:t∈t.nodes:=(by rw[Ty.aM];simp);rw[Ty.sub_eq];by_cases q:t.kind=1
  ·rw[zak q];cases e:iH s t.id with
   |some x=>simpa using hs _ _ e
   |none=>
    rcases h1 with h1|h1
    ·have:=c (by rw[q];decide);exact .mk (fun _=>⟨by simp only[zbj];rw[q];exact h1,by simpa using this.2⟩) (by simpa using hn) (by rw[zbj,this.2];simp)
    ·obtain⟨x,hx⟩:=h1 t b q;rw[hx]at e;cases e
  ·rw[zad q];refine .mk (fun r=>?_) hn ?_
   ·have:=c r;exact⟨hK _ this.1 q,by simp[this.2]⟩
   ·intro x hx;simp only[zat]at hx;obtain⟨a,d,rfl⟩:=hx;refine f a d ?_;rcases h1 with h1|h1
    ·exact .inl h1
    ·right;intro y hy;refine h1 y ?_;rw[Ty.aM];simp only[zah,zam];exact .inr ⟨a,d,hy⟩
theorem zc{K K':Int->Prop}{l:List Ty}{t:Ty}(h:t.Kn K)(hK:∀k,K k->k≠2->K' k)(hs:∀x∈l,x.Kn K')(h1:∀y∈t.nodes,y.kind=2->0<=y.id∧y.id<l.length):(t.fQ l).Kn K':=by
 induction h with
 | @mk t f hn _ d=>
  have b:t∈t.nodes:=(by rw[Ty.aM];simp);rw[Ty.ko];cases e:CR l t with
  |some x=>
   obtain⟨_,_,_,hx⟩:=kj e;simpa using hs _ (aN hx)
  |none=>
   have q:t.kind≠2:=fun q=>vt e ⟨q,(h1 t b q).1,(h1 t b q).2⟩;simp only[zbj];refine .mk (fun r=>?_) hn ?_
   ·have:=f r;exact⟨hK _ this.1 q,by simp[this.2]⟩
   ·intro x hx;simp only[zat]at hx;obtain⟨a,c,rfl⟩:=hx;refine d a c ?_;intro y hy;refine h1 y ?_;rw[Ty.aM];simp only[zah,zam];exact .inr ⟨a,c,hy⟩
theorem nO{k:Int}{t:Ty}:(t.fw k).length<=t.nodes.length:=by
 refine Ty.cB (p:=fun t=>(t.fw k).length<=t.nodes.length) ?_ t;intro t d;rw[Ty.mi,Ty.aM];split
 ·simp
 ·have key:∀l:List Ty,(∀a∈l,(a.fw k).length<=a.nodes.length)->(l.flatMap (Ty.fw k)).length<=(l.flatMap Ty.nodes).length:=by
   intro l;induction l with
   |nil=>intro _;simp
   |cons a r c=>
    intro h;have h1:=h a (by simp);have h2:=c fun b e=>h b (by simp[e])
    simp only[zas,zan];omega
  have:=key t.args d;simp only[zax];omega
theorem lC{k:Int}{t:Ty}:∀x∈t.fw k,x.args=[]:=by
 refine Ty.cB (p:=fun t=>∀x∈t.fw k,x.args=[]) ?_ t;intro t b x hx;rw[Ty.mi]at hx;split at hx
 ·rename_i q;simp at hx;subst hx;exact za6.1 q.2
 ·simp only[zam]at hx;obtain⟨a,c,hx⟩:=hx;exact b a c x hx
theorem c59t{u:Ty}(hu:u.Ok)(hn:u.nodes.length<=4000):∃r:List Ty,(aC AP).p 59 [.aq [u.pv]]=some [.aq (r.map Ty.pv)]∧Sm r:=by
 have hl:=nO (k:=3) (t:=u);obtain⟨r,e,h,_⟩:=c59 (S:=u.fw 3) (by omega) (fun x hx=>bQ (lC x hx)) (l:=[u]) (by simp[Sm]) (by simpa using hu) (by simp);exact⟨r,e,h⟩
structure Vp where
 v:Ty->Prop
 cY:∀t,v t->∀x∈t.args,v x
 node:∀(t:Ty)(l:List Ty),v t->l.length=t.args.length->(∀x∈l,v x)->v ⟨t.kind,t.name,t.id,t.home,l⟩
 var:∀i,v (aQ i)
 arr:∀a b,v a->v b->v ⟨4,[45,62],0,0,[a,b]⟩
def Vp.all:Vp:=⟨fun _=>True,fun _ _ _ _=>trivial,fun _ _ _ _ _=>trivial,fun _=>trivial,fun _ _ _ _=>trivial⟩
structure Sg where
 ids:List Int
 p:Vp
instance:Membership Int Sg:=⟨fun S w=>w∈S.ids⟩
structure Inv(n M:Nat)(S:Sg)(s:c_):Prop where
 len:s.sl.length=n
 Pc:s.tr.length+(n+2)*ub s.sl<=M
 ok:∀x∈s.sl,x.ty.Ok
 ig:∀x∈s.sl,∀w,fE x.ty w->w∈S
 xj:CO s.sl
 wf:∀x∈s.sl,x.ty.Kw
 vn:∀x∈s.sl,x.bd=true->S.p.v x.ty
structure Ext(s s':List Sl):Prop where
 le:s.length<=s'.length
 bd:∀(k:Nat) x,s[k]?=some x->x.bd=true->∃y,s'[k]?=some y∧y.bd=true∧y.ty=x.ty
theorem Ext.refl(s:List Sl):Ext s s:=⟨zaj _,fun _ x h a=>⟨x,h,a,rfl⟩⟩
theorem Ext.trans{s s' a:List Sl}(h:Ext s s')(h':Ext s' a):Ext s a:=⟨zaR h.le h'.le,fun k x hx d=>by
 obtain⟨y,hy,b,e⟩:=h.bd k x hx d;obtain⟨z,c,zb,f⟩:=h'.bd k y hy b;exact⟨z,c,zb,by rw[f,e]⟩⟩
theorem Ext.set{s:List Sl}{i:Nat}{o x:Sl}(b:s[i]?=some o)(h:o.bd=false∨x.bd=o.bd∧x.ty=o.ty):Ext s (s.set i x):=⟨by simp,fun k y hy a=>by
 rw[zaA];by_cases e:i=k
 ·subst e;rw[b]at hy;cases hy;rcases h with h|⟨h1,h2⟩
  ·rw[h]at a;cases a
  ·have:=(zaa.1 b).1;exact⟨x,by simp[this],by rw[h1,a],h2⟩
 ·exact⟨y,by simp[e,hy],a,rfl⟩⟩
theorem mem_set{α:Type}{l:List α}{k:Nat}{x y:α}(h:y∈l.set k x):y=x∨y∈l:=by
 rcases List.mem_or_eq_of_mem_set h with h|h
 ·exact .inr h
 ·exact .inl h
theorem bI{s:c_}{i:Nat}{o x:Sl}:(gi s i o x).sl=s.sl.set i x:=rfl
theorem nP{s:c_}{i:Nat}{o x:Sl}:(gi s i o x).tr.length=s.tr.length+1:=by simp[gi]
theorem pZ{s:List Sl}{k:Nat}{o:Sl}(a:s[k]?=some o)(h:¬nc s (k:Int)):o.bd=false:=by
 cases e:o.bd with
 |false=>rfl
 |true=>exact absurd ⟨k,o,rfl,a,e⟩ h
theorem NY{n M:Nat}{S:Sg}{s:c_}(I:Inv n M S s){i j:Nat}{l h l' h':Sl}(hl:s.sl[i]?=some l)(u:s.sl[j]?=some h)(o:i≠j)(fi:¬nc s.sl (i:Int))(A:¬nc s.sl (j:Int))
   (b:l'.bd=l.bd) (a:l'.ty=l.ty) (r:h'.bd=true) (c:h'.ty=aQ i) (hi:(i:Int)∈S):
   Inv n M S (gi (gi s i l l') j h h')∧ub (gi (gi s i l l') j h h').sl<ub s.sl∧Ext s.sl (gi (gi s i l l') j h h').sl:=by
 have f:(gi s i l l').sl[j]?=some h:=by
  rw[bI,zaA,zad o,u]
 have B:=th hl b;have z:=y_ f (pZ u A) r;rw[bI]at z;have hp:=I.Pc;refine⟨⟨by simp[gi,I.len],?_,?_,?_,?_,?_,?_⟩,?_,(Ext.set hl (.inr ⟨b,a⟩)).trans (Ext.set f (.inl (pZ u A)))⟩
 ·rw[nP,nP];simp only[bI];have:(n+2)*ub s.sl=(n+2)*ub ((s.sl.set i l').set j h')+(n+2):=by rw[<-B,<-z,zbX,Nat.mul_one]
  omega
 ·intro x hx;simp only[bI]at hx;rcases mem_set hx with rfl|hx
  ·rw[c];exact bQ rfl
  ·rcases mem_set hx with rfl|hx
   ·rw[a];exact I.ok l (aN hl)
   ·exact I.ok x hx
 ·intro x hx w d;simp only[bI]at hx;rcases mem_set hx with rfl|hx
  ·rw[c]at d;rw[iZ (t:=aQ i) rfl d];exact hi
  ·rcases mem_set hx with rfl|hx
   ·rw[a]at d;exact I.ig l (aN hl) w d
   ·exact I.ig x hx w d
 ·simp only[bI];refine B7 (B6 I.xj hl b a) ?_;intro v d C;rw[c]at d;have e:=iZ (t:=aQ i) rfl d;have e2:v=(i:Int):=e;subst e2
  have y:¬nc (s.sl.set i l') (i:Int):=by
   rintro⟨k,x,q,hx,g⟩
   have:k=i:=by omega
   subst this;have m:k<s.sl.length:=by obtain⟨h,_⟩:=zaa.1 hl;exact h
   rw[zaA,zak rfl,zak m]at hx;cases hx;rw[b,pZ hl fi]at g;cases g
  have:=pX C y;omega
 ·intro x hx;simp only[bI]at hx;rcases mem_set hx with rfl|hx
  ·rw[c];exact⟨by simp[aQ],by simp[aQ],by simp[aQ]⟩
  ·rcases mem_set hx with rfl|hx
   ·rw[a];exact I.wf l (aN hl)
   ·exact I.wf x hx
 ·intro x hx g;simp only[bI]at hx;rcases mem_set hx with rfl|hx
  ·rw[c];exact S.p.var _
  ·rcases mem_set hx with rfl|hx
   ·rw[a];exact I.vn l (aN hl) (by rw[<-b];exact g)
   ·exact I.vn x hx g
 ·simp only[bI];omega
theorem Inv.NZ{n M:Nat}{S:Sg}{s:c_}(I:Inv n M S s):s.Ok n (M+10):=⟨by rw[I.len];omega,by have:=I.Pc;have:0<=(n+2)*ub s.sl:=zci _;omega,I.ok⟩
theorem Inv.YU{n M:Nat}{S:Sg}{s:c_}(I:Inv n M S s){i:Nat}{o x:Sl}(hx:x.ty.Ok):(gi s i o x).Ok n (M+10):=⟨by rw[bI,zbG,I.len];omega,by rw[nP];have:=I.Pc;have:0<=(n+2)*ub s.sl:=zci _;omega,by
 intro y hy;rw[bI]at hy;rcases mem_set hy with rfl|hy
 ·exact hx
 ·exact I.ok y hy⟩
theorem c397{n M:Nat}{S:Sg}{s:c_}(I:Inv n M S s)(hn:n<=1000000)(Q:M<=1100000000000){x y:Ty}{i j:Nat}(h:x.id=i)(g:y.id=j)(hi:i<n)(hj:j<n)(fi:¬nc s.sl (i:Int))(H:¬nc s.sl (j:Int))(E:(i:Int)∈S)(C:(j:Int)∈S):
   ∃s',(aC AP).p 397 [s.pv,x.pv,y.pv]=some [s'.pv]∧Inv n M S s'∧(s'=s∨ub s'.sl<ub s.sl)∧Ext s.sl s'.sl:=by
 by_cases D:i=j
 ·refine⟨s,?_,I,.inl rfl,.refl _⟩;have h2:x.id=y.id:=by rw[h,g,D]
  rw[az g397];simp[g397,h2]
 ·have m:¬(i:Int)=j:=(by omega);obtain⟨a,v⟩:=aP (l:=s.sl) (i:=min i j) (by rw[I.len];omega);obtain⟨b,z⟩:=aP (l:=s.sl) (i:=max i j) (by rw[I.len];omega);have u:min i j≠max i j:=by omega
  have L:¬nc s.sl ((min i j:Nat):Int):=by
   by_cases q:i<=j
   ·rw[zcV q];exact fi
   ·rw[Nat.min_eq_right (by omega)];exact H
  have K:¬nc s.sl ((max i j:Nat):Int):=by
   by_cases q:i<=j
   ·rw[Nat.max_eq_right q];exact H
   ·rw[Nat.max_eq_left (by omega)];exact fi
  have G:((min i j:Nat):Int)∈S:=by
   by_cases q:i<=j
   ·rw[zcV q];exact E
   ·rw[Nat.min_eq_right (by omega)];exact C
  have d:(if j<i then(j:Int)else(i:Int))=((min i j:Nat):Int):=by split<;>omega
  have e:(if i<j then(j:Int)else(i:Int))=((max i j:Nat):Int):=by split<;>omega
  have r:min i j<s.sl.length:=(by rw[I.len];omega);have t:max i j<s.sl.length:=(by rw[I.len];omega);generalize min i j=p at*;generalize max i j=q at*;have B:=c63 (n:=p);let f:Sl:=⟨a.bd,a.ty,if b.home<a.home then b.home else a.home,a.base || b.base⟩;let w:Sl:=⟨true,aQ p,b.home,b.base⟩;have N:f.ty.Ok:=I.ok a (aN v);have k:=c393 I.NZ (by omega) (by omega) v f;have F:(gi s p a f).sl[q]?=some b:=(by rw[bI,zaA,zad u,z]);have A:=c393 (I.YU (i:=p) (o:=a) N) (by omega) (by omega) F w;obtain⟨J,hu,hx⟩:=NY I (l':=f) (h':=w) v z u L K rfl rfl rfl rfl G;refine⟨gi (gi s p a f) q b w,?_,J,.inr hu,hx⟩;generalize gi (gi s p a f) q b w=O at*;generalize gi s p a f=P at*;simp[f,w,aQ]at B k A;rw[az g397];cases c:a.base
  ·simp[c]at k;simp(disch:=omega)[-getElem?_pos,g397,h,g,m,d,e,v,z,r,t,B,k,A,c]
  ·simp[c]at k;simp(disch:=omega)[-getElem?_pos,g397,h,g,m,d,e,v,z,r,t,B,k,A,c]
def zS:List AV:=[.own [] 0,.own [] 1]
def qR(v:Sl):List AV:=[.pv (.bool v.bd),.pv (vI v.ty.kind),.pv (.str v.ty.name),.pv (vI v.ty.id),.pv (vI v.ty.home),.pv (.aq (v.ty.args.map Ty.pv)),.pv (vI v.home),.pv (.bool v.base)]
def N2(s:c_)(q:aG):Option (aR×St):=some (.ret,⟨[(6,.au 6 0),(7,.pv (vI 13))],[(6,sC s)],[],q⟩)
theorem RZ{s:c_}{i:Nat}{t:Ty}{v:Sl}{out:List Int}{r:List Ty}(hr:Sm r):∀(n k:Nat),r.length-k=n->k<=r.length->
   (∃q,cl AP g398L0 ⟨[(1,.pv (vI i)),(3,.au 3 0),(5,.au 5 0),(6,.au 6 0),(8,.au 8 0),(9,.pv (.aq (out.map vI))),(15,.pv (.aq (r.map Ty.pv))),(16,.pv (vI k))],[(3,sC s),(5,tC t),(6,zS),(8,qR v)],[],[0,0]⟩=N2 s q)∨
   cl AP g398L0 ⟨[(1,.pv (vI i)),(3,.au 3 0),(5,.au 5 0),(6,.au 6 0),(8,.au 8 0),(9,.pv (.aq (out.map vI))),(15,.pv (.aq (r.map Ty.pv))),(16,.pv (vI k))],[(3,sC s),(5,tC t),(6,zS),(8,qR v)],[],[0,0]⟩=
     some (.exit 0,⟨[(1,.pv (vI i)),(3,.au 3 0),(5,.au 5 0),(6,.au 6 0),(8,.au 8 0),(9,.pv (.aq (out.map vI))),(15,.pv (.aq (r.map Ty.pv))),(16,.pv (vI r.length)),(57,.pv (.bool false))],[(3,sC s),(5,tC t),(6,zS),(8,qR v)],[],[0,0]⟩)
 |0,k,hn,a=>by
  have:k=r.length:=by omega
  subst this;refine .inr ?_;rw[g398L0e];simp[g398B0,sC,tC,zS,qR]
 |n+1,k,hn,a=>by
  have a:k<r.length:=(by omega);obtain⟨x,hx⟩:=aP a;unfold Sm at hr;by_cases b:v.home<x.home
  ·refine .inl ?_;rw[g398L0e];simp(disch:=omega)[-getElem?_pos,g398B0,sC,tC,zS,qR,N2,hx,a,b]
  ·have c:=RZ (s:=s) (i:=i) (t:=t) (v:=v) (out:=out) hr n (k+1) (by omega) (by omega)
   have e1:cl AP g398L0 ⟨[(1,.pv (vI i)),(3,.au 3 0),(5,.au 5 0),(6,.au 6 0),(8,.au 8 0),(9,.pv (.aq (out.map vI))),(15,.pv (.aq (r.map Ty.pv))),(16,.pv (vI k))],[(3,sC s),(5,tC t),(6,zS),(8,qR v)],[],[0,0]⟩=cl AP g398L0 ⟨[(1,.pv (vI i)),(3,.au 3 0),(5,.au 5 0),(6,.au 6 0),(8,.au 8 0),(9,.pv (.aq (out.map vI))),(15,.pv (.aq (r.map Ty.pv))),(16,.pv (vI (k+1:Nat)))],[(3,sC s),(5,tC t),(6,zS),(8,qR v)],[],[0,0]⟩:=by
    conv=>lhs;rw[g398L0e]
    simp (disch:=omega) [-getElem?_pos,g398B0,sC,tC,zS,qR,hx,a,b,ah]
   rw[e1];exact c
theorem R4{s:c_}{i:Nat}{t:Ty}{v:Sl}{out:List Int}(hr:Sm out):∀(n k:Nat),out.length-k=n->k<=out.length->
   (∃q,cl AP g398L1 ⟨[(1,.pv (vI i)),(3,.au 3 0),(5,.au 5 0),(6,.au 6 0),(8,.au 8 0),(9,.pv (.aq (out.map vI))),(17,.pv (vI k))],[(3,sC s),(5,tC t),(6,zS),(8,qR v)],[],[0,0]⟩=N2 s q)∨
   cl AP g398L1 ⟨[(1,.pv (vI i)),(3,.au 3 0),(5,.au 5 0),(6,.au 6 0),(8,.au 8 0),(9,.pv (.aq (out.map vI))),(17,.pv (vI k))],[(3,sC s),(5,tC t),(6,zS),(8,qR v)],[],[0,0]⟩=
     some (.exit 2,⟨[(1,.pv (vI i)),(3,.au 3 0),(5,.au 5 0),(6,.au 6 0),(8,.au 8 0),(9,.pv (.aq (out.map vI))),(17,.pv (vI out.length)),(72,.pv (.bool false))],[(3,sC s),(5,tC t),(6,zS),(8,qR v)],[],[0,0]⟩)
 |0,k,hn,a=>by
  have:k=out.length:=by omega
  subst this;refine .inr ?_;rw[g398L1e];simp[g398B1,sC,tC,zS,qR]
 |n+1,k,hn,a=>by
  have a:k<out.length:=(by omega);obtain⟨x,hx⟩:=aP a;unfold Sm at hr;by_cases b:(s.sl.length:Int)<=x∧v.home<0
  ·obtain⟨g1,g2⟩:=b;refine .inl ?_;rw[g398L1e];simp(disch:=omega)[-getElem?_pos,g398B1,sC,tC,zS,qR,N2,hx,a,g1,g2]
  ·have c:=R4 (s:=s) (i:=i) (t:=t) (v:=v) (out:=out) hr n (k+1) (by omega) (by omega)
   have e1:cl AP g398L1 ⟨[(1,.pv (vI i)),(3,.au 3 0),(5,.au 5 0),(6,.au 6 0),(8,.au 8 0),(9,.pv (.aq (out.map vI))),(17,.pv (vI k))],[(3,sC s),(5,tC t),(6,zS),(8,qR v)],[],[0,0]⟩=cl AP g398L1 ⟨[(1,.pv (vI i)),(3,.au 3 0),(5,.au 5 0),(6,.au 6 0),(8,.au 8 0),(9,.pv (.aq (out.map vI))),(17,.pv (vI (k+1:Nat)))],[(3,sC s),(5,tC t),(6,zS),(8,qR v)],[],[0,0]⟩:=by
    conv=>lhs;rw[g398L1e]
    by_cases g1:(s.sl.length:Int)<=x
    ·have g2:¬v.home<0:=fun h=>b ⟨g1,h⟩;simp(disch:=omega)[-getElem?_pos,g398B1,sC,tC,zS,qR,hx,a,g1,g2,ah]
    ·simp(disch:=omega)[-getElem?_pos,g398B1,sC,tC,zS,qR,hx,a,g1,ah]
   rw[e1];exact c
structure Kp(s s':c_)(c:Nat):Prop where
 len:s'.sl.length=s.sl.length
 tr:s'.tr.length<=s.tr.length+c
 La:∀(k:Nat) o',s'.sl[k]?=some o'->∃o,s.sl[k]?=some o∧o'.bd=o.bd∧o'.ty=o.ty
 ub:ub s'.sl=ub s.sl
theorem Kp.F4{s s':c_}{c:Nat}(h:Kp s s' c){i v:Int}(e:Edge s'.sl i v):Edge s.sl i v:=by
 obtain⟨k,x,rfl,hx,d,a⟩:=e;obtain⟨o,b,h1,h2⟩:=h.La k x hx;exact⟨k,o,rfl,b,by rw[<-h1];exact d,by rw[<-h2];exact a⟩
theorem Kp.set{s s':c_}{c:Nat}(h:Kp s s' c){k:Nat}{o x:Sl}(a:s'.sl[k]?=some o)(b:x.bd=o.bd)(d:x.ty=o.ty):Kp s (gi s' k o x) (c+1) where
 len:=by rw[bI,zbG,h.len]
 tr:=by rw[nP];have:=h.tr;omega
 La:=by
  intro j o' hj;rw[bI,zaA]at hj;by_cases e:k=j
  ·subst e;have hl:k<s'.sl.length:=by obtain⟨h,_⟩:=zaa.1 a;exact h
   rw[zak rfl,zak hl]at hj;cases hj;obtain⟨p,h1,h2,h3⟩:=h.La k o a;exact⟨p,h1,by rw[b,h2],by rw[d,h3]⟩
  ·rw[zad e]at hj;exact h.La j o' hj
 ub:=by rw[bI,th a b,h.ub]
theorem Kp.ext{s s':c_}{c:Nat}(h:Kp s s' c):Ext s.sl s'.sl:=⟨by rw[h.len];omega,fun k x hx a=>by
 have hl:k<s'.sl.length:=by rw[h.len];exact(zaa.1 hx).1
 obtain⟨y,hy⟩:=aP hl;obtain⟨o,h1,h2,h3⟩:=h.La k y hy;rw[hx]at h1;cases h1;exact⟨y,hy,by rw[h2,a],h3⟩⟩
theorem Kp.refl{s:c_}:Kp s s 0:=⟨rfl,by omega,fun k o h=>⟨o,h,rfl,rfl⟩,rfl⟩
theorem Kp.bX{s s':c_}{c d:Nat}(h:Kp s s' c)(hd:c<=d):Kp s s' d:=⟨h.len,by have:=h.tr;omega,h.La,h.ub⟩
def pc(n:Nat)(l:List Int):Nat:=(l.filter fun w:Int=>decide (w<(n:Int))).length
theorem G9{n:Nat}{l:List Int}(hd:l.Nodup)(h0:∀w∈l,0<=w):pc n l<=n:=by
 have h1:(l.filter fun w=>decide (w<(n:Int))).Nodup:=hd.filter _
 have h2:∀x∈(l.filter fun w=>decide (w<(n:Int))),x∈(List.range n).map (fun k:Nat=>(k:Int)):=by
  intro x hx;simp at hx;simp;exact⟨x.toNat,by have:=h0 x hx.1;omega,by have:=h0 x hx.1;omega⟩
 have:=gv h1 h2;simpa[pc]using this
theorem Kp.NZ{n M:Nat}{S:Sg}{s s':c_}{c:Nat}(I:Inv n M S s)(h:Kp s s' c)(d:c<=n):s'.Ok n (M+n+10):=⟨by rw[h.len,I.len];omega,by have:=h.tr;have:=I.Pc;have:0<=(n+2)*Lw.ub s.sl:=zci _;omega,by
 intro x hx;obtain⟨k,b⟩:=zbJ.1 hx;obtain⟨o,a,_,e⟩:=h.La k x b;rw[e];exact I.ok o (aN a)⟩
theorem G_{N M:Nat}{S:Sg}{s:c_}(I:Inv N M S s)(hN:N<=1000000)(p:M<=1100000000000){i:Nat}{t:Ty}{v:Sl}{out:List Int}(hr:Sm out)(hd:out.Nodup)(h0:∀w∈out,0<=w):∀(n k:Nat),out.length-k=n->k<=out.length->∀s':c_,Kp s s' (pc N (out.take k))->∃d,Kp s d (pc N out)∧
   cl AP g398L2 ⟨[(1,.pv (vI i)),(3,.au 3 0),(5,.au 5 0),(6,.au 6 0),(8,.au 8 0),(9,.pv (.aq (out.map vI))),(18,.pv (vI k))],[(3,sC s'),(5,tC t),(6,zS),(8,qR v)],[],[0,0]⟩=
     some (.exit 4,⟨[(1,.pv (vI i)),(3,.au 3 0),(5,.au 5 0),(6,.au 6 0),(8,.au 8 0),(9,.pv (.aq (out.map vI))),(18,.pv (vI out.length)),(92,.pv (.bool false))],[(3,sC d),(5,tC t),(6,zS),(8,qR v)],[],[0,0]⟩)
 |0,k,hn,f,s',hK=>by
  have:k=out.length:=by omega
  subst this;refine⟨s',by simpa using hK,?_⟩;rw[g398L2e];simp[g398B2,sC,tC,zS,qR]
 |n+1,k,hn,f,s',hK=>by
  have f:k<out.length:=(by omega);obtain⟨x,hx⟩:=aP f;have u:=h0 x (aN hx);have hl:=hK.len;rw[I.len]at hl;have g:out.take (k+1)=out.take k++[x]:=(by rw[zaI,hx];rfl);have h:pc N (out.take k)<=N:=G9 (hd.sublist (List.take_sublist _ _)) (fun w hw=>h0 w (za7 hw));have hs:=hr;unfold Sm at hr;by_cases r:x<(N:Int)
  ·obtain⟨j,rfl⟩:∃j:Nat,x=j:=⟨x.toNat,by omega⟩;have hj:j<s'.sl.length:=by omega
   obtain⟨o,l⟩:=aP hj
   have b:pc N (out.take (k+1))=pc N (out.take k)+1:=by
    rw[g];simp[pc,r]
   by_cases q:v.home<o.home
   ·have c:=c393 (hK.NZ I h) hN (by omega) l ⟨o.bd,o.ty,v.home,o.base⟩;have a:=hK.set (x:=⟨o.bd,o.ty,v.home,o.base⟩) l rfl rfl;rw[<-b]at a;obtain⟨d,h2,e⟩:=G_ (i:=i) (t:=t) (v:=v) I hN p hs hd h0 n (k+1) (by omega) (by omega) _ a;refine⟨d,h2,?_⟩;generalize gi s' j o ⟨o.bd,o.ty,v.home,o.base⟩=y at*;rw[g398L2e]at e⊢;simp[sC,tC,zS,qR]at e;simp at c;simp(disch:=omega)[-getElem?_pos,g398B2,sC,tC,zS,qR,hx,f,hj,l,q,c,ah];rw[g398L2e];simp[e]
   ·have a:Kp s s' (pc N (out.take (k+1))):=hK.bX (by omega);obtain⟨d,h2,e⟩:=G_ (i:=i) (t:=t) (v:=v) I hN p hs hd h0 n (k+1) (by omega) (by omega) s' a;refine⟨d,h2,?_⟩;rw[g398L2e]at e⊢;simp[sC,tC,zS,qR]at e;simp(disch:=omega)[-getElem?_pos,g398B2,sC,tC,zS,qR,hx,f,hj,l,q,ah];rw[g398L2e];simp[e]
  ·have b:pc N (out.take (k+1))=pc N (out.take k):=by
    rw[g];simp[pc,r]
   have a:Kp s s' (pc N (out.take (k+1))):=(by rw[b];exact hK);obtain⟨d,h2,e⟩:=G_ (i:=i) (t:=t) (v:=v) I hN p hs hd h0 n (k+1) (by omega) (by omega) s' a;refine⟨d,h2,?_⟩;have m:¬x<(s'.sl.length:Int):=(by omega);rw[g398L2e]at e⊢;simp[sC,tC,zS,qR]at e;simp(disch:=omega)[-getElem?_pos,g398B2,sC,tC,zS,qR,hx,f,m,ah];rw[g398L2e];simp[e]
def UR(n M:Nat)(S:Sg)(s s':c_)(e:Int):Prop:=e=0->Inv n M S s'∧(s'=s∨ub s'.sl<ub s.sl)∧Ext s.sl s'.sl
theorem Cd{n M:Nat}{S:Sg}{s f:c_}(I:Inv n M S s){i:Nat}{v:Sl}{t:Ty}(A:s.sl[i]?=some v)(fi:¬nc s.sl (i:Int)){c:Nat}(hK:Kp s f c)(F:c<=n){o:Sl}(u:f.sl[i]?=some o)(D:t.Ok)(q:t.Kw)(r:S.p.v t)(hw:∀w,fE t w->w∈S)(z:¬RT s.sl t i){x:Sl}(E:x.bd=true)(hx:x.ty=t):
   Inv n M S (gi f i o x)∧ub (gi f i o x).sl<ub s.sl∧Ext s.sl (gi f i o x).sl:=by
 have j:o.bd=false:=by
  obtain⟨o2,h1,h2,_⟩:=hK.La i o u;rw[A]at h1;cases h1;rw[h2];exact pZ A fi
 have B:=y_ u j E;have hu:=hK.ub;have hp:=I.Pc;have hl:=I.len;refine⟨⟨by rw[bI,zbG,hK.len,I.len],?_,?_,?_,?_,?_,?_⟩,?_,hK.ext.trans (Ext.set u (.inl j))⟩
 ·rw[nP,bI];have:(n+2)*ub s.sl=(n+2)*ub (f.sl.set i x)+(n+2):=by rw[<-hu,<-B,zbX,Nat.mul_one]
  have:=hK.tr;omega
 ·intro y hy;rw[bI]at hy;rcases mem_set hy with rfl|hy
  ·rw[hx];exact D
  ·obtain⟨k,g⟩:=zbJ.1 hy;obtain⟨p,h1,_,h3⟩:=hK.La k y g;rw[h3];exact I.ok p (aN h1)
 ·intro y hy w d;rw[bI]at hy;rcases mem_set hy with rfl|hy
  ·rw[hx]at d;exact hw w d
  ·obtain⟨k,g⟩:=zbJ.1 hy;obtain⟨p,h1,_,h3⟩:=hK.La k y g;rw[h3]at d;exact I.ig p (aN h1) w d
 ·rw[bI];refine B7 (I.xj.of fun a b=>hK.F4) ?_;intro w l hr;rw[hx]at l;refine z ⟨w,l,?_⟩
  have key:∀{a b:Int},F3 f.sl a b->F3 s.sl a b:=by
   intro a b h;induction h with
   |refl=>exact .refl _
   |step e _ C=>exact .step (hK.F4 e) C
  exact key hr
 ·intro y hy;rw[bI]at hy;rcases mem_set hy with rfl|hy
  ·rw[hx];exact q
  ·obtain⟨k,g⟩:=zbJ.1 hy;obtain⟨p,h1,_,h3⟩:=hK.La k y g;rw[h3];exact I.wf p (aN h1)
 ·intro y hy m;rw[bI]at hy;rcases mem_set hy with rfl|hy
  ·rw[hx];exact r
  ·obtain⟨k,g⟩:=zbJ.1 hy;obtain⟨p,h1,h2,h3⟩:=hK.La k y g;rw[h3];exact I.vn p (aN h1) (by rw[<-h2];exact m)
 ·rw[bI];omega
theorem c398{n M:Nat}{S:Sg}{s:c_}(I:Inv n M S s)(hn:n<=1000000)(hM:M<=1100000000000)(hf:S.ids.length<1099511627776)(V:∀w∈S,0<=w){i:Nat}(hi:i<n)(fi:¬nc s.sl (i:Int)){t:Ty}(K:t.Ok)(O:t.Kw)(P:S.p.v t)(hw:∀w,fE t w->w∈S):
   ∃s' e,(aC AP).p 398 [s.pv,vI i,t.pv]=some [s'.pv,vI e]∧UR n M S s s' e:=by
 have hl:=I.len;have c:i<s.sl.length:=by omega
 obtain⟨v,j⟩:=aP c;obtain⟨out,g,L,F⟩:=c372 (S:=S.ids) (by omega) I.xj I.ok I.ig hf (l:=[t]) (by simp[Sm]) (by simpa using K) (by intro y hy;simp at hy;subst hy;exact hw);have D:=L.len;have f:=c95 D (y:=(i:Int));obtain⟨a,b,ar,k,_⟩:=c194g K;have R:Sm s.sl:=by unfold Sm;omega
 obtain⟨u,bb,z,hu,Q⟩:=c358 R I.ok K;obtain⟨r,m,hr⟩:=c59t hu Q;have A:=RZ (s:=s) (i:=i) (t:=t) (v:=v) (out:=out) hr _ 0 rfl (by omega);have B:=R4 (s:=s) (i:=i) (t:=t) (v:=v) (out:=out) D _ 0 rfl (by omega);have h0:∀w∈out,0<=w:=fun w hw=>V w (L.sub w hw)
 obtain⟨W,hK,C⟩:=G_ (i:=i) (t:=t) (v:=v) I hn hM D L.nodup h0 _ 0 rfl (by omega) s (by simpa[pc]using Kp.refl);have E:pc n out<=n:=G9 L.nodup h0;have U:i<W.sl.length:=by rw[hK.len];exact c
 obtain⟨o,X⟩:=aP U;let x:Sl:=⟨true,t,v.home,v.base⟩;have H:=c393 (hK.NZ I E) hn (by omega) X x;by_cases N:(i:Int)∈out
 ·rw[zaG N]at f;refine⟨s,12,?_,by intro h;cases h⟩;rw[az g398];simp at g;simp(disch:=omega)[-getElem?_pos,g398,c,j,g,f]
 ·rw[zaC N]at f;have T:¬RT s.sl t i:=fun h=>N ((F i).2 ⟨t,by simp,h,fi⟩)
  have J:=Cd I (x:=x) j fi hK E X K O P hw T rfl rfl;generalize gi W i o x=Y at*;simp[x]at H;simp at g k z m;rw[g398L0e]at A;rw[g398L1e]at B;rw[g398L2e]at C;simp[sC,tC,zS,qR,N2]at A B C;by_cases G:ar=true∧v.base=true
  ·obtain⟨Z,d⟩:=G;refine⟨s,14,?_,by intro h;cases h⟩;rw[az g398];simp(disch:=omega)[-getElem?_pos,g398,c,j,g,f,k,Z,d]
  ·rcases A with⟨q,A⟩|A
   ·refine⟨s,13,?_,by intro h;cases h⟩;rw[az g398];cases ar with
    |true=>
     have d:v.base=false:=by cases e:v.base with|false=>rfl|true=>exact absurd ⟨rfl,e⟩ G
     simp[d]at A;simp(disch:=omega)[-getElem?_pos,g398,c,j,g,f,k,z,m,d,g398L0e,A]
    |false=>simp(disch:=omega)[-getElem?_pos,g398,c,j,g,f,k,z,m,g398L0e,A]
   ·rcases B with⟨q,B⟩|B
    ·refine⟨s,13,?_,by intro h;cases h⟩;rw[az g398];cases ar with
     |true=>
      have d:v.base=false:=by cases e:v.base with|false=>rfl|true=>exact absurd ⟨rfl,e⟩ G
      simp[d]at A B;simp(disch:=omega)[-getElem?_pos,g398,c,j,g,f,k,z,m,d,g398L0e,A,g398L1e,B]
     |false=>simp(disch:=omega)[-getElem?_pos,g398,c,j,g,f,k,z,m,g398L0e,A,g398L1e,B]
    ·refine⟨Y,0,?_,fun _=>⟨J.1,.inr J.2.1,J.2.2⟩⟩;rw[az g398];cases ar with
     |true=>
      have d:v.base=false:=by cases e:v.base with|false=>rfl|true=>exact absurd ⟨rfl,e⟩ G
      simp[d]at A B C H;simp(disch:=omega)[-getElem?_pos,g398,c,j,g,f,k,z,m,d,g398L0e,A,g398L1e,B,g398L2e,C,H]
     |false=>simp(disch:=omega)[-getElem?_pos,g398,c,j,g,f,k,z,m,g398L0e,A,g398L1e,B,g398L2e,C,H]
theorem Ce{s:List Sl}{d:Int->Nat}(hr:∀i v,Edge s i v->d v<d i):∀(m:Nat)(t:Ty),d7 s (wk s m t)≠none->∃(i:Nat)(l:List Nat),t.kind=1∧t.id=i∧l.length=m∧(i::l).Pairwise (fun a b:Nat=>d (b:Int)<d (a:Int))∧∀a∈i::l,a<s.length
 |0,t,h=>by
  cases c:d7 s t with
  |none=>exact absurd c h
  |some x=>
   obtain⟨k,i,hi,hx,_⟩:=dL c;have hl:i<s.length:=by obtain⟨h,_⟩:=zaa.1 hx;exact h
   exact⟨i,[],k,hi,rfl,by simp,by simpa using hl⟩
 |m+1,t,h=>by
  cases c:d7 s t with
  |none=>
   have:wk s (m+1) t=t:=by simp[wk,c]
   rw[this]at h;exact absurd c h
  |some x=>
   obtain⟨k,i,hi,hx,g⟩:=dL c;have hl:i<s.length:=by obtain⟨h,_⟩:=zaa.1 hx;exact h
   have e:wk s (m+1) t=wk s m x.ty:=(by simp[wk,c]);rw[e]at h;obtain⟨j,l,n,hj,hn,hp,o⟩:=Ce hr m x.ty h;have p:Edge s (i:Int) (j:Int):=⟨i,x,rfl,hx,g,by rw[<-hj];exact .var n⟩;have f:=hr _ _ p;refine⟨i,j::l,k,hi,by simp[hn],?_,?_⟩
   ·rw[List.pairwise_cons];refine⟨?_,hp⟩;intro b c;simp only[zah]at c;rcases c with rfl|c
    ·exact f
    ·have:=(List.pairwise_cons.1 hp).1 b c;omega
   ·intro a hm;simp only[zah]at hm;rcases hm with rfl|hm
    ·exact hl
    ·exact o a (by simpa using hm)
theorem lD{s:List Sl}(h:CO s){t:Ty}:d7 s (eK s t)=none:=by
 obtain⟨f,hr⟩:=h;cases c:d7 s (eK s t)with
 |none=>rfl
 |some x=>
  exfalso;obtain⟨i,l,_,_,hl,hp,d⟩:=Ce hr (s.length+1) t (by unfold eK at c;rw[c];simp);have hd:(i::l).Nodup:=hp.imp (fun{a b} h e=>by rw[e]at h;omega);have:=gv hd (S:=List.range s.length) (fun a h=>by simpa using d a h);simp at this;omega
theorem ml{s:List Sl}{S:List Int}(hs:∀x∈s,∀w,fE x.ty w->w∈S):∀{m:Nat}{t:Ty},(∀w,fE t w->w∈S)->∀w,fE (wk s m t) w->w∈S
 |0,t,h=>h
 |m+1,t,h=>by
  unfold wk;split
  ·rename_i x hx;obtain⟨_,i,_,hi,_⟩:=dL hx;exact ml hs (hs x (aN hi))
  ·exact h
theorem Xb{n M:Nat}{S:Sg}{s:c_}{x y:Ty}(hx:x.Ok)(k:x.args.length=y.args.length)
   (H:∀s',Inv n M S s'->(s'=s∨ub s'.sl<ub s.sl)->∀(i:Nat) a b,x.args[i]?=some a->y.args[i]?=some b->∃d e,(aC AP).p 391 [s'.pv,a.pv,b.pv]=some [d.pv,vI e]∧UR n M S s' d e):
   ∀(m i:Nat),x.args.length-i=m->i<=x.args.length->∀(s':c_)(e:Int),UR n M S s s' e->∃(d:c_)(e2:Int)(j:Nat),
   cl AP g391L0 ⟨[(3,.au 3 0),(6,.au 6 0),(8,.au 8 0),(9,.au 9 0),(10,.pv (vI e)),(11,.pv (vI i))],[(3,sC s'),(6,zS),(8,tC x),(9,tC y)],[],[0,0]⟩=
     some (.exit 1,⟨[(3,.au 3 0),(6,.au 6 0),(8,.au 8 0),(9,.au 9 0),(10,.pv (vI e2)),(11,.pv (vI j)),(109,.pv (.bool false))],[(3,sC d),(6,zS),(8,tC x),(9,tC y)],[],[0,0]⟩)∧UR n M S s d e2
 |0,i,hm,hi,s',e,h=>by
  have:i=x.args.length:=by omega
  subst this;refine⟨s',e,x.args.length,?_,h⟩;rw[g391L0e];simp[g391B0,sC,tC,zS]
 |m+1,i,hm,hi,s',e,h=>by
  have hi:i<x.args.length:=(by omega);obtain⟨a,v⟩:=aP hi;have f:i<y.args.length:=(by omega);obtain⟨b,u⟩:=aP f;have o:=hx.sm;unfold Sm at o;by_cases r:e=0
  ·obtain⟨I,hu,l⟩:=h r;obtain⟨t,e1,c,h1⟩:=H s' I hu i a b v u
   have h2:UR n M S s t e1:=fun q=>by
    obtain⟨J,g,w⟩:=h1 q;refine⟨J,?_,l.trans w⟩;rcases g with rfl|g
    ·exact hu
    ·rcases hu with rfl|hu
     ·exact .inr g
     ·exact .inr (by omega)
   obtain⟨d,e2,j,eq,h3⟩:=Xb hx k H m (i+1) (by omega) (by omega) t e1 h2;refine⟨d,e2,j,?_,h3⟩;rw[g391L0e]at eq⊢;simp[sC,tC,zS]at eq;simp at c;simp(disch:=omega)[-getElem?_pos,g391B0,sC,tC,zS,hi,f,v,u,r,c,ah];rw[g391L0e];simp[eq]
  ·refine⟨s',e,i,?_,h⟩;rw[g391L0e];simp(disch:=omega)[-getElem?_pos,g391B0,sC,tC,zS,hi,r]
theorem pd{s:List Sl}{t:Ty}(h:oz s t=true):t.kind=1∧∃i:Nat,t.id=i∧i<s.length:=by
 simp[oz]at h;exact⟨h.1,t.id.toNat,by omega,by omega⟩
theorem oA{s:List Sl}(hs:∀x∈s,x.ty.Kw):∀{m:Nat}{t:Ty},t.Kw->(wk s m t).Kw
 |0,t,h=>h
 |m+1,t,h=>by
  unfold wk;split
  ·rename_i x hx;obtain⟨_,i,_,hi,_⟩:=dL hx;exact oA hs (hs x (aN hi))
  ·exact h
theorem p7{p:Vp}{s:List Sl}(hs:∀x∈s,x.bd=true->p.v x.ty):∀{m:Nat}{t:Ty},p.v t->p.v (wk s m t)
 |0,t,h=>h
 |m+1,t,h=>by
  unfold wk;split
  ·rename_i x hx;obtain⟨_,i,_,hi,a⟩:=dL hx;exact p7 hs (hs x (aN hi) a)
  ·exact h
theorem Xc{n M:Nat}{S:Sg}{s:c_}(I:Inv n M S s)(hn:n<=1000000)(Q:M<=1100000000000)(hf:S.ids.length<1099511627776)(K:∀w∈S,0<=w){a b:Ty}(ha:a.Ok)(Z:b.Ok)(wa:a.Kw)(wb:b.Kw)(va:S.p.v a)(vb:S.p.v b)(oa:∀w,fE a w->w∈S)(ob:∀w,fE b w->w∈S){r1:Nat}(r:(aC AP).p 355 [s.pv,a.pv,vI (200:Nat)]=some [vI r1])
   (H:r1<=200->∀s',Inv n M S s'->(s'=s∨ub s'.sl<ub s.sl)->∀(i:Nat) x y,(eK s.sl a).args[i]?=some x->(eK s.sl b).args[i]?=some y->∃N e,(aC AP).p 391 [s'.pv,x.pv,y.pv]=some [N.pv,vI e]∧UR n M S s' N e):
   ∃s' e,(aC AP).p 391 [s.pv,a.pv,b.pv]=some [s'.pv,vI e]∧UR n M S s s' e:=by
 have hl:=I.len;have E:Sm s.sl:=by unfold Sm;omega
 obtain⟨r2,u,_,_,_⟩:=c355 E I.ok (m:=200) (by omega) Z;have o:=c386 E (t:=a);have l:=c386 E (t:=b);have xf:=lD I.xj (t:=a);have V:=lD I.xj (t:=b);have Y:(eK s.sl a).Ok:=m_ I.ok ha;have yO:(eK s.sl b).Ok:=m_ I.ok Z;have W:∀w,fE (eK s.sl a) w->w∈S:=ml (S:=S.ids) I.ig oa;have T:∀w,fE (eK s.sl b) w->w∈S:=ml (S:=S.ids) I.ig ob
 change (aC AP).p 386 [s.pv,a.pv]=some [(eK s.sl a).pv]at o
 change (aC AP).p 386 [s.pv,b.pv]=some [(eK s.sl b).pv]at l
 have xw:(eK s.sl a).Kw:=oA I.wf wa;have yw:(eK s.sl b).Kw:=oA I.wf wb;have xv:S.p.v (eK s.sl a):=p7 I.vn va;have yv:S.p.v (eK s.sl b):=p7 I.vn vb;generalize eK s.sl a=x at*;generalize eK s.sl b=y at*;have k:=c396 (s:=s) (t:=x);have g:=c396 (s:=s) (t:=y);simp at r u o l;by_cases h1:200<r1
 ·refine⟨s,15,?_,by intro h;cases h⟩;have d:(200:Int)<r1:=by omega
  rw[az g391];simp[g391,r,d]
 ·have d:¬(200:Int)<r1:=(by omega);have H:=H (by omega);by_cases h2:200<r2
  ·refine⟨s,15,?_,by intro h;cases h⟩;have f:(200:Int)<r2:=by omega
   rw[az g391];simp[g391,r,u,d,f]
  ·have f:¬(200:Int)<r2:=(by omega);cases P:oz s.sl x with
   |true=>
    obtain⟨X,i,G,hi⟩:=pd P;have fi:¬nc s.sl (i:Int):=by rw[<-G];exact gY X xf
    rw[P]at k;cases C:oz s.sl y with
    |true=>
     obtain⟨L,j,B,hj⟩:=pd C;have R:¬nc s.sl (j:Int):=by rw[<-B];exact gY L V
     rw[C]at g;obtain⟨s',c,J⟩:=c397 I hn Q G B (by omega) (by omega) fi R (by rw[<-G];exact W _ (.var X)) (by rw[<-B];exact T _ (.var L));refine⟨s',0,?_,fun _=>J⟩;simp at k g c;rw[az g391];simp[g391,r,u,o,l,k,g,d,f,c]
    |false=>
     rw[C]at g;obtain⟨s',e,c,J⟩:=c398 I hn Q hf K (by omega) fi yO yw yv T;refine⟨s',e,?_,J⟩;simp[G]at o k g c;rw[az g391];simp[g391,r,u,o,l,k,g,d,f,G,c]
   |false=>
    rw[P]at k;cases C:oz s.sl y with
    |true=>
     obtain⟨L,j,B,hj⟩:=pd C;have R:¬nc s.sl (j:Int):=by rw[<-B];exact gY L V
     rw[C]at g;obtain⟨s',e,c,J⟩:=c398 I hn Q hf K (by omega) R Y xw xv W;refine⟨s',e,?_,J⟩;simp[B]at l k g c;rw[az g391];simp[g391,r,u,o,l,k,g,d,f,B,c]
    |false=>
     rw[C]at g;simp at k g;by_cases q:x.kind=y.kind∧x.name=y.name∧x.id=y.id∧x.home=y.home∧x.args.length=y.args.length
     ·obtain⟨z,A,D,F,O⟩:=q;obtain⟨N,e2,i2,eq,U⟩:=Xb Y O H _ 0 rfl (by omega) s 0 (fun _=>⟨I,.inl rfl,.refl _⟩);refine⟨N,e2,?_,U⟩;rw[g391L0e]at eq;simp[sC,tC,zS]at eq;rw[az g391];simp[g391,r,u,o,l,k,g,d,f];simp only[z,A,D,F,O]at*;simp[g391L0e,eq]
     ·refine⟨s,11,?_,by intro h;cases h⟩;rw[az g391];by_cases z:x.kind=y.kind
      ·have p1:=eq_true z;by_cases A:x.name=y.name
       ·have p2:=eq_true A;by_cases D:x.id=y.id
        ·have p3:=eq_true D;by_cases F:x.home=y.home
         ·have p4:=eq_true F;have O:¬x.args.length=y.args.length:=fun e=>q ⟨z,A,D,F,e⟩
          have q6:¬(x.args.length:Int)=y.args.length:=(by omega);clear q z A D F;simp[g391,r,u,o,l,k,g,d,f,p1,p2,p3,p4,O,q6]
         ·clear q z A D;simp[g391,r,u,o,l,k,g,d,f,p1,p2,p3,F]
        ·clear q z A;simp[g391,r,u,o,l,k,g,d,f,p1,p2,D]
       ·clear q z;simp[g391,r,u,o,l,k,g,d,f,p1,A]
      ·simp[g391,r,u,o,l,k,g,d,f,z]
theorem tj{S:Sg}{t:Ty}(hw:t.Kw)(h:∀w,fE t w->w∈S):∀z∈t.args,∀w,fE z w->w∈S:=by
 intro z a w b;by_cases k:t.kind=1
 ·rw[hw.var k]at a;cases a
 ·exact h w (.arg k a b)
def Uz(n M:Nat)(S:Sg)(s:c_):Prop:=∀a b:Ty,a.Ok->b.Ok->a.Kw->b.Kw->S.p.v a->S.p.v b->(∀w,fE a w->w∈S)->(∀w,fE b w->w∈S)->∃c e,(aC AP).p 391 [s.pv,a.pv,b.pv]=some [c.pv,vI e]∧UR n M S s c e
theorem c391r{n M:Nat}{S:Sg}{s:c_}(I:Inv n M S s)(hn:n<=1000000)(N:M<=1100000000000)(hf:S.ids.length<1099511627776)(k:∀w∈S,0<=w)
   (O:∀s':c_,ub s'.sl<ub s.sl->Inv n M S s'->Uz n M S s') (r:Nat):
   ∀a b:Ty,Tr s.sl a r->a.Ok->b.Ok->a.Kw->b.Kw->S.p.v a->S.p.v b->(∀w,fE a w->w∈S)->(∀w,fE b w->w∈S)->∃E e,(aC AP).p 391 [s.pv,a.pv,b.pv]=some [E.pv,vI e]∧UR n M S s E e:=by
 induction r using Nat.strongRecOn with
 |ind r K=>
  intro a b L j H B wb D C G F;have hl:=I.len;have g:Sm s.sl:=by unfold Sm;omega
  obtain⟨r1,J,_,_,_⟩:=c355 g I.ok (m:=200) (by omega) j;obtain⟨ns,hT,hr⟩:=L.inv;have A:(eK s.sl a).Ok:=m_ I.ok j;have t:(eK s.sl b).Ok:=m_ I.ok H;have f:(eK s.sl a).Kw:=oA I.wf B;have d:(eK s.sl b).Kw:=oA I.wf wb;have u:=S.p.cY _ (p7 (m:=s.sl.length+1) I.vn D:S.p.v (eK s.sl a));have o:=S.p.cY _ (p7 (m:=s.sl.length+1) I.vn C:S.p.v (eK s.sl b));have z:=tj f (ml (S:=S.ids) I.ig G:∀w,fE (eK s.sl a) w->w∈S);have q:=tj d (ml (S:=S.ids) I.ig F:∀w,fE (eK s.sl b) w->w∈S);refine Xc I hn N hf k j H B wb D C G F J ?_;intro _ s' P hu i x y hx hy;have hi:i<(eK s.sl a).args.length:=by obtain⟨h,_⟩:=zaa.1 hx;exact h
  have mx:=aN hx;have c:=aN hy;rcases hu with rfl|hu
  ·obtain⟨m,hm⟩:=aP (l:=ns) (i:=i) (by rw[hT.1];exact hi);have:=vi hm;exact K m (by omega) x y (hT.2 i x m hx hm) (A.cY x mx) (t.cY y c) (f.cY x mx) (d.cY y c) (u x mx) (o y c) (z x mx) (q y c)
  ·exact O s' hu P x y (A.cY x mx) (t.cY y c) (f.cY x mx) (d.cY y c) (u x mx) (o y c) (z x mx) (q y c)
theorem c391{n M:Nat}{S:Sg}(hn:n<=1000000)(K:M<=1100000000000)(hf:S.ids.length<1099511627776)(d:∀w∈S,0<=w)(u:Nat):∀s:c_,ub s.sl=u->Inv n M S s->Uz n M S s:=by
 induction u using Nat.strongRecOn with
 |ind u O=>
  intro s hu I a b q J D wb F E H G;have hl:=I.len;have o:Sm s.sl:=by unfold Sm;omega
  have f:∀s':c_,ub s'.sl<ub s.sl->Inv n M S s'->Uz n M S s':=fun s' h g=>O _ (by omega) s' rfl g;obtain⟨r1,L,_,_,N⟩:=c355 o I.ok (m:=200) (by omega) q;have C:(eK s.sl a).Ok:=m_ I.ok q
  have z:(eK s.sl b).Ok:=m_ I.ok J;have k:(eK s.sl a).Kw:=oA I.wf D;have j:(eK s.sl b).Kw:=oA I.wf wb;have A:=S.p.cY _ (p7 (m:=s.sl.length+1) I.vn F:S.p.v (eK s.sl a));have r:=S.p.cY _ (p7 (m:=s.sl.length+1) I.vn E:S.p.v (eK s.sl b));have B:=tj k (ml (S:=S.ids) I.ig H:∀w,fE (eK s.sl a) w->w∈S);have t:=tj j (ml (S:=S.ids) I.ig G:∀w,fE (eK s.sl b) w->w∈S);refine Xc I hn K hf d q J D wb F E H G L ?_;intro e s' g hu i x y hx hy;have hi:i<(eK s.sl a).args.length:=by obtain⟨h,_⟩:=zaa.1 hx;exact h
  have mx:=aN hx;have c:=aN hy;rcases hu with rfl|hu
  ·obtain⟨ns,hT,hr⟩:=(N e).inv;obtain⟨m,hm⟩:=aP (l:=ns) (i:=i) (by rw[hT.1];exact hi);exact c391r g hn K hf d f m x y (hT.2 i x m hx hm) (C.cY x mx) (z.cY y c) (k.cY x mx) (j.cY y c) (A x mx) (r y c) (B x mx) (t y c)
  ·exact f s' hu g x y (C.cY x mx) (z.cY y c) (k.cY x mx) (j.cY y c) (A x mx) (r y c) (B x mx) (t y c)
structure Fit(S:Sg)(t:Ty):Prop where
 ok:t.Ok
 wf:t.Kw
 ig:∀w,fE t w->w∈S
 vn:S.p.v t
structure Yu(n M:Nat)(S:Sg):Prop where
 n:n<=1000000
 m:M<=1100000000000
 vT:S.ids.length<1099511627776
 nn:∀w∈S,0<=w
theorem c385{n M:Nat}{S:Sg}(N:Yu n M S){s:c_}(I:Inv n M S s){a b:Ty}(g:Fit S a)(f:Fit S b):∃s' e,(aC AP).p 385 [s.pv,a.pv,b.pv]=some [s'.pv,vI e]∧Inv n M S s'∧Ext s.sl s'.sl:=by
 obtain⟨s',e,c,U⟩:=c391 N.n N.m N.vT N.nn _ s rfl I a b g.ok f.ok g.wf f.wf g.vn f.vn g.ig f.ig;simp at c;by_cases d:e=0
 ·refine⟨s',0,?_,(U d).1,(U d).2.2⟩;subst d;rw[az g385];simp[g385,c]
 ·refine⟨s,e,?_,I,.refl _⟩;rw[az g385];simp[g385,c,d]
theorem N3{n M:Nat}{S:Sg}{s:c_}(I:Inv n M S s){i:Nat}{o x:Sl}(a:s.sl[i]?=some o)(d:x.bd=o.bd)(c:x.ty=o.ty):Inv n (M+1) S (gi s i o x) where
 len:=by rw[bI,zbG,I.len]
 Pc:=by rw[nP,bI,th a d];have:=I.Pc;omega
 ok:=by
  intro y hy;rw[bI]at hy;rcases mem_set hy with rfl|hy
  ·rw[c];exact I.ok o (aN a)
  ·exact I.ok y hy
 ig:=by
  intro y hy;rw[bI]at hy;rcases mem_set hy with rfl|hy
  ·rw[c];exact I.ig o (aN a)
  ·exact I.ig y hy
 xj:=by rw[bI];exact B6 I.xj a d c
 wf:=by
  intro y hy;rw[bI]at hy;rcases mem_set hy with rfl|hy
  ·rw[c];exact I.wf o (aN a)
  ·exact I.wf y hy
 vn:=by
  intro y hy b;rw[bI]at hy;rcases mem_set hy with rfl|hy
  ·rw[c];exact I.vn o (aN a) (by rw[<-d];exact b)
  ·exact I.vn y hy b
theorem Inv.bX{n M a:Nat}{S S':Sg}{s:c_}(I:Inv n M S s)(h:M<=a)(hS:∀w∈S,w∈S')(hp:S'.p=S.p:=by rfl):Inv n a S' s:=⟨I.len,by have:=I.Pc;omega,I.ok,fun x hx w b=>hS w (I.ig x hx w b),I.xj,I.wf,by rw[hp];exact I.vn⟩
theorem c394{n M:Nat}{S:Sg}(N:Yu n M S)(hS:∀w∈S,w<n){s:c_}(I:Inv n M S s){t:Ty}(j:Fit S t):∃s',(aC AP).p 394 [s.pv,t.pv]=some [s'.pv]∧Inv n (M+1) S s'∧Ext s.sl s'.sl:=by
 have hl:=I.len;have hn:=N.n;have q:=N.m;have e:Sm s.sl:=by unfold Sm;omega
 have d:=c386 e (t:=t);have g:∀w,fE (wk s.sl (s.sl.length+1) t) w->w∈S:=ml (S:=S.ids) I.ig j.ig;generalize wk s.sl (s.sl.length+1) t=x at*;by_cases k:x.kind=1
 ·have f:=g _ (.var k);have h0:=N.nn _ f;have h1:=hS _ f;obtain⟨i,hi⟩:∃i:Nat,x.id=i:=⟨x.id.toNat,by omega⟩;have b:i<s.sl.length:=(by omega);obtain⟨o,a⟩:=aP b;have c:=c393 I.NZ hn (by omega) a ⟨o.bd,o.ty,o.home,true⟩;refine⟨_,?_,N3 I a (x:=⟨o.bd,o.ty,o.home,true⟩) rfl rfl,Ext.set a (.inr ⟨rfl,rfl⟩)⟩;generalize gi s i o ⟨o.bd,o.ty,o.home,true⟩=l at*;simp[k,hi]at d;simp at c;rw[az g394];simp(disch:=omega)[-getElem?_pos,g394,d,b,a,c]
 ·refine⟨s,?_,I.bX (by omega) (fun _ h=>h),.refl _⟩;simp at d;rw[az g394];simp[g394,d,k]
def eg(p:Vp)(n:Nat):Sg:=⟨(List.range n).map fun k:Nat=>(k:Int),p⟩
abbrev oe(n:Nat):Sg:=eg .all n
theorem d8{p:Vp}{n:Nat}{w:Int}:w∈eg p n<->0<=w∧w<n:=by
 change w∈(List.range n).map (fun k:Nat=>(k:Int))<->_
 simp only[zat,List.mem_range];constructor
 ·rintro⟨k,h,rfl⟩;omega
 ·intro h;exact⟨w.toNat,by omega,by omega⟩
theorem QJ{p:Vp}{n M:Nat}(hn:n<=1000000)(a:M<=1100000000000):Yu n M (eg p n):=⟨hn,a,by simp[eg];omega,fun w h=>(d8.1 h).1⟩
theorem qS{p:Vp}{n M:Nat}{s:c_}(I:Inv n M (eg p n) s)(home:Int)(b:Bool){d:Nat}(g:M+ub s.sl+n+4<=d):Inv (n+1) d (eg p (n+1)) (bC s home b) where
 len:=by simp[bC,I.len]
 Pc:=by
  have:=I.Pc;have hu:ub (bC s home b).sl=ub s.sl+1:=by simp[bC,ub,List.countP_append]
  have e:(bC s home b).tr.length=s.tr.length+1:=(by simp[bC]);rw[hu,e];have:(n+1+2)*(ub s.sl+1)=(n+2)*ub s.sl+ub s.sl+n+3:=(by rw[zbX,Nat.add_right_comm n 1 2,zaD (n+2) 1];omega);omega
 ok:=by
  intro x hx;simp[bC]at hx;rcases hx with hx|rfl
  ·exact I.ok x hx
  ·exact bQ rfl
 ig:=by
  intro x hx w a;simp[bC]at hx;rcases hx with hx|rfl
  ·have:=d8.1 (I.ig x hx w a);exact d8.2 (by omega)
  ·cases a with
   |var q=>simp[ca]at q
   |arg _ f _=>simp[ca]at f
 xj:=NK I.xj rfl
 wf:=by
  intro x hx;simp[bC]at hx;rcases hx with hx|rfl
  ·exact I.wf x hx
  ·exact⟨by simp[ca],by simp[ca],by simp[ca]⟩
 vn:=by
  intro x hx c;simp[bC]at hx;rcases hx with hx|rfl
  ·exact I.vn x hx c
  ·cases c
def D8(d:Dt):Prop:=d.params.length<=8∧0<d.cons.length∧d.cons.length<=8∧∀c∈d.cons,c.fields.length<=8
theorem UA:∀d∈bp,D8 d:=by
 intro d hd;simp[bp]at hd;rcases hd with rfl|rfl|rfl|rfl|rfl|rfl|rfl<;>simp[D8]
structure ZZ(e:Ex)(C:List AV):Prop where
 len:C.length=11
 leaf:C.all aZ=true
 ej:∀sh,eA sh C=some e.cells
 flat:bq.dP C=true
 oB:gW C=true
def eI(f:Bool)(l:List PV):AV:=if f then .cQ l else .pv (.aq l)
def jr(a c b:Bool)(e:Ex):List AV:=[.pv (vI e.kind),.pv (vI e.pos),.pv (.str e.name),.pv (vI e.num),eI a (e.kids.map Ex.pv),eI c (e.aF.map Ar.pv),.pv (vI e.ty.kind),.pv (.str e.ty.name),.pv (vI e.ty.id),.pv (vI e.ty.home),eI b (e.ty.args.map Ty.pv)]
theorem kq(a c b:Bool)(e:Ex):ZZ e (jr a c b e):=by
 refine⟨rfl,?_,?_,?_,?_⟩
 ·cases a<;>cases c<;>cases b<;>rfl
 ·intro sh;rw[Ex.aE];cases a<;>cases c<;>cases b<;>simp[jr,eI]
 ·cases a<;>cases c<;>cases b<;>simp[jr,eI]
 ·cases a<;>cases c<;>cases b<;>simp[jr,eI]
structure Ho where
 bind:Int
 pos:Int
 ctx:List En
 goal:Ty
def Ho.pv(h:Ho):PV:=.agg [vI h.bind,vI h.pos,.aq (h.ctx.map En.pv),vI h.goal.kind,.str h.goal.name,vI h.goal.id,vI h.goal.home,.aq (h.goal.args.map Ty.pv)]
@[simp] theorem Ho.kO(h:Ho):h.pv=.agg [.int .i64 h.bind,.int .i64 h.pos,.aq (h.ctx.map En.pv),.int .i64 h.goal.kind,.str h.goal.name,.int .i64 h.goal.id,.int .i64 h.goal.home,.aq (h.goal.args.map Ty.pv)]:=rfl
theorem R5:El Ho.pv 8 true:=⟨fun _=>by simp,fun _=>by simp⟩
@[simp] theorem KO{l:List Ho}:a7 8 (l.map Ho.pv)=true:=R5.head l
structure Dv where
 ty:Ty
 inst:List Ty
 gen:List Int
 kids:List Dv
instance:Inhabited Dv:=⟨⟨ca,[],[],[]⟩⟩
mutual
def Dv.cells:Dv->List PV
 |⟨t,i,g,ks⟩=>[vI t.kind,.str t.name,vI t.id,vI t.home,.aq (t.args.map Ty.pv),.aq (i.map Ty.pv),.aq (g.map vI),.aq (Dv.dV ks)]
def Dv.dV:List Dv->List PV
 |[]=>[]
 |d::r=>.agg (Dv.cells d)::Dv.dV r
end
def Dv.pv(d:Dv):PV:=.agg d.cells
theorem Dv.kN:∀l:List Dv,Dv.dV l=l.map Dv.pv
 |[]=>by simp[Dv.dV]
 |e::r=>by simp[Dv.dV,Dv.kN r,Dv.pv]
theorem Dv.aE(d:Dv):d.cells=[.int .i64 d.ty.kind,.str d.ty.name,.int .i64 d.ty.id,.int .i64 d.ty.home,.aq (d.ty.args.map Ty.pv),.aq (d.inst.map Ty.pv),.aq (d.gen.map vI),.aq (d.kids.map Dv.pv)]:=by
 cases d;simp only[Dv.cells,Dv.kN]
@[simp] theorem Dv.kO(d:Dv):d.pv=.agg [.int .i64 d.ty.kind,.str d.ty.name,.int .i64 d.ty.id,.int .i64 d.ty.home,.aq (d.ty.args.map Ty.pv),.aq (d.inst.map Ty.pv),.aq (d.gen.map vI),.aq (d.kids.map Dv.pv)]:=by
 rw[Dv.pv,Dv.aE]
theorem N4:El Dv.pv 8 true:=⟨fun _=>by simp,fun _=>by simp⟩
@[simp] theorem Vq{l:List Dv}:a7 8 (l.map Dv.pv)=true:=N4.head l
def iA(a b c k:Bool)(d:Dv):List AV:=[.pv (vI d.ty.kind),.pv (.str d.ty.name),.pv (vI d.ty.id),.pv (vI d.ty.home),eI a (d.ty.args.map Ty.pv),eI b (d.inst.map Ty.pv),eI c (d.gen.map vI),eI k (d.kids.map Dv.pv)]
structure Z0(d:Dv)(C:List AV):Prop where
 len:C.length=8
 leaf:C.all aZ=true
 ej:∀sh,eA sh C=some d.cells
 flat:bq.dP C=true
 oB:gW C=true
 kill:C.flatMap rV=[]
theorem eW(a b c k:Bool)(d:Dv):Z0 d (iA a b c k d):=by
 refine⟨rfl,?_,?_,?_,?_,?_⟩
 ·cases a<;>cases b<;>cases c<;>cases k<;>rfl
 ·intro sh;rw[Dv.aE];cases a<;>cases b<;>cases c<;>cases k<;>simp[iA,eI]
 ·cases a<;>cases b<;>cases c<;>cases k<;>simp[iA,eI]
 ·cases a<;>cases b<;>cases c<;>cases k<;>simp[iA,eI]
 ·cases a<;>cases b<;>cases c<;>cases k<;>rfl
structure Mc where
 ds:List Dt
 home:Int
 s:c_
 err:Int
 pos:Int
 rc:List Ho
 hd:List Bool
def Mc.cells(m:Mc):List AV:=[.pv (.aq (m.ds.map Dt.pv)),.pv (vI m.home),.pv (.aq (m.s.sl.map Sl.pv)),.pv (.aq (m.s.tr.map Ch.pv)),.pv (vI m.err),.pv (vI m.pos),.own (m.rc.map Ho.pv) 0,.own (m.hd.map .bool) 1]
def Mc.sh(m:Mc):Sh:=[some m.cells]
def Mc.tk(m:Mc):aG:=[m.rc.length,m.hd.length]
theorem Ha(l:List Bool):a7 1 (l.map PV.bool)=true:=by cases l<;>simp[a7]
def jj(g:Nat)(args:List AV)(m:Mc)(rs:List AV)(m':Mc):Prop:=(aC AP).i g (.aI 0 0::args) m.sh m.tk=some (rs,m'.sh,m'.tk)
abbrev p8(n:Nat)(s:c_):Prop:=Inv n (n*n+4*n) (oe n) s
theorem R6{n:Nat}(h:n<=1000000):n*n+4*n<=1000004000000:=by
 have:=zcf h h;omega
theorem p8.fresh{n:Nat}{s:c_}(I:p8 n s)(home:Int):p8 (n+1) (bC s home false):=by
 refine qS I home false ?_;have hu:ub s.sl<=n:=by have:=List.countP_le_length (p:=fun x:Sl=>!x.bd) (l:=s.sl);rw[I.len]at this;exact this
 have:(n+1)*(n+1)=n*n+2*n+1:=by rw[zaD,zbX];omega
 omega
theorem Ext.fresh(s:c_)(home:Int)(b:Bool):Ext s.sl (bC s home b).sl:=⟨by simp[bC],fun k x hx a=>⟨x,by simp only[bC];rw[zal (zaa.1 hx).1];exact hx,a,rfl⟩⟩
theorem N5{n:Nat}(h:n<=1000000):Yu n (n*n+4*n) (oe n):=QJ h (by have:=R6 h;omega)
theorem c367{m:Mc}{n:Nat}(I:p8 n m.s)(hn:n<=1000000):jj 367 [] m [(aQ n).av] {m with s:=bC m.s m.home false}:=by
 have e:=c381 I.NZ hn (by have:=R6 hn;omega) m.home false;rw[I.len]at e;unfold jj;rw[aA g367];simp[aQ]at e;simp[g367,Mc.sh,Mc.tk,Mc.cells,e,aQ]
abbrev dM(n:Nat)(t:Ty):Prop:=Fit (oe n) t
theorem c369{m:Mc}{n:Nat}(I:p8 n m.s)(hn:n<=1000000){a b:Ty}(g:dM n a)(f:dM n b)(p:Int):∃s' i p',jj 369 [.pv a.pv,.pv b.pv,.pv (vI p)] m [] {m with s:=s',err:=i,pos:=p'}∧p8 n s'∧Ext m.s.sl s'.sl:=by
 obtain⟨s',e,c,j,x⟩:=c385 (N5 hn) I g f;unfold jj;simp at c;by_cases h:m.err=0
 ·by_cases d:e=0
  ·subst d;refine⟨s',0,m.pos,?_,j,x⟩;rw[aA g369];simp[g369,Mc.sh,Mc.tk,Mc.cells,h,c]
  ·refine⟨m.s,e,p,?_,I,.refl _⟩;rw[aA g369];simp[g369,Mc.sh,Mc.tk,Mc.cells,h,c,d]
 ·refine⟨m.s,m.err,m.pos,?_,I,.refl _⟩;rw[aA g369];simp[g369,Mc.sh,Mc.tk,Mc.cells,h]
theorem c384{m:Mc}{env:List En}(a:Sm env)(e:Ex)(t:Ty)(hr:m.rc.length<=1000000)(hl:m.hd.length<=1000000):jj 384 [.pv (.aq (env.map En.pv)),.pv e.pv,.pv t.pv] m [] {m with rc:=m.rc++[⟨m.home,e.pos,a8 env,t⟩],hd:=m.hd++[e.kind == 11]}:=by
 have k:=c201 a;have b1:(m.rc.length+1)*104<=140737488355328:=by omega
 have b:m.hd.length+1<=140737488355328:=by omega
 have h1:=Ha m.hd;unfold jj
 try simp at k
 rw[aA g384];simp[g384,Mc.sh,Mc.tk,Mc.cells,k,b1,b,h1]
def tq(out:List Int):Sh:=[none,some [.own (out.map vI) 0]]
theorem c97n{S out:List Int}(h:gQ S out)(x:Ty):(aC AP).i 97 [.pv x.pv,.aI 1 0] (tq out) [out.length]=some ([],tq (bW out x),[(bW out x).length]):=by
 have hl:=h.len;have k:=c98 hl (y:=x.id);unfold Sm at hl;have b:(out.length+1)*8<=140737488355328:=by omega
 have a:a7 1 (out.map vI)=true:=eV.head out;rw[aA g97];by_cases e1:x.kind=1
 ·by_cases e2:x.id∈out
  ·rw[zaG e2]at k;simp[g97,tq,bW,e1,e2,k,a]
  ·rw[zaC e2]at k;simp[g97,tq,bW,e1,e2,k,b,a]
 ·simp[g97,tq,bW,e1]
theorem Xd{S:List Int}{t:Ty}(hS:Sm t.args)(h:∀x∈t.args,∀out,gQ S out->(aC AP).i 96 [.pv x.pv,.fn 97 [.aI 1 0]] (tq out) [out.length]=some ([],tq (x.nodes.foldl bW out),[(x.nodes.foldl bW out).length]))
   (d:∀x∈t.args.flatMap Ty.nodes,x.kind=1->x.id∈S):∀(n i:Nat),t.args.length-i=n->i<=t.args.length->∀out,gQ S out->
   cl AP g96L0 ⟨[(1,.fn 97 [.aI 1 0]),(10,.pv (.aq (t.args.map Ty.pv))),(11,.pv (vI t.args.length)),(12,.pv (vI i))],[],tq out,[out.length]⟩=
     some (.exit 0,⟨[(1,.fn 97 [.aI 1 0]),(10,.pv (.aq (t.args.map Ty.pv))),(11,.pv (vI t.args.length)),(12,.pv (vI t.args.length)),(13,.pv (.bool false))],[],tq (((t.args.drop i).flatMap Ty.nodes).foldl bW out),[(((t.args.drop i).flatMap Ty.nodes).foldl bW out).length]⟩)
 |0,i,hn,hi,out,c=>by
  have:i=t.args.length:=by omega
  subst this;rw[g96L0e];simp[g96B0,tq]
 |n+1,i,hn,hi,out,c=>by
  have hi:i<t.args.length:=(by omega);obtain⟨x,hx⟩:=aP hi;unfold Sm at hS;have b:∀y∈x.nodes,y.kind=1->y.id∈S:=fun y hy=>d y (by simp only[zam];exact⟨x,aN hx,hy⟩)
  have k:=h x (aN hx) out c;have a:=Xd hS h d n (i+1) (by omega) (by omega) _ (c.fold b);rw[g96L0e]at a⊢;rw[aV hx];simp[tq]at k a;simp(disch:=omega)[-getElem?_pos,g96B0,tq,hx,hi,k,ah];rw[g96L0e];simp[a]
theorem c96n{S:List Int}{t:Ty}(c:t.Ok)(a:∀x∈t.nodes,x.kind=1->x.id∈S):∀out,gQ S out->
   (aC AP).i 96 [.pv t.pv,.fn 97 [.aI 1 0]] (tq out) [out.length]=some ([],tq (t.nodes.foldl bW out),[(t.nodes.foldl bW out).length]):=by
 revert c a
 refine Ty.cB (p:=fun t=>t.Ok->(∀x∈t.nodes,x.kind=1->x.id∈S)->∀out,gQ S out->
   (aC AP).i 96 [.pv t.pv,.fn 97 [.aI 1 0]] (tq out) [out.length]=some ([],tq (t.nodes.foldl bW out),[(t.nodes.foldl bW out).length])) ?_ t
 intro t d c a out b;rw[Ty.aM]at a⊢;have k:=c97n b t;have h:=Xd (S:=S) c.sm (fun x hx out b=>d x hx (c.cY x hx) (fun y hy=>a y (by simp only[zah,zam];exact .inr ⟨x,hx,hy⟩)) out b) (fun x hx=>a x (by simp only[zah];exact .inr hx)) _ 0 rfl (by omega) _ (b.add (a t (by simp)));rw[aA g96];rw[g96L0e]at h;simp[tq]at k h;simp[g96,g96L0e,tq,k,h]
theorem Xe{S:List Int}{l:List Ty}(hS:Sm l)(e:∀t∈l,t.Ok)(d:∀x∈l.flatMap Ty.nodes,x.kind=1->x.id∈S):∀(n i:Nat),l.length-i=n->i<=l.length->∀out,gQ S out->
   cl AP g55L0 ⟨[(3,.aI 1 0),(6,.pv (.aq (l.map Ty.pv))),(7,.pv (vI l.length)),(8,.pv (vI i))],[],tq out,[out.length]⟩=
     some (.exit 0,⟨[(3,.aI 1 0),(6,.pv (.aq (l.map Ty.pv))),(7,.pv (vI l.length)),(8,.pv (vI l.length)),(9,.pv (.bool false))],[],tq (((l.drop i).flatMap Ty.nodes).foldl bW out),[(((l.drop i).flatMap Ty.nodes).foldl bW out).length]⟩)
 |0,i,hn,hi,out,c=>by
  have:i=l.length:=by omega
  subst this;rw[g55L0e];simp[g55B0,tq]
 |n+1,i,hn,hi,out,c=>by
  have hi:i<l.length:=(by omega);obtain⟨x,hx⟩:=aP hi;unfold Sm at hS;have a:∀y∈x.nodes,y.kind=1->y.id∈S:=fun y hy=>d y (by simp only[zam];exact⟨x,aN hx,hy⟩)
  have k:=c96n (e x (aN hx)) a out c;have b:=Xe hS e d n (i+1) (by omega) (by omega) _ (c.fold a);rw[g55L0e]at b⊢;rw[aV hx];simp[tq]at k b;simp(disch:=omega)[-getElem?_pos,g55B0,tq,hx,hi,k,ah];rw[g55L0e];simp[b]
theorem c55i{S:List Int}(hf:S.length<1099511627776){l:List Ty}(hS:Sm l)(b:∀t∈l,t.Ok)(a:∀x∈l.flatMap Ty.nodes,x.kind=1->x.id∈S):(aC AP).i 55 [.pv (.aq (l.map Ty.pv))] [none] []=some ([.own ((vars l).map vI) 0],[none],[(vars l).length]):=by
 have h:=Xe hS b a _ 0 rfl (by omega) [] (m9 hf);rw[eU (af:=Go.Ab.g55) rfl (by simp[Go.Ab.g55])];rw[g55L0e]at h;simp[tq]at h;simp[Go.Ab.g55,g55L0e,h,vars]
theorem g55i{S:List Ty}(hf:S.length<1099511627776){l:List Ty}(hS:Sm l)(b:∀t∈l,Good S t):(aC AP).i 55 [.pv (.aq (l.map Ty.pv))] [none] []=some ([.own ((vars l).map vI) 0],[none],[(vars l).length]):=by
 refine c55i (S:=S.map Ty.id) (by simpa using hf) hS (fun t a=>(b t a).ok) ?_;intro x hx c;simp only[zam]at hx;obtain⟨t,a,hx⟩:=hx;exact zcd ((b t a).sub x (nN (b t a).wf x hx c))
theorem Xf{l:List Sc}(hS:Sm l):∀(n i:Nat),l.length-i=n->i<=l.length->∀d:List Ty,d=(l.take i).map As.ty->
   cl AP g224L0 ⟨[(3,.bh 0 5 l.length true),(9,.pv (.aq (l.map As.pv))),(10,.pv (vI l.length)),(11,.pv (vI i))],[],[some (cL d n)],[]⟩=
     some (.exit 0,⟨[(3,.bh 0 5 l.length true),(9,.pv (.aq (l.map As.pv))),(10,.pv (vI l.length)),(11,.pv (vI l.length)),(12,.pv (.bool false))],[],[some (cL (l.map As.ty) 0)],[]⟩)
 |0,i,hn,hi,d,hd=>by
  have:i=l.length:=by omega
  subst this;have f:d=l.map As.ty:=by simpa using hd
  subst f;have h:aT [some (cL (l.map As.ty) 0)]:=aT.one cZ;have h1:=h.norm;simp at h1;rw[g224L0e];simp[g224B0,h1]
 |n+1,i,hn,hi,d,hd=>by
  have hi:i<l.length:=(by omega);obtain⟨x,hx⟩:=aP hi;unfold Sm at hS;have e:d.length=i:=(by rw[hd];simp;omega);have h:aT [some (cL d (n+1))]:=aT.one cZ;have g:aT [some (cL (d++[x.ty]) n)]:=aT.one cZ;have c:=Xf hS n (i+1) (by omega) (by omega) (d++[x.ty]) (by rw[zaI,hx,hd];simp);have a:a0 (cL d (n+1)) (i*5) x.ty.cl=cL (d++[x.ty]) n:=(by rw[<-e];exact pQ);have b:i*5+5<=(cL d (n+1)).length:=(by rw[gP];omega);have h1:=h.norm;have h2:=g.norm;simp at h1 h2;rw[g224L0e]at c⊢;simp[Ty.cl,h2]at c a;simp(disch:=omega)[-getElem?_pos,g224B0,hx,hi,h1,Ty.cl,a,b,ah];rw[g224L0e];simp[c,h2]
theorem c224i{S:List Ty}(hf:S.length<1099511627776){l:List Sc}(hS:Sm l)(n:∀c∈l,Good S c.ty):(aC AP).i 224 [.pv (.aq (l.map As.pv))] [] []=some ([.own ((vars (l.map As.ty)).map vI) 0],[],[(vars (l.map As.ty)).length]):=by
 have h:=Xf hS l.length 0 (by omega) (by omega) [] (by simp);have k:=g55i hf (l:=l.map As.ty) (by unfold Sm at*;simpa using hS) (by intro t e;simp at e;obtain⟨c,g,rfl⟩:=e;exact n c g);have f:cL [] l.length=(List.replicate l.length [.pv (vI 0),.pv (.str []),.pv (vI 0),.pv (vI 0),.pv (.aq [])]).flatten:=by simp[cL,Ng]
 have j:aT [some (cL [] l.length)]:=aT.one cZ;have h1:=j.norm;have b:=m7 (d:=l.map As.ty);have a:=gP (d:=l.map As.ty) (m:=0);rw[f]at h h1;rw[g224L0e]at h;unfold Sm at hS;have b1:(l.length:Int)<=9223372036854775807:=by omega
 have o:(l.length:Int)*64<=140737488355328:=by omega
 simp at h1;simp[h1]at h;simp at b a k;rw[aA g224];simp(disch:=omega)[g224,b1,o,g224L0e,h1,h,b,a,k]
theorem UB{l:List En}(hS:Sm l):∀(n i:Nat),l.length-i=n->i<=l.length->∀acc:List Sc,acc.length<=i->
   cl AP g199L0 ⟨[(3,.own (acc.map As.pv) 0),(7,.pv (.aq (l.map En.pv))),(8,.pv (vI l.length)),(9,.pv (vI i))],[],[],[acc.length]⟩=
     some (.exit 0,⟨[(3,.own ((acc++(l.drop i).map En.sc).map As.pv) 0),(7,.pv (.aq (l.map En.pv))),(8,.pv (vI l.length)),(9,.pv (vI l.length)),(10,.pv (.bool false))],[],[],[(acc++(l.drop i).map En.sc).length]⟩)
 |0,i,hn,hi,acc,c=>by
  have:i=l.length:=by omega
  subst this;rw[g199L0e];simp[g199B0]
 |n+1,i,hn,hi,acc,c=>by
  have hi:i<l.length:=(by omega);obtain⟨x,hx⟩:=aP hi;unfold Sm at hS;have b:(acc.length+1)*72<=140737488355328:=(by omega);have a:=UB hS n (i+1) (by omega) (by omega) (acc++[x.sc]) (by simp;omega);rw[g199L0e]at a⊢;rw[aV hx];simp at a;simp(disch:=omega)[-getElem?_pos,g199B0,hx,hi,ah,b];rw[g199L0e];simp[a]
theorem c199{S:List Ty}(hf:S.length<1099511627776){l:List En}(hS:Sm l)(f:∀x∈l,Good S x.sc.ty):(aC AP).p 199 [.aq (l.map En.pv)]=some [.aq ((dt l).map vI)]:=by
 have b:=c182 hS;have hl:=d6 l;have hs:Sm (a8 l):=by unfold Sm at*;omega
 have h:=UB hs _ 0 rfl (by omega) [] (by simp);have a:=c224i hf (l:=(a8 l).map En.sc) (by unfold Sm at*;simpa using hs) (by intro c d;simp at d;obtain⟨x,hx,rfl⟩:=d;exact f x (cS l x hx));have e:((a8 l).map En.sc).map As.ty=(a8 l).map fun x=>x.sc.ty:=by simp
 rw[e]at a;rw[g199L0e]at h;rw[az g199];simp at b a h;simp[g199,b,g199L0e,h,a,dt]
theorem c199i{S:List Ty}(hf:S.length<1099511627776){l:List En}(hS:Sm l)(f:∀x∈l,Good S x.sc.ty):(aC AP).i 199 [.pv (.aq (l.map En.pv))] [] []=some ([.own ((dt l).map vI) 0],[],[(dt l).length]):=by
 have b:=c182 hS;have hl:=d6 l;have hs:Sm (a8 l):=by unfold Sm at*;omega
 have h:=UB hs _ 0 rfl (by omega) [] (by simp);have a:=c224i hf (l:=(a8 l).map En.sc) (by unfold Sm at*;simpa using hs) (by intro c d;simp at d;obtain⟨x,hx,rfl⟩:=d;exact f x (cS l x hx));have e:((a8 l).map En.sc).map As.ty=(a8 l).map fun x=>x.sc.ty:=by simp
 rw[e]at a;rw[g199L0e]at h;rw[aA g199];simp at b a h;simp[g199,b,g199L0e,h,a,dt]
theorem KP(l:List En):a8 (a8 l)=a8 l:=by
 induction l with
 |nil=>rfl
 |cons a r b=>
  simp only[a8];split
  ·exact b
  ·rename_i h
   have h2:((a8 r).any fun x=>decide (x.name=a.name))=false:=by
    rw[zb2];intro h3;rw[List.any_eq_true]at h3;obtain⟨x,hx,e⟩:=h3;exact h (List.any_eq_true.2 ⟨x,cS r x hx,e⟩)
   simp only[a8,h2,b];simp
theorem vu{S:List Ty}(hf:S.length<1099511627776){l:List Ty}(b:∀t∈l,Good S t):Sm (vars l):=by
 have c0:gQ (S.map Ty.id) []:=m9 (by simpa using hf);refine(c0.fold (l:=l.flatMap Ty.nodes) ?_).len;intro x hx c;simp only[zam]at hx;obtain⟨t,a,hx⟩:=hx;exact zcd ((b t a).sub x (nN (b t a).wf x hx c))
mutual
def Ty.gk(k:Int):Ty->Bool
 |⟨q,_,_,_,as⟩=>decide (q=k)|| Ty.Cf k as
def Ty.Cf(k:Int):List Ty->Bool
 |[]=>false
 |a::r=>a.gk k || Ty.Cf k r
end
theorem Ty.xl(k:Int):∀l:List Ty,Ty.Cf k l=l.any (Ty.gk k)
 |[]=>by simp[Ty.Cf]
 |a::r=>by simp[Ty.Cf,Ty.xl k r]
theorem Ty.p9(k:Int)(t:Ty):t.gk k=(decide (t.kind=k)|| t.args.any (Ty.gk k)):=by
 cases t;simp only[Ty.gk,Ty.xl]
theorem Xg{t:Ty}{k:Int}(hS:Sm t.args)(h:∀x∈t.args,(aC AP).p 351 [x.pv,vI k]=some [.bool (x.gk k)]):∀(n i:Nat),t.args.length-i=n->i<=t.args.length->
   cl AP g351L0 ⟨[(1,.pv (vI k)),(2,.au 2 0),(5,.pv (vI i))],[(2,[.pv (vI t.kind),.pv (.str t.name),.pv (vI t.id),.pv (vI t.home),.pv (.aq (t.args.map Ty.pv))])],[],[]⟩=
     if (t.args.drop i).any (Ty.gk k)=true then some (.ret,⟨[(4,.pv (.bool true))],[],[],[]⟩)
     else some (.exit 0,⟨[(1,.pv (vI k)),(2,.au 2 0),(5,.pv (vI t.args.length)),(14,.pv (.bool false))],[(2,[.pv (vI t.kind),.pv (.str t.name),.pv (vI t.id),.pv (vI t.home),.pv (.aq (t.args.map Ty.pv))])],[],[]⟩)
 |0,i,hn,hi=>by
  have:i=t.args.length:=by omega
  subst this;rw[g351L0e];simp[g351B0]
 |n+1,i,hn,hi=>by
  have hi:i<t.args.length:=(by omega);obtain⟨x,hx⟩:=aP hi;unfold Sm at hS;have c:=h x (aN hx);have a:=Xg hS h n (i+1) (by omega) (by omega);rw[g351L0e]at a⊢;rw[aV hx,zcI];cases e:x.gk k with
  |true=>
   rw[e]at c;simp at c;simp(disch:=omega)[-getElem?_pos,g351B0,hx,hi,c]
  |false=>
   rw[e]at c;simp at c;rw[Bool.false_or,<-a];simp(disch:=omega)[-getElem?_pos,g351B0,hx,hi,c,ah];rw[g351L0e];simp[g351B0]
theorem c351{t:Ty}{k:Int}(a:t.Ok):(aC AP).p 351 [t.pv,vI k]=some [.bool (t.gk k)]:=by
 revert a
 refine Ty.cB (p:=fun t=>t.Ok->(aC AP).p 351 [t.pv,vI k]=some [.bool (t.gk k)]) ?_ t;intro t c a;have h:=Xg (k:=k) a.sm (fun x hx=>c x hx (a.cY x hx)) _ 0 rfl (by omega);rw[az g351,Ty.p9];rw[g351L0e]at h;by_cases e:t.kind=k
 ·simp[g351,e]
 ·cases b:t.args.any (Ty.gk k)with
  |true=>simp only[zar,b]at h;simp at h;simp[g351,e,g351L0e,h]
  |false=>simp only[zar,b]at h;simp at h;simp[g351,e,g351L0e,h]
def oC(t:Ty):Bool:=!t.gk 2 && !t.gk 5
def eF(t:Ty):Bool:=cC t && oC t
theorem Cg(t:Ty):oC t=(!decide (t.kind=2) && !decide (t.kind=5) && !(t.args.any fun x=>!oC x)):=by
 unfold oC;rw[Ty.p9,Ty.p9]
 have key:∀l:List Ty,(l.any fun x=>!(!x.gk 2 && !x.gk 5))=(l.any (Ty.gk 2)|| l.any (Ty.gk 5)):=by
  intro l;induction l with
  |nil=>rfl
  |cons a r b=>
   simp only[zcI,b];cases a.gk 2<;>cases a.gk 5<;>cases r.any (Ty.gk 2)<;>cases r.any (Ty.gk 5)<;>rfl
 rw[key];cases decide (t.kind=2)<;>cases decide (t.kind=5)<;>cases t.args.any (Ty.gk 2)<;>cases t.args.any (Ty.gk 5)<;>rfl
theorem c517g{t:Ty}(c:t.Ok):(aC AP).p 517 [t.pv]=some [.bool (oC t)]:=by
 revert c
 refine Ty.cB (p:=fun t=>t.Ok->(aC AP).p 517 [t.pv]=some [.bool (oC t)]) ?_ t;intro t d c
 have e:=c75 c.sm (sh:=[]) (by intro cs h;simp at h) (g:=520) (cap:=[]) (p:=fun x=>!oC x) rfl rfl rfl (fun _ _=>rfl) rfl (by
  intro x hx;have a:=d x hx (c.cY x hx);simp at a;rw[aA g520];simp[g520,a])
 rw[Cg];generalize (t.args.any fun x=>!oC x)=b at*;rw[az g517];by_cases h2:t.kind=2
 ·simp[g517,h2]
 ·by_cases h5:t.kind=5
  ·simp[g517,h5]
  ·cases b<;>simp[g517,h2,h5,e]
structure Vr(t:Ty):Prop where
 ok:t.Ok
 nm:t.Nm
theorem c502g{t:Ty}(h:Vr t):(aC AP).p 502 [t.pv]=some [.bool (eF t)]:=by
 have a:=c29 h.ok h.nm;have b:=c517g h.ok;unfold eF;rw[az g502];cases e1:cC t<;>rw[e1]at a<;>simp at a b<;>simp[g502,a,b]
theorem c488{t:Ty}(h:Vr t):(aC AP).p 488 [t.pv]=some [.bool (eF t)]:=by
 have b:=c30 h.ok h.nm;have a:=c351 (k:=2) h.ok;have c:=c351 (k:=5) h.ok;unfold eF oC;rw[az g488];cases e1:cC t<;>rw[e1]at b<;>cases e2:t.gk 2<;>rw[e2]at a<;>simp at b a c<;>simp[g488,b,a,c]
inductive Dv.Sd:Dv->Prop
 |mk {d:Dv}:Vr d.ty->(∀t∈d.inst,Vr t)->d.inst.length<=1000->d.gen.length<=1000000->d.kids.length<=1000->(∀x∈d.kids,x.Sd)->d.Sd
theorem Dv.Sd.t{d:Dv}(h:d.Sd):Vr d.ty:=by cases h;assumption
theorem Dv.Sd.i{d:Dv}(h:d.Sd):∀t∈d.inst,Vr t:=by cases h;assumption
theorem Dv.Sd.il{d:Dv}(h:d.Sd):d.inst.length<=1000:=by cases h;assumption
theorem Dv.Sd.gl{d:Dv}(h:d.Sd):d.gen.length<=1000000:=by cases h;assumption
theorem Dv.Sd.kl{d:Dv}(h:d.Sd):d.kids.length<=1000:=by cases h;assumption
theorem Dv.Sd.k{d:Dv}(h:d.Sd):∀x∈d.kids,x.Sd:=by cases h;assumption
inductive Hb:Ex->Dv->Prop
 |mk {e:Ex} {d:Dv}:e.ch.length=d.kids.length->eF d.ty=true->(∀t∈d.inst,eF t=true)->(∀p∈e.ch.zip d.kids,Hb p.1 p.2)->Hb e d
open Classical in
noncomputable def kx(e:Ex)(d:Dv):Bool:=decide (Hb e d)
theorem Hc(e:Ex)(d:Dv):kx e d=(decide (e.ch.length=d.kids.length) && eF d.ty && !(d.inst.any fun t=>!eF t) && (e.ch.zip d.kids).all fun p=>kx p.1 p.2):=by
 rw[zaN];unfold kx;simp only[zaW,zaf,zcl,zbl,zaq];constructor
 ·intro h;cases h with
  |mk h1 h2 h3 h4=>exact⟨⟨⟨h1,h2⟩,fun t a=>by simp[h3 t a]⟩,h4⟩
 ·rintro⟨⟨⟨h1,h2⟩,h3⟩,h4⟩
  exact .mk h1 h2 (fun t a=>by simpa using h3 t a) h4
def fK(d:Dv):List AV:=[.pv (vI d.ty.kind),.pv (.str d.ty.name),.pv (vI d.ty.id),.pv (vI d.ty.home),.pv (.aq (d.ty.args.map Ty.pv)),.pv (.aq (d.inst.map Ty.pv)),.pv (.aq (d.gen.map vI)),.pv (.aq (d.kids.map Dv.pv))]
def QK(d:Dv)(c:List Ex):Bool->Option (aR×St)
 |true=>some (.exit 0,⟨[(3,.au 3 0),(27,.pv (.aq (c.map Ex.pv))),(28,.pv (vI c.length)),(29,.pv (vI c.length)),(30,.pv (.bool false))],[(3,fK d)],[],[]⟩)
 |false=>some (.ret,⟨[(4,.pv (.bool false))],[],[],[]⟩)
theorem Xh{d:Dv}{c:List Ex}(hl:c.length=d.kids.length)(j:d.kids.length<=1000)(h:∀p∈c.zip d.kids,(aC AP).p 484 [p.1.pv,p.2.pv]=some [.bool (kx p.1 p.2)]):∀(n i:Nat),c.length-i=n->i<=c.length->
   cl AP g484L0 ⟨[(3,.au 3 0),(27,.pv (.aq (c.map Ex.pv))),(28,.pv (vI c.length)),(29,.pv (vI i))],[(3,fK d)],[],[]⟩=QK d c (((c.zip d.kids).drop i).all fun p=>kx p.1 p.2)
 |0,i,hn,hi=>by
  have:i=c.length:=by omega
  subst this;have e:(c.zip d.kids).drop c.length=[]:=zaX (by rw[zcz];exact zcU _ _);rw[g484L0e,e];simp[g484B0,fK,QK]
 |n+1,i,hn,hi=>by
  have hi:i<c.length:=(by omega);obtain⟨x,hx⟩:=aP hi;obtain⟨y,hy⟩:=aP (l:=d.kids) (i:=i) (by omega);have g:(c.zip d.kids)[i]?=some (x,y):=(by rw[zbR];exact⟨hx,hy⟩);have a:=h (x,y) (aN g);have f:=Xh hl j h n (i+1) (by omega) (by omega);have b:i<d.kids.length:=(by omega);rw[aV g,zaS];simp only at a⊢;generalize (((c.zip d.kids).drop (i+1)).all fun p=>kx p.1 p.2)=R at*;rw[g484L0e]at f⊢;cases e:kx x y with
  |true=>
   rw[e]at a;simp at a;rw[zba,<-f];simp(disch:=omega)[-getElem?_pos,g484B0,fK,hx,hy,hi,b,a,ah];rw[g484L0e];simp[g484B0,fK]
  |false=>
   rw[e]at a;simp at a;simp(disch:=omega)[-getElem?_pos,g484B0,fK,hx,hy,hi,b,a,QK]
theorem c484{e:Ex}(h:e.Ok):∀{d:Dv},d.Sd->(aC AP).p 484 [e.pv,d.pv]=some [.bool (kx e d)]:=by
 induction h with
 | @mk e r w o q v n=>
  intro d hd;have y:=Ex.Ok.mk r w o q v;have f:=c414 y;have j:=c502g hd.t;have u:=hd.il;have m:=hd.kl
  have c:=c75 (s:=d.inst) (by unfold Sm;omega) (sh:=[]) (by intro cs h;simp at h) (g:=503) (cap:=[]) (p:=fun x=>!eF x) rfl rfl rfl (fun _ _=>rfl) rfl (by
   intro x hx;have a:=c502g (hd.i x hx);simp at a;rw[aA g503];simp[g503,a])
  rw[Hc];rw[az g484];by_cases hl:e.ch.length=d.kids.length
  ·have L:=Xh hl m (fun p hp=>n p.1 (zcc hp).1 (hd.k _ (zcc hp).2)) _ 0 rfl (by omega);rw[zar,g484L0e]at L;generalize ((e.ch.zip d.kids).all fun p=>kx p.1 p.2)=R at*;generalize (d.inst.any fun t=>!eF t)=b at*;cases e1:eF d.ty<;>rw[e1]at j<;>cases b<;>cases R<;>simp[QK,fK,hl]at f j c L<;>simp[g484,hl,f,j,c,g484L0e,L]
  ·have l:¬(e.ch.length:Int)=d.kids.length:=(by omega);simp at f;simp[g484,hl,l,f]
def ky(t:Ty):Option (Ty×Ty):=if t.kind=4∧t.name=[45,62]then match t.args with|[a,b]=>some (a,b)|_=>none else none
def CS:Option (Ty×Ty)->List PV
 |some (a,b)=>[a.pv,b.pv,.bool true]
 |none=>[ca.pv,ca.pv,.bool false]
theorem Ci{l:List Ty}(h:l.length=2):∃a b,l=[a,b]:=by
 match l,h with
 |[a,b],_=>exact⟨a,b,rfl⟩
theorem jK{t:Ty}(h:¬(t.kind=4∧t.name=[45,62]∧t.args.length=2)):ky t=none:=by
 unfold ky;split
 ·rename_i q;split
  ·rename_i a b e;exact absurd ⟨q.1,q.2,by rw[e];rfl⟩ h
  ·rfl
 ·rfl
theorem xm{t:Ty}{a b:Ty}(h1:t.kind=4)(h2:t.name=[45,62])(h3:t.args=[a,b]):ky t=some (a,b):=by
 unfold ky;rw[zak ⟨h1,h2⟩,h3]
theorem c509{t:Ty}:(aC AP).p 509 [t.pv]=some (CS (ky t)):=by
 rw[az g509];by_cases h1:t.kind=4
 ·by_cases h2:t.name=[45,62]
  ·by_cases h3:t.args.length=2
   ·obtain⟨a,b,e⟩:=Ci h3;rw[xm h1 h2 e];simp[g509,h1,h2,e,CS]
   ·rw[jK (fun q=>h3 q.2.2)];have h4:¬(t.args.length:Int)=2:=by omega
    simp[g509,h1,h2,h3,h4,CS,ca]
  ·rw[jK (fun q=>h2 q.2.1)];simp[g509,h1,h2,CS,ca]
 ·rw[jK (fun q=>h1 q.1)];simp[g509,h1,CS,ca]
theorem c194h{t:Ty}:(aC AP).p 194 [t.pv]=some (CS (ky t)):=by
 rw[az g194];by_cases h1:t.kind=4
 ·by_cases h2:t.name=[45,62]
  ·by_cases h3:t.args.length=2
   ·obtain⟨a,b,e⟩:=Ci h3;rw[xm h1 h2 e];simp[g194,h1,h2,e,CS]
   ·rw[jK (fun q=>h3 q.2.2)];have h4:¬(t.args.length:Int)=2:=by omega
    simp[g194,h1,h2,h3,h4,CS,ca]
  ·rw[jK (fun q=>h2 q.2.1)];simp[g194,h1,h2,CS,ca]
 ·rw[jK (fun q=>h1 q.1)];simp[g194,h1,CS,ca]
theorem c223{s:List bD}(hS:Sm s){y:bD}:(aC AP).p 223 [.aq (s.map .str),.str y]=some [vI (o_ s y)]:=by
 rw[ZA GV (k:=223) rfl hS];unfold o_;have:(fun x=>decide (y=x))=fun x:bD=>decide (x=y):=by funext x;exact decide_eq_decide.2 eq_comm
 rw[this]
mutual
def Ty.iQ(l:List bD):Ty->Ty
 |⟨k,n,i,h,as⟩=>if k=5∧0<=o_ l n then aX (o_ l n)else⟨k,n,i,h,Ty.N6 l as⟩
def Ty.N6(l:List bD):List Ty->List Ty
 |[]=>[]
 |a::r=>a.iQ l::Ty.N6 l r
end
theorem Ty.Cj(l:List bD):∀as:List Ty,Ty.N6 l as=as.map (Ty.iQ l)
 |[]=>by simp[Ty.N6]
 |a::r=>by simp[Ty.N6,Ty.Cj l r]
theorem Ty.vv(l:List bD)(t:Ty):t.iQ l=if t.kind=5∧0<=o_ l t.name then aX (o_ l t.name)else⟨t.kind,t.name,t.id,t.home,t.args.map (Ty.iQ l)⟩:=by
 cases t;simp only[Ty.iQ,Ty.Cj]
theorem Xi{l:List bD}{t:Ty}(hS:Sm t.args)(h:∀x∈t.args,(aC AP).p 197 [x.pv,.aq (l.map .str)]=some [(x.iQ l).pv]):∀(n i:Nat),t.args.length-i=n->i<=t.args.length->∀d:List Ty,d=(t.args.take i).map (Ty.iQ l)->
   cl AP g197L0 ⟨[(1,.pv (.aq (l.map .str))),(2,.au 2 0),(4,.au 4 0),(6,.bh 0 5 t.args.length true),(27,.pv (.aq (t.args.map Ty.pv))),(28,.pv (vI t.args.length)),(29,.pv (vI i))],
     [(2,t.cl),(4,[.pv (vI 0),.pv (.str []),.pv (vI 0),.pv (vI 0),.own [] 0])],[some (cL d n)],[0]⟩=
   some (.exit 0,⟨[(1,.pv (.aq (l.map .str))),(2,.au 2 0),(4,.au 4 0),(6,.bh 0 5 t.args.length true),(27,.pv (.aq (t.args.map Ty.pv))),(28,.pv (vI t.args.length)),(29,.pv (vI t.args.length)),(30,.pv (.bool false))],
     [(2,t.cl),(4,[.pv (vI 0),.pv (.str []),.pv (vI 0),.pv (vI 0),.own [] 0])],[some (cL (t.args.map (Ty.iQ l)) 0)],[0]⟩)
 |0,i,hn,hi,d,hd=>by
  have:i=t.args.length:=by omega
  subst this;have j:d=t.args.map (Ty.iQ l):=by simpa using hd
  subst j;have e:=aT.one (cZ (d:=t.args.map (Ty.iQ l)) (m:=0));rw[g197L0e];simp[g197B0,e.norm,Ty.cl]
 |n+1,i,hn,hi,d,hd=>by
  have hi:i<t.args.length:=(by omega);obtain⟨x,hx⟩:=aP hi;unfold Sm at hS;have g:d.length=i:=(by rw[hd];simp;omega);have e:=aT.one (cZ (d:=d) (m:=n+1));have k:=h x (aN hx);have f:=Xi hS h n (i+1) (by omega) (by omega) (d++[x.iQ l]) (by rw[zaI,hx,hd];simp);have a:a0 (cL d (n+1)) (i*5) (x.iQ l).cl=cL (d++[x.iQ l]) n:=(by rw[<-g];exact pQ);have b:i*5+5<=(cL d (n+1)).length:=(by rw[gP];omega);have c:=aT.one (cZ (d:=d++[x.iQ l]) (m:=n));rw[g197L0e]at f⊢;simp[Ty.cl,c.norm]at f a k;simp(disch:=omega)[-getElem?_pos,g197B0,hx,hi,e.norm,e.shift,Ty.cl,k,a,b,ah];rw[g197L0e];simp[f,c.norm]
theorem c197{l:List bD}(hl:Sm l){t:Ty}(c:t.Ok):(aC AP).p 197 [t.pv,.aq (l.map .str)]=some [(t.iQ l).pv]:=by
 revert c
 refine Ty.cB (p:=fun t=>t.Ok->(aC AP).p 197 [t.pv,.aq (l.map .str)]=some [(t.iQ l).pv]) ?_ t;intro t j c;have g:=c223 hl (y:=t.name);rw[az g197,Ty.vv];by_cases e1:t.kind=5∧0<=o_ l t.name
 ·simp[g197,g,e1.1,e1.2,aX]
 ·have hS:=c.sm;have h:=Xi c.sm (fun x hx=>j x hx (c.cY x hx)) t.args.length 0 (by omega) (by omega) [] (by simp);have k:cL [] t.args.length=(List.replicate t.args.length [.pv (vI 0),.pv (.str []),.pv (vI 0),.pv (vI 0),.pv (.aq [])]).flatten:=(by simp[cL,Ng]);have f:=aT.one (cZ (d:=[]) (m:=t.args.length));rw[g197L0e]at h;unfold Sm at hS;have b1:(t.args.length:Int)<=9223372036854775807:=(by omega);have i:(t.args.length:Int)*64<=140737488355328:=(by omega);rw[k]at h f;simp[f.norm,Ty.cl]at h;have n:=aT.one (cZ (d:=t.args.map (Ty.iQ l)) (m:=0));have b:=m7 (d:=t.args.map (Ty.iQ l));have a:=gP (d:=t.args.map (Ty.iQ l)) (m:=0);simp at b a;by_cases e2:t.kind=5
  ·have e3:¬0<=o_ l t.name:=fun e=>e1 ⟨e2,e⟩;simp[e2]at h;simp(disch:=omega)[g197,g,e2,e3,b1,i,g197L0e,f.norm,h,b,a]
  ·simp(disch:=omega)[g197,g,e2,b1,i,g197L0e,f.norm,h,b,a]
theorem Xj{l:List bD}{t:Ty}(hS:Sm t.args)(h:∀x∈t.args,(aC AP).p 198 [x.pv,.aq (l.map .str)]=some [(x.iQ l).pv]):∀(n i:Nat),t.args.length-i=n->i<=t.args.length->∀acc:List Ty,acc=(t.args.take i).map (Ty.iQ l)->
   cl AP g198L0 ⟨[(1,.pv (.aq (l.map .str))),(2,.au 2 0),(4,.au 4 0),(6,.au 6 0),(7,.pv (vI i))],
     [(2,Ug t),(4,[.pv (vI 0),.pv (.str []),.pv (vI 0),.pv (vI 0),.own [] 0]),(6,[.pv (vI t.kind),.pv (.str t.name),.pv (vI t.id),.pv (vI t.home),.own (acc.map Ty.pv) 1])],[],[0,acc.length]⟩=
     some (.exit 0,⟨[(1,.pv (.aq (l.map .str))),(2,.au 2 0),(4,.au 4 0),(6,.au 6 0),(7,.pv (vI t.args.length)),(26,.pv (.bool false))],
     [(2,Ug t),(4,[.pv (vI 0),.pv (.str []),.pv (vI 0),.pv (vI 0),.own [] 0]),(6,[.pv (vI t.kind),.pv (.str t.name),.pv (vI t.id),.pv (vI t.home),.own ((t.args.map (Ty.iQ l)).map Ty.pv) 1])],[],[0,t.args.length]⟩)
 |0,i,hn,hi,acc,a=>by
  have:i=t.args.length:=by omega
  subst this;subst a;rw[g198L0e];simp[g198B0]
 |n+1,i,hn,hi,acc,a=>by
  have hi:i<t.args.length:=(by omega);obtain⟨x,hx⟩:=aP hi;unfold Sm at hS;have d:(acc.length+1)*64<=140737488355328:=by subst a;simp;omega
  have c:=h x (aN hx);have b:=Xj hS h n (i+1) (by omega) (by omega) (acc++[x.iQ l]) (by rw[zaI,hx,a];simp);rw[g198L0e]at b⊢;simp at b c;simp(disch:=omega)[-getElem?_pos,g198B0,hx,hi,c,d,ah];rw[g198L0e];simp[b]
theorem c198{l:List bD}(hl:Sm l){t:Ty}(a:t.Ok)(hC:t.Cw):(aC AP).p 198 [t.pv,.aq (l.map .str)]=some [(t.iQ l).pv]:=by
 revert a hC
 refine Ty.cB (p:=fun t=>t.Ok->t.Cw->(aC AP).p 198 [t.pv,.aq (l.map .str)]=some [(t.iQ l).pv]) ?_ t;intro t d a hC;have c:=c216 hl (y:=t.name);have b:=c72 (n:=o_ l t.name);have h:=Xj a.sm (fun x hx=>d x hx (a.cY x hx) (hC.cY x hx)) t.args.length 0 (by omega) (by omega) [] (by simp);rw[az g198,Ty.vv];rw[g198L0e]at h;simp at b h;by_cases e1:t.kind=5
 ·have e:=hC.bare (by rw[e1];decide);by_cases e2:0<=o_ l t.name
  ·simp[g198,c,e1,e2,b,aX]
  ·simp[g198,c,e1,e2,e]
 ·simp[g198,e1,g198L0e,h]
def Z1(pos:Int)(name:bD)(ps:List bD)(cs:List jI):List AV:=[.pv (vI pos),.pv (.str name),.own (ps.map .str) 1,.own (cs.map jI.pv) 2]
@[simp] theorem YV(pos:Int)(name:bD)(ps:List bD)(cs:List jI):Z1 pos name ps cs=[.pv (vI pos),.pv (.str name),.own (ps.map .str) 1,.own (cs.map jI.pv) 2]:=rfl
structure Small(ds:List Dt):Prop where
 num:Sm ds
 par:∀d∈ds,Sm d.params
 dK:∀d∈ds,Sm d.cons
 Z2:Sm (ds.flatMap Dt.cons)
 R7:∀d∈ds,∀c∈d.cons,Sm c.fields∧(∀x∈c.fields,x.Ok)∧∀x∈c.fields,x.Cw
theorem QL{l:List Dt}{b:Nat}(h:∀d∈l,d.cons.length<=b):(l.flatMap Dt.cons).length<=l.length*b:=by
 induction l with
 |nil=>simp
 |cons a r c=>
  have h1:=h a (by simp);have h2:=c (fun x hx=>h x (by simp[hx]));simp only[zas,zan,zax,zaD];omega
def ek(a b:Ty):Ty:=⟨4,[45,62],0,0,[a,b]⟩
theorem c218{s:List UInt8}{l:List Ty}(h:Sm l):(aC AP).p 218 [.str s,.aq (l.map Ty.pv)]=some [(Ty.mk 4 s 0 0 l).pv]:=by
 unfold Sm at h;rw[az g218];cases l with
 |nil=>simp[g218]
 |cons a r=>
  have:(r.length+1)*64<=140737488355328:=by simp at h;omega
  simp[g218,this]
theorem c220{a b:Ty}:(aC AP).p 220 [a.pv,b.pv]=some [(ek a b).pv]:=by
 rw[az g220];have h:=c218 (s:=[45,62]) (l:=[a,b]) (by simp[Sm]);simp at h;simp[g220,h,ek]
def iR(n:Nat):List Ty:=(List.range n).map fun i:Nat=>aX i
theorem jf{n:Nat}:(iR n).length=n:=by simp[iR]
theorem xn{n:Nat}:iR (n+1)=iR n++[aX n]:=by simp[iR,List.range_succ]
def R8(d:Dt):List AV:=[.pv (vI d.pos),.pv (.str d.name),.pv (.aq (d.params.map .str)),.pv (.aq (d.cons.map jI.pv))]
@[simp] theorem YW(d:Dt):R8 d=[.pv (vI d.pos),.pv (.str d.name),.pv (.aq (d.params.map .str)),.pv (.aq (d.cons.map jI.pv))]:=rfl
def pg(d:Dt):Ty:=⟨4,d.name,0,0,iR d.params.length⟩
theorem Xk{d:Dt}(hS:Sm d.params):∀(n i:Nat),d.params.length-i=n->i<=d.params.length->
   cl AP g221L0 ⟨[(1,.au 1 0),(2,.au 2 0),(3,.own ((iR i).map Ty.pv) 0),(4,.pv (vI i))],[(1,R8 d),(2,[.pv (vI 0),.pv (.str []),.pv (vI 0),.pv (vI 0),.own [] 1])],[],[i,0]⟩=
     some (.exit 0,⟨[(1,.au 1 0),(2,.au 2 0),(3,.own ((iR d.params.length).map Ty.pv) 0),(4,.pv (vI d.params.length)),(9,.pv (.bool false))],[(1,R8 d),(2,[.pv (vI 0),.pv (.str []),.pv (vI 0),.pv (vI 0),.own [] 1])],[],[d.params.length,0]⟩)
 |0,i,hn,hi=>by
  have:i=d.params.length:=by omega
  subst this;have hl:=jf (n:=d.params.length);rw[g221L0e];simp[g221B0,hl]
 |n+1,i,hn,hi=>by
  have hi:i<d.params.length:=(by omega);unfold Sm at hS;have hl:=jf (n:=i);have b:=jf (n:=i+1);have c:(i+1)*64<=140737488355328:=(by omega);have k:=c72 (n:=i);have a:=Xk hS n (i+1) (by omega) (by omega);rw[g221L0e]at a⊢;rw[xn]at a;simp[aX,hl]at a k;simp(disch:=omega)[-getElem?_pos,g221B0,hi,k,hl,c,ah];rw[g221L0e];simp[a,hl]
theorem c221{d:Dt}(hS:Sm d.params):(aC AP).p 221 [d.pv]=some [(pg d).pv]:=by
 have h:=Xk hS _ 0 rfl (by omega);have hl:=jf (n:=d.params.length);have k:=c62 (s:=d.name) (l:=iR d.params.length) (by unfold Sm at hS⊢;omega);rw[az g221];rw[g221L0e]at h;simp[iR]at h;simp[iR]at k;simp[g221,g221L0e,h,k,pg,iR]
def sQ(ps:List bD)(fs:List Ty)(t:Ty):Ty:=fs.foldr (fun f t=>ek (f.iQ ps) t) t
theorem xp{ps:List bD}{fs:List Ty}{k:Nat}{x t:Ty}(h:fs[k]?=some x):sQ ps (fs.take (k+1)) t=sQ ps (fs.take k) (ek (x.iQ ps) t):=by
 rw[zaI,h];simp[sQ]
def gm(ds:List Dt)(s:bD):Option Sc:=(gA ds s 0).bind fun q=>(ds[q.1]?).bind fun d=>(d.cons[q.2]?).map fun c=>⟨d.params.length,sQ d.params c.fields (pg d)⟩
theorem Xl{ds:List Dt}{i:Nat}{d:Dt}(hd:ds[i]?=some d)(hp:Sm d.params){fs:List Ty}(hS:Sm fs)(g:∀x∈fs,x.Ok)(hC:∀x∈fs,x.Cw):∀(k:Nat),k<=fs.length->∀t:Ty,
   cl AP g193L0 ⟨[(0,.pv (.aq (ds.map Dt.pv))),(4,.au 4 0),(6,.pv (vI i)),(9,.au 9 0),(10,.pv (.aq (fs.map Ty.pv))),(11,.pv (vI ((k:Int)-1)))],
     [(4,[.pv (vI 0),.pv (vI 0),.pv (.str []),.pv (vI 0),.pv (vI 0),.own [] 0]),(9,Ug t)],[],[0]⟩=
   some (.exit 0,⟨[(0,.pv (.aq (ds.map Dt.pv))),(4,.au 4 0),(6,.pv (vI i)),(9,.au 9 0),(10,.pv (.aq (fs.map Ty.pv))),(11,.pv (vI (-1))),(40,.pv (.bool false))],
     [(4,[.pv (vI 0),.pv (vI 0),.pv (.str []),.pv (vI 0),.pv (vI 0),.own [] 0]),(9,Ug (sQ d.params (fs.take k) t))],[],[0]⟩)
 |0,h,t=>by
  rw[g193L0e];simp[g193B0,sQ]
 |k+1,h,t=>by
  obtain⟨x,hx⟩:=aP (l:=fs) (i:=k) (by omega);unfold Sm at hS;have f:=Xl hd hp (fs:=fs) (by unfold Sm;exact hS) g hC k (by omega) (ek (x.iQ d.params) t);have e1:((k+1:Nat):Int)-1=k:=by omega
  have e:=c198 hp (g x (aN hx)) (hC x (aN hx));have c:=c69 (a:=x.iQ d.params) (b:=t);rw[g193L0e,e1,xp hx];simp[ek]at f e c;simp(disch:=omega)[-getElem?_pos,g193B0,hd,hx,e,c,ah,f,ek]
theorem c193{ds:List Dt}(hS:Sm ds)(f:∀d∈ds,Sm d.cons)(hp:∀d∈ds,Sm d.params)(hf:∀d∈ds,∀c∈d.cons,Sm c.fields∧(∀x∈c.fields,x.Ok)∧∀x∈c.fields,x.Cw){s:bD}:
   (aC AP).p 193 [.aq (ds.map Dt.pv),.str s]=some (ta (gm ds s)):=by
 have k:=c191 hS f (s:=s);rw[az g193];cases e:gA ds s 0 with
 |none=>
  rw[e]at k;simp[rF]at k;simp[g193,k,gm,e,ta,ee]
 |some q=>
  rw[e]at k;obtain⟨_,d,c,hd,a,_⟩:=kQ e;simp only[zbC]at hd;obtain⟨f1,f2,f3⟩:=hf d (aN hd) c (aN a);have b:=c221 (hp d (aN hd));have h:=Xl hd (hp d (aN hd)) f1 f2 f3 c.fields.length (zaj _) (pg d);rw[zbe]at h;rw[g193L0e]at h;unfold Sm at f1;simp[rF]at k;simp at b h;simp(disch:=omega)[-getElem?_pos,g193,k,hd,a,b,gm,e,ta,ah,g193L0e,h]
theorem Xm{d:Dt}{k m:Nat}(hm:m<1099511627776):∀(n i:Nat),m-i=n->i<=m->
   cl AP g192L0 ⟨[(4,.aI 0 0),(7,.pv (vI k)),(9,.aI 1 0),(10,.bh 2 5 m true),(34,.pv (vI m)),(35,.pv (vI i))],[],[some [.pv (vI 0),.pv (vI 0),.pv (.str []),.pv (vI 0),.pv (vI 0),.own [] 0],some (R8 d),some (cL (iR i) n)],[0]⟩=
     some (.exit 0,⟨[(4,.aI 0 0),(7,.pv (vI k)),(9,.aI 1 0),(10,.bh 2 5 m true),(34,.pv (vI m)),(35,.pv (vI m)),(36,.pv (.bool false))],[],[some [.pv (vI 0),.pv (vI 0),.pv (.str []),.pv (vI 0),.pv (vI 0),.own [] 0],some (R8 d),some (cL (iR m) 0)],[0]⟩)
 |0,i,hn,hi=>by
  have:i=m:=by omega
  subst this;have hN:=fun o t=>iy (aL:=o) (ts:=t) (cZ (d:=iR i) (m:=0))
  rw[g192L0e];simp[g192B0,hN]
 |n+1,i,hn,hi=>by
  have hi:i<m:=(by omega);have hN:=fun o t=>iy (aL:=o) (ts:=t) (cZ (d:=iR i) (m:=n+1))
  have b:=fun o t=>iy (aL:=o) (ts:=t) (cZ (d:=iR i++[aX i]) (m:=n));have c:=Xm (d:=d) (k:=k) hm n (i+1) (by omega) (by omega)
  have a:a0 (cL (iR i) (n+1)) (i*5) (aX i).cl=cL (iR i++[aX i]) n:=by
   have:=pQ (d:=iR i) (m:=n) (t:=aX i)
   rwa [jf]at this
  have e:i*5+5<=(cL (iR i) (n+1)).length:=(by rw[gP,jf];omega);rw[xn]at c;rw[g192L0e]at c⊢;simp only[aX]at b c;simp[Ty.cl,aX]at a;simp[b]at c;simp(disch:=omega)[-getElem?_pos,g192B0,hi,hN,a,e,ah,aX];rw[g192L0e];simp[c,b]
def z6(a:Nat):List AV:=[.pv (vI 0),.pv (vI 0),.pv (.str []),.pv (vI 0),.pv (vI 0),.own [] a]
def xq(d:Dt)(a:Nat)(t:Ty):Sh:=[some (z6 a),some (R8 d),none,some t.cl,none]
def nf:List (Nat×AV):=[(4,.aI 0 0),(9,.aI 1 0),(12,.aI 3 0)]
theorem YX{d:Dt}(hp:Sm d.params){x t:Ty}(hx:x.Ok){i a:Nat}{tk:aG}(g:tk[a]?=some 0):∃e,andThen (cl AP g192X1) (cl AP g192Y1) (norm (restrict [4,9,12,55,56] ⟨cN (cN nf 55 (.pv (vI i))) 56 (.pv x.pv),[],xq d a t,tk⟩))=
   some (.normal,⟨e,[],xq d 0 (ek (x.iQ d.params) t),[0]⟩):=by
 have f:=c197 hp hx;have c:=c220 (a:=x.iQ d.params) (b:=t);refine⟨[(4,.aI 0 0),(9,.aI 1 0),(12,.aI 3 0)],?_⟩;simp[ek]at f c;simp[-getElem?_pos,nf,xq,z6,o6,g192X1,g192Y1,g,Ty.cl,f,c,ek]
theorem Xn{d:Dt}(hp:Sm d.params){fs:List Ty}(m:∀x∈fs,x.Ok):∀(k:Nat),k<=fs.length->∀(e:List (Nat×AV))(a:Nat)(tk:aG)(t:Ty),tk[a]?=some 0->∃c b,
   hU (andThen (cl AP g192X1) (cl AP g192Y1)) [4,9,12,55,56] 55 56 5 true nf (((fs.take k).map Ty.pv).zipIdx.reverse) ⟨e,[],xq d a t,tk⟩=
     some (.normal,⟨nf,[],xq d c (sQ d.params (fs.take k) t),b⟩):=by
 intro k;induction k with
 |zero=>intro _ e a tk t _;exact⟨a,tk,by simp[sQ]⟩
 |succ k f=>
  intro n e a tk t j;obtain⟨x,hx⟩:=aP (l:=fs) (i:=k) (by omega);have g:=Nn (l:=fs.map Ty.pv) (k:=k) (x:=x.pv) (by simp[hx]);obtain⟨e1,h1⟩:=YX (t:=t) (i:=k) hp (m x (aN hx)) j;obtain⟨c,b,h⟩:=f (by omega) e1 0 [0] (ek (x.iQ d.params) t) rfl;rw[za9]at h;rw[za9,g,uZ jw,h1,xp hx];exact⟨c,b,by simp[h]⟩
theorem c219{l:List Ty}{sh:Sh}{ts o:aG}(hn:bl ts [] sh=(sh,o,ts)):(aC AP).i 219 [.pv (.aq (l.map Ty.pv))] sh ts=some ([.fn 236 [.aI sh.length 0]],sh++[some [.pv (.aq (l.map Ty.pv))]],ts):=by
 rw[aA g219];simp[g219,nJ,hn]
theorem c192{ds:List Dt}(hS:Sm ds)(y:∀d∈ds,Sm d.cons)(hp:∀d∈ds,Sm d.params)(hf:∀d∈ds,∀c∈d.cons,Sm c.fields∧(∀x∈c.fields,x.Ok)){s:bD}:
   (aC AP).p 192 [.aq (ds.map Dt.pv),.str s]=some (ta (gm ds s)):=by
 have k:=c190 hS y (s:=s);rw[az g192];cases e:gA ds s 0 with
 |none=>
  rw[e]at k;simp[rF]at k;simp[g192,k,gm,e,ta,ee]
 |some q=>
  rw[e]at k;obtain⟨_,d,c,hd,j,_⟩:=kQ e;simp only[zbC]at hd;obtain⟨f1,f2⟩:=hf d (aN hd) c (aN j);have i:=hp d (aN hd);have a:=i;unfold Sm at a f1;have h:=Xm (d:=d) (k:=q.2) (m:=d.params.length) a d.params.length 0 rfl (by omega);have w:cL (iR 0) d.params.length=(List.replicate d.params.length [.pv (vI 0),.pv (.str []),.pv (vI 0),.pv (vI 0),.pv (.aq [])]).flatten:=by simp[cL,Ng,iR]
  have hN:=fun o t=>iy (aL:=o) (ts:=t) (cZ (d:=iR 0) (m:=d.params.length));rw[w]at h hN;rw[g192L0e]at h;have b1:(d.params.length:Int)<=9223372036854775807:=by omega
  have A:(d.params.length:Int)*64<=140737488355328:=(by omega);have g:=m7 (d:=iR d.params.length);have b:=gP (d:=iR d.params.length) (m:=0);have u:=c218 (s:=d.name) (l:=iR d.params.length) (by unfold Sm;rw[jf];omega);rw[jf]at g b;have r:=c219 (l:=c.fields) (sh:=[some [.pv (vI 0),.pv (vI 0),.pv (.str []),.pv (vI 0),.pv (vI 0),.own [] 0],some (R8 d),none,some (pg d).cl]) (ts:=[0]) (o:=[1]) (by simp[Ty.cl]);have hw:=fun f live=>sg (f:=f) (gb:=236) (s:=4) (pi:=55) (px:=56) (sz:=5) (ag:=true) (live:=live) (env:=[(4,AV.aI 0 0),(9,AV.aI 1 0),(12,AV.aI 3 0),(54,AV.fn 236 [AV.aI 4 0])]) (mem:=[]) (sh:=[some (z6 1),some (R8 d),none,some (pg d).cl,some [.pv (.aq (c.fields.map Ty.pv))]]) (aa:=[1,0]) (l:=c.fields.map Ty.pv) rfl (by simp;omega)
  obtain⟨B,v,n⟩:=Xn i f2 c.fields.length (zaj _) [(4,AV.aI 0 0),(9,AV.aI 1 0),(12,AV.aI 3 0),(54,AV.fn 236 [AV.aI 4 0])] 1 [1,0] (pg d) rfl;rw[zbe]at n;have z:ir [4,9,12,55,56] [(4,AV.aI 0 0),(9,AV.aI 1 0),(12,AV.aI 3 0),(54,AV.fn 236 [AV.aI 4 0])]=nf:=by simp[ir,nf]
  simp[rF]at k;simp[pg]at u;simp[xq,z6,Ty.cl,pg,nf]at n;simp[z6,Ty.cl,pg]at r hw;simp[hN]at h;simp at g b;simp(disch:=omega)[-getElem?_pos,g192,k,hd,j,gm,e,ta,ah,b1,A,g192L0e,hN,h,g,b,u,r,hw,z,nf,n,pg]
def Z3(a b:List (PV×PV)):Sh:=[some [.fM a],some [.fM b]]
@[simp] theorem YY(a b:List (PV×PV)):Z3 a b=[some [.fM a],some [.fM b]]:=rfl
def YZ(c:jI):List AV:=[.pv (vI c.pos),.pv (.str c.name),.pv (.aq (c.fields.map Ty.pv))]
@[simp] theorem Yv(c:jI):YZ c=[.pv (vI c.pos),.pv (.str c.name),.pv (.aq (c.fields.map Ty.pv))]:=rfl
theorem N7{l:List bD}{t:Ty}(h:t.Ok):(t.iQ l).Ok:=by
 revert h
 refine Ty.cB (p:=fun t=>t.Ok->(t.iQ l).Ok) ?_ t;intro t a h;rw[Ty.vv];split
 ·exact bQ rfl
 ·refine⟨by have:=h.sm;unfold Sm at this⊢;simpa using this,?_⟩;intro x hx;simp only[zat]at hx;obtain⟨y,hy,rfl⟩:=hx;exact a y hy (h.cY y hy)
theorem UC{l:List bD}{t:Ty}(h:t.Cw):(t.iQ l).Cw:=by
 revert h
 refine Ty.cB (p:=fun t=>t.Cw->(t.iQ l).Cw) ?_ t;intro t a h;rw[Ty.vv];split
 ·exact⟨fun _=>rfl,by simp[aX]⟩
 ·refine⟨fun b=>by simp[h.bare b],?_⟩;intro x hx;simp only[zat]at hx;obtain⟨y,hy,rfl⟩:=hx;exact a y hy (h.cY y hy)
def fieldsOf(ds:List Dt)(s:bD)(as:List Ty):Option (List Ty):=(gA ds s 0).bind fun q=>(ds[q.1]?).bind fun d=>(d.cons[q.2]?).bind fun c=>if as.length=d.params.length then some (c.fields.map fun f=>(f.iQ d.params).fQ as)else none
def Cm(o:Option (List Ty)):List PV:=[.aq ((o.getD []).map Ty.pv),.bool o.isSome]
theorem Xo{ds:List Dt}{i:Nat}{d:Dt}(hd:ds[i]?=some d)(hp:Sm d.params){as:List Ty}(h:Sm as){fs:List Ty}(hS:Sm fs)(g:∀x∈fs,x.Ok)(hC:∀x∈fs,x.Cw)(k:∀x:Ty,x.Cw->x.Wb):∀(n j:Nat),fs.length-j=n->j<=fs.length->∀acc:List Ty,acc=(fs.take j).map (fun f=>(f.iQ d.params).fQ as)->
   cl AP g206L0 ⟨[(0,.pv (.aq (ds.map Dt.pv))),(2,.pv (.aq (as.map Ty.pv))),(8,.pv (vI i)),(11,.own (acc.map Ty.pv) 0),(42,.pv (.aq (fs.map Ty.pv))),(43,.pv (vI fs.length)),(44,.pv (vI j))],[],[],[acc.length]⟩=
     some (.exit 0,⟨[(0,.pv (.aq (ds.map Dt.pv))),(2,.pv (.aq (as.map Ty.pv))),(8,.pv (vI i)),(11,.own ((fs.map (fun f=>(f.iQ d.params).fQ as)).map Ty.pv) 0),(42,.pv (.aq (fs.map Ty.pv))),(43,.pv (vI fs.length)),(44,.pv (vI fs.length)),(45,.pv (.bool false))],[],[],[fs.length]⟩)
 |0,j,hn,hj,acc,a=>by
  have:j=fs.length:=by omega
  subst this;subst a;rw[g206L0e];simp[g206B0]
 |n+1,j,hn,hj,acc,a=>by
  have hj:j<fs.length:=(by omega);obtain⟨x,hx⟩:=aP hj;have e:=c197 hp (g x (aN hx));have c:=c47 h (t:=x.iQ d.params) (N7 (g x (aN hx))) (k _ (UC (hC x (aN hx))));unfold Sm at hS;have l:(acc.length+1)*64<=140737488355328:=by subst a;simp;omega
  have b:=Xo hd hp h (fs:=fs) (by unfold Sm;exact hS) g hC k n (j+1) (by omega) (by omega) (acc++[(x.iQ d.params).fQ as]) (by rw[zaI,hx,a];simp);generalize x.iQ d.params=u at e c b;generalize u.fQ as=v at c b;rw[g206L0e]at b⊢;simp at b e c;simp(disch:=omega)[-getElem?_pos,g206B0,hd,hx,hj,e,c,l,ah];rw[g206L0e];simp[b]
theorem Xp{ds:List Dt}{i:Nat}{d:Dt}(hd:ds[i]?=some d)(hp:Sm d.params){as:List Ty}(h:Sm as){fs:List Ty}(hS:Sm fs)(g:∀x∈fs,x.Ok)(hC:∀x∈fs,x.Cw):∀(n j:Nat),fs.length-j=n->j<=fs.length->∀acc:List Ty,acc=(fs.take j).map (fun f=>(f.iQ d.params).fQ as)->
   cl AP g207L0 ⟨[(0,.pv (.aq (ds.map Dt.pv))),(2,.pv (.aq (as.map Ty.pv))),(8,.pv (vI i)),(11,.own (acc.map Ty.pv) 0),(12,.pv (.aq (fs.map Ty.pv))),(13,.pv (vI j))],[],[],[acc.length]⟩=
     some (.exit 0,⟨[(0,.pv (.aq (ds.map Dt.pv))),(2,.pv (.aq (as.map Ty.pv))),(8,.pv (vI i)),(11,.own ((fs.map (fun f=>(f.iQ d.params).fQ as)).map Ty.pv) 0),(12,.pv (.aq (fs.map Ty.pv))),(13,.pv (vI fs.length)),(46,.pv (.bool false))],[],[],[fs.length]⟩)
 |0,j,hn,hj,acc,a=>by
  have:j=fs.length:=by omega
  subst this;subst a;rw[g207L0e];simp[g207B0]
 |n+1,j,hn,hj,acc,a=>by
  have hj:j<fs.length:=(by omega);obtain⟨x,hx⟩:=aP hj;have e:=c198 hp (g x (aN hx)) (hC x (aN hx));have c:=c48 h (t:=x.iQ d.params) (N7 (g x (aN hx)));unfold Sm at hS;have k:(acc.length+1)*64<=140737488355328:=by subst a;simp;omega
  have b:=Xp hd hp h (fs:=fs) (by unfold Sm;exact hS) g hC n (j+1) (by omega) (by omega) (acc++[(x.iQ d.params).fQ as]) (by rw[zaI,hx,a];simp);generalize x.iQ d.params=u at e c b;generalize u.fQ as=v at c b;rw[g207L0e]at b⊢;simp at b e c;simp(disch:=omega)[-getElem?_pos,g207B0,hd,hx,hj,e,c,k,ah];rw[g207L0e];simp[b]
theorem c206{ds:List Dt}(h:Small ds){as:List Ty}(b:Sm as)(f:∀x:Ty,x.Cw->x.Wb){s:bD}:(aC AP).p 206 [.aq (ds.map Dt.pv),.str s,.aq (as.map Ty.pv)]=some (Cm (fieldsOf ds s as)):=by
 have k:=c190 h.num h.dK (s:=s);rw[az g206];cases e:gA ds s 0 with
 |none=>
  rw[e]at k;simp[rF]at k;simp[g206,k,fieldsOf,e,Cm]
 |some q=>
  rw[e]at k;obtain⟨_,d,c,hd,a,_⟩:=kQ e;simp only[zbC]at hd;obtain⟨f1,f2,f3⟩:=h.R7 d (aN hd) c (aN a);have hl:=Xo hd (h.par d (aN hd)) b f1 f2 f3 f _ 0 rfl (by omega) [] rfl;rw[g206L0e]at hl;simp[rF]at k;by_cases e2:as.length=d.params.length
  ·simp at hl;simp(disch:=omega)[-getElem?_pos,g206,k,hd,a,fieldsOf,e,Cm,e2,g206L0e,hl]
  ·have e3:¬(as.length:Int)=d.params.length:=(by omega);simp(disch:=omega)[-getElem?_pos,g206,k,hd,a,fieldsOf,e,Cm,e2,e3]
theorem c207{ds:List Dt}(h:Small ds){as:List Ty}(b:Sm as){s:bD}:(aC AP).p 207 [.aq (ds.map Dt.pv),.str s,.aq (as.map Ty.pv)]=some (Cm (fieldsOf ds s as)):=by
 have k:=c191 h.num h.dK (s:=s);rw[az g207];cases e:gA ds s 0 with
 |none=>
  rw[e]at k;simp[rF]at k;simp[g207,k,fieldsOf,e,Cm]
 |some q=>
  rw[e]at k;obtain⟨_,d,c,hd,a,_⟩:=kQ e;simp only[zbC]at hd;obtain⟨f1,f2,f3⟩:=h.R7 d (aN hd) c (aN a);have hl:=Xp hd (h.par d (aN hd)) b f1 f2 f3 _ 0 rfl (by omega) [] rfl;rw[g207L0e]at hl;simp[rF]at k;by_cases e2:as.length=d.params.length
  ·simp at hl;simp(disch:=omega)[-getElem?_pos,g207,k,hd,a,fieldsOf,e,Cm,e2,g207L0e,hl]
  ·have e3:¬(as.length:Int)=d.params.length:=(by omega);simp(disch:=omega)[-getElem?_pos,g207,k,hd,a,fieldsOf,e,Cm,e2,e3]
theorem He{α:Type}{p:α->Bool}:∀{l:List α}{k:Nat},bA p l=some k->k<l.length
 |[],k,h=>by simp[bA]at h
 |a::r,k,h=>by
  simp only[bA]at h;split at h
  ·cases h;simp
  ·simp only[zac]at h;obtain⟨j,hj,rfl⟩:=h;have:=He hj;simp;omega
theorem UD{t:Ty}{ids vs:List Int}(hS:Sm vs)(hi:Sm ids):∀(n i:Nat),vs.length-i=n->i<=vs.length->∀acc:List As,acc.length<=i->
   cl AP g437L0 ⟨[(1,.pv (.aq (ids.map vI))),(2,.au 2 0),(4,.au 4 0),(5,.own (acc.map As.pv) 0),(10,.pv (.aq (vs.map vI))),(11,.pv (vI vs.length)),(12,.pv (vI i))],[(2,[.pv (vI t.kind),.pv (.str t.name),.pv (vI t.id),.pv (vI t.home),.pv (.aq (t.args.map Ty.pv))]),(4,[.pv (vI 0),.pv (vI 0),.pv (.str []),.pv (vI 0),.pv (vI 0),.own [] 1])],[],[acc.length,0]⟩=
     some (.exit 0,⟨[(1,.pv (.aq (ids.map vI))),(2,.au 2 0),(4,.au 4 0),(5,.own ((bF ids (vs.drop i) acc).map As.pv) 0),(10,.pv (.aq (vs.map vI))),(11,.pv (vI vs.length)),(12,.pv (vI vs.length)),(13,.pv (.bool false))],[(2,[.pv (vI t.kind),.pv (.str t.name),.pv (vI t.id),.pv (vI t.home),.pv (.aq (t.args.map Ty.pv))]),(4,[.pv (vI 0),.pv (vI 0),.pv (.str []),.pv (vI 0),.pv (vI 0),.own [] 1])],[],[(bF ids (vs.drop i) acc).length,0]⟩)
 |0,i,hn,a,acc,f=>by
  have:i=vs.length:=by omega
  subst this;rw[g437L0e];simp[g437B0,bF]
 |n+1,i,hn,a,acc,f=>by
  have a:i<vs.length:=(by omega);obtain⟨x,hx⟩:=aP a;unfold Sm at hS;have k:=c98 hi (y:=x);have d:(acc.length+1)*72<=140737488355328:=(by omega);rw[aV hx];by_cases e:x∈ids
  ·have b:=UD (t:=t) hS hi n (i+1) (by omega) (by omega) (acc++[⟨x,aX acc.length⟩]) (by simp;omega);have c:bF ids (x::vs.drop (i+1)) acc=bF ids (vs.drop (i+1)) (acc++[⟨x,aX acc.length⟩]):=(by simp[bF,e]);rw[c];rw[g437L0e]at b⊢;rw[zaG e]at k;simp[aX]at b;simp(disch:=omega)[-getElem?_pos,g437B0,hx,a,k,ah,d,aX];rw[g437L0e];simp[b,aX]
  ·have b:=UD (t:=t) hS hi n (i+1) (by omega) (by omega) acc (by omega);have c:bF ids (x::vs.drop (i+1)) acc=bF ids (vs.drop (i+1)) acc:=(by simp[bF,e]);rw[c];rw[g437L0e]at b⊢;rw[zaC e]at k;simp at b;simp(disch:=omega)[-getElem?_pos,g437B0,hx,a,k,ah];rw[g437L0e];simp[b]
theorem c437{S:List Ty}(hf:S.length<1099511627776){t:Ty}(c:Good S t){ids:List Int}(hi:Sm ids):(aC AP).p 437 [t.pv,.aq (ids.map vI)]=some [(dB ids t (vars [t])).pv]:=by
 have a:∀x∈[t],Good S x:=by simpa using c
 have e:=Ux hf (l:=[t]) (by simp[Sm]) a;have f:=vu hf a;have b:=UD (t:=t) f hi _ 0 rfl (by omega) [] (by simp);have hl:=o8 (ids:=ids) (vars [t]) [];have d:=c45 (s:=bF ids (vars [t]) []) (by unfold Sm at f⊢;simp at hl;omega) c.ok c.wf;rw[az g437];rw[g437L0e]at b;simp at e b d;simp[g437,e,g437L0e,b,d,dB]
theorem c438{t:Ty}:(aC AP).p 438 [t.pv]=some [(As.mk 0 t).pv]:=by
 rw[az g438];simp[g438]
def vr(x:Ty):List Int:=if x.kind=1 then[x.id]else[]
theorem Xq{vs:List Int}(b:Sm vs){t:Ty}:∀(n i:Nat),vs.length-i=n->i<=vs.length->∀acc:List As,acc.length<=i->
   cl AP g363L0 ⟨[(1,.au 1 0),(2,.au 2 0),(3,.pv (.aq (vs.map vI))),(4,.own (acc.map As.pv) 0),(5,.pv (vI i))],[(1,tC t),(2,zC 1)],[],[acc.length,0]⟩=
     some (.exit 0,⟨[(1,.au 1 0),(2,.au 2 0),(3,.pv (.aq (vs.map vI))),(4,.own ((acc++(vs.drop i).map fun v=>As.mk v bj).map As.pv) 0),(5,.pv (vI vs.length)),(12,.pv (.bool false))],[(1,tC t),(2,zC 1)],[],[(acc++(vs.drop i).map fun v=>(⟨v,bj⟩:As)).length,0]⟩)
 |0,i,hn,hi,acc,d=>by
  have:i=vs.length:=by omega
  subst this;rw[g363L0e];simp[g363B0,tC,zC]
 |n+1,i,hn,hi,acc,d=>by
  have hi:i<vs.length:=(by omega);obtain⟨x,hx⟩:=aP hi;unfold Sm at b;have c:(acc.length+1)*72<=140737488355328:=(by omega);have k:=c34;have a:=Xq (t:=t) b n (i+1) (by omega) (by omega) (acc++[⟨x,bj⟩]) (by simp;omega);rw[g363L0e]at a⊢;rw[aV hx];simp[tC,zC,bj]at a k;simp(disch:=omega)[-getElem?_pos,g363B0,tC,zC,bj,hx,hi,k,ah,c];rw[g363L0e];simp[a]
theorem c363{S:List Ty}(hf:S.length<1099511627776)(a:∀x∈S,x.Ok){t:Ty}(b:Good S t):(aC AP).p 363 [t.pv]=some [(t.sub ((vars [t]).map fun v=>As.mk v bj)).pv]:=by
 have d:=za hf a (l:=[t]) (by simp[Sm]) (by simpa using b);have e:=vu hf (l:=[t]) (by simpa using b);have h:=Xq (t:=t) e _ 0 rfl (by omega) [] (by simp);have c:=c46 (s:=(vars [t]).map fun v=>As.mk v bj) (by unfold Sm at*;simpa using e) b.ok;generalize vars [t]=vs at*;rw[g363L0e]at h;simp[tC,zC]at h;simp at d c;rw[az g363];simp[g363,d,c,g363L0e,h]
def gz(k:Nat):List AV:=[.pv (vI 0),.pv (vI 0),.pv (.str []),.pv (vI 0),.pv (vI 0),.own [] k]
inductive N8 (k:Int):Ex->Prop
 |mk {e:Ex}:e.kind≠k->(∀x∈e.ch,N8 k x)->N8 k e
theorem N8.h{k:Int}{e:Ex}(h:N8 k e):e.kind≠k:=by cases h;assumption
theorem N8.c{k:Int}{e:Ex}(h:N8 k e):∀x∈e.ch,N8 k x:=by cases h;assumption
theorem Xr{l:List Ex}(hl:l.length<=2000){k:Int}(e:∀x∈l,∃b,(aC AP).p 307 [x.pv,vI k]=some [.bool b]∧(b=false->N8 k x)):∀(n i:Nat),l.length-i=n->i<=l.length->
   cl AP g307L0 ⟨[(1,.pv (vI k)),(5,.pv (.aq (l.map Ex.pv))),(6,.pv (vI i))],[],[],[]⟩=some (.ret,⟨[(4,.pv (.bool true))],[],[],[]⟩)∨
   cl AP g307L0 ⟨[(1,.pv (vI k)),(5,.pv (.aq (l.map Ex.pv))),(6,.pv (vI i))],[],[],[]⟩=some (.exit 0,⟨[(1,.pv (vI k)),(5,.pv (.aq (l.map Ex.pv))),(6,.pv (vI l.length)),(16,.pv (.bool false))],[],[],[]⟩)∧∀x∈l.drop i,N8 k x
 |0,i,hn,hi=>by
  have:i=l.length:=by omega
  subst this;refine .inr ⟨?_,by simp⟩;rw[g307L0e];simp[g307B0]
 |n+1,i,hn,hi=>by
  have hi:i<l.length:=(by omega);obtain⟨x,hx⟩:=aP hi;obtain⟨b,c,g⟩:=e x (aN hx);have d:=sk.len x;have a:=sk.of x;cases b with
  |true=>
   refine .inl ?_;simp at c d a;rw[g307L0e];simp(disch:=omega)[-getElem?_pos,g307B0,hx,hi,c,d,a]
  |false=>
   have f:=Xr hl e n (i+1) (by omega) (by omega)
   have e1:cl AP g307L0 ⟨[(1,.pv (vI k)),(5,.pv (.aq (l.map Ex.pv))),(6,.pv (vI i))],[],[],[]⟩=cl AP g307L0 ⟨[(1,.pv (vI k)),(5,.pv (.aq (l.map Ex.pv))),(6,.pv (vI (i+1:Nat)))],[],[],[]⟩:=by
    conv=>lhs;rw[g307L0e]
    simp at c d a;simp(disch:=omega)[-getElem?_pos,g307B0,hx,hi,c,ah,d,a]
   rw[e1];refine f.imp_right fun h=>⟨h.1,?_⟩;rw[aV hx];intro y hy;simp only[zah]at hy;rcases hy with rfl|hy
   ·exact g rfl
   ·exact h.2 y hy
theorem c307k{e:Ex}(h:e.Ok)(k:Int):∃b,(aC AP).p 307 [e.pv,vI k]=some [.bool b]∧(b=false->N8 k e):=by
 induction h with
 | @mk e g j d f i c=>
  have a:=c145 (Ex.Ok.mk g j d f i);have hl:e.ch.length<=2000:=(by rw[Ex.gZ];omega);have L:=Xr hl c _ 0 rfl (by omega);rw[g307L0e,zar]at L;simp at L a;by_cases q:e.kind=k
  ·refine⟨true,?_,by simp⟩;rw[az g307];simp[g307,q]
  ·rcases L with L|L
   ·refine⟨true,?_,by simp⟩;rw[az g307];simp[g307,q,a,g307L0e,L]
   ·obtain⟨L,hn⟩:=L;refine⟨false,?_,fun _=>.mk q hn⟩;rw[az g307];simp[g307,q,a,g307L0e,L]
theorem c307{e:Ex}(h:e.Ok)(k:Int):∃b,(aC AP).p 307 [e.pv,vI k]=some [.bool b]:=by
 obtain⟨b,h,_⟩:=c307k h k;exact⟨b,h⟩
def dv(i:Nat):List Int->List As
 |[]=>[]
 |v::r=>⟨v,aQ i⟩::dv (i+1) r
theorem jg{i:Nat}{l:List Int}:(dv i l).length=l.length:=by
 induction l generalizing i with
 |nil=>rfl
 |cons a r b=>simp[dv,b]
theorem R9{l:List Ty}{vs:List Int}(b:Sm vs):∀(n i:Nat),vs.length-i=n->i<=vs.length->∀acc:List As,acc.length<=i->
   cl AP g395L0 ⟨[(0,.pv (.aq (l.map Ty.pv))),(3,.pv (.aq (vs.map vI))),(4,.own (acc.map As.pv) 0),(5,.pv (vI i))],[],[],[acc.length]⟩=
     some (.exit 0,⟨[(0,.pv (.aq (l.map Ty.pv))),(3,.pv (.aq (vs.map vI))),(4,.own ((acc++dv i (vs.drop i)).map As.pv) 0),(5,.pv (vI vs.length)),(13,.pv (.bool false))],[],[],[(acc++dv i (vs.drop i)).length]⟩)
 |0,i,hn,hi,acc,d=>by
  have:i=vs.length:=by omega
  subst this;rw[g395L0e];simp[g395B0,dv]
 |n+1,i,hn,hi,acc,d=>by
  have hi:i<vs.length:=(by omega);obtain⟨x,hx⟩:=aP hi;unfold Sm at b;have c:(acc.length+1)*72<=140737488355328:=(by omega);have k:=c63 (n:=i);have a:=R9 (l:=l) b n (i+1) (by omega) (by omega) (acc++[As.mk x (aQ i)]) (by simp;omega);rw[g395L0e]at a⊢;rw[aV hx];simp[aQ]at a k;simp(disch:=omega)[-getElem?_pos,g395B0,hx,hi,k,ah,c,dv,aQ];rw[g395L0e];simp[a]
theorem R_{l:List Ty}(hl:Sm l)(c:∀t∈l,t.Ok){s:List As}(hs:Sm s):∀(n i:Nat),l.length-i=n->i<=l.length->∀acc:List Ty,acc.length<=i->
   cl AP g395L1 ⟨[(0,.pv (.aq (l.map Ty.pv))),(4,.own (s.map As.pv) 0),(6,.own (acc.map Ty.pv) 1),(7,.pv (vI i))],[],[],[s.length,acc.length]⟩=
     some (.exit 2,⟨[(0,.pv (.aq (l.map Ty.pv))),(4,.own (s.map As.pv) 0),(6,.own ((acc++(l.drop i).map (Ty.sub s)).map Ty.pv) 1),(7,.pv (vI l.length)),(29,.pv (.bool false))],[],[],[s.length,(acc++(l.drop i).map (Ty.sub s)).length]⟩)
 |0,i,hn,hi,acc,e=>by
  have:i=l.length:=by omega
  subst this;rw[g395L1e];simp[g395B1]
 |n+1,i,hn,hi,acc,e=>by
  have hi:i<l.length:=(by omega);obtain⟨x,hx⟩:=aP hi;have b:=hl;unfold Sm at hl;have d:(acc.length+1)*64<=140737488355328:=(by omega);have k:=c46 hs (c x (aN hx));have a:=R_ b c hs n (i+1) (by omega) (by omega) (acc++[x.sub s]) (by simp;omega);rw[g395L1e]at a⊢;rw[aV hx];simp at a k;simp(disch:=omega)[-getElem?_pos,g395B1,hx,hi,k,ah,d];rw[g395L1e];simp[a]
theorem c395i{S:List Ty}(hf:S.length<1099511627776)(a:∀x∈S,x.Ok){l:List Ty}(hl:Sm l)(b:∀t∈l,Good S t):(aC AP).i 395 [.pv (.aq (l.map Ty.pv))] [] []=some ([.own ((l.map (Ty.sub (dv 0 (vars l)))).map Ty.pv) 0],[],[l.length]):=by
 have c:=za hf a hl b;have d:=vu hf b;have h1:=R9 (l:=l) d _ 0 rfl (by omega) [] (by simp);have hs:Sm (dv 0 (vars l)):=by unfold Sm at*;rw[jg];exact d
 have h2:=R_ hl (fun t e=>(b t e).ok) hs _ 0 rfl (by omega) [] (by simp);generalize vars l=vs at*;rw[g395L0e]at h1;rw[g395L1e]at h2;simp at h1 h2 c;generalize dv 0 vs=s at*;rw[aA g395];simp[g395,c,g395L0e,h1,g395L1e,h2]
theorem c377{s:List As}(hs:Sm s){c:Sc}(a:c.ty.Ok):(aC AP).p 377 [.aq (s.map As.pv),c.pv]=some [(As.mk c.id (c.ty.sub s)).pv]:=by
 have k:=c22 hs a;generalize c.ty.sub s=u at*;simp at k;rw[az g377];simp[g377,k]
theorem Sa{l:List En}(hl:Sm l){g:Ty}{b:PV}:∀(n i:Nat),l.length-i=n->i<=l.length->∀acc:List Ty,acc.length<=i->
   cl AP g376L0 ⟨[(2,.pv b),(3,.au 3 0),(6,.au 6 0),(8,.own (acc.map Ty.pv) 0),(9,.pv (.aq (l.map En.pv))),(10,.pv (vI i))],[(3,tC g),(6,[.own [] 1,.own [] 2])],[],[acc.length,0,0]⟩=
     some (.exit 0,⟨[(2,.pv b),(3,.au 3 0),(6,.au 6 0),(8,.own ((acc++(l.drop i).map fun x=>x.sc.ty).map Ty.pv) 0),(9,.pv (.aq (l.map En.pv))),(10,.pv (vI l.length)),(21,.pv (.bool false))],[(3,tC g),(6,[.own [] 1,.own [] 2])],[],[(acc++(l.drop i).map fun x=>x.sc.ty).length,0,0]⟩)
 |0,i,hn,hi,acc,d=>by
  have:i=l.length:=by omega
  subst this;rw[g376L0e];simp[g376B0,tC]
 |n+1,i,hn,hi,acc,d=>by
  have hi:i<l.length:=(by omega);obtain⟨x,hx⟩:=aP hi;unfold Sm at hl;have c:(acc.length+1)*64<=140737488355328:=(by omega);have a:=Sa (g:=g) (b:=b) hl n (i+1) (by omega) (by omega) (acc++[x.sc.ty]) (by simp;omega);rw[g376L0e]at a⊢;rw[aV hx];simp[tC]at a;simp(disch:=omega)[-getElem?_pos,g376B0,tC,hx,hi,ah,c];rw[g376L0e];simp[a]
def qk:Nat->c_
 |0=>⟨[],[]⟩
 |i+1=>bC (qk i) 1000000 false
theorem N9:∀i,ub (qk i).sl=i
 |0=>rfl
 |i+1=>by
  have:=N9 i;simp only[ub]at this;simp[qk,bC,ub,List.countP_append,this]
theorem p_{p:Vp}:∀i,Inv i (i*i+4*i) (eg p i) (qk i)
 |0=>⟨rfl,by simp[qk,ub],by simp[qk],by simp[qk],⟨fun _=>0,by rintro i v ⟨k,x,_,h,_⟩;simp[qk]at h⟩,by simp[qk],by simp[qk]⟩
 |i+1=>by
  have I:=p_ (p:=p) i;refine qS I 1000000 false ?_;rw[N9];have:(i+1)*(i+1)=i*i+2*i+1:=(by rw[zaD,zbX];omega);omega
theorem Sb{vs:List Int}(c:vs.length<=5000):∀(n i:Nat),vs.length-i=n->i<=vs.length->∀acc:List As,acc.length<=i->
   cl AP g376L1 ⟨[(2,.pv (.aq [])),(6,.au 6 0),(11,.pv (.aq (vs.map vI))),(12,.au 12 0),(13,.own (acc.map As.pv) 0),(14,.pv (vI i))],[(6,[.own [] 1,.own [] 2]),(12,sC (qk i))],[],[acc.length,0,0]⟩=
     some (.exit 2,⟨[(2,.pv (.aq [])),(6,.au 6 0),(11,.pv (.aq (vs.map vI))),(12,.au 12 0),(13,.own ((acc++dv i (vs.drop i)).map As.pv) 0),(14,.pv (vI vs.length)),(42,.pv (.bool false))],[(6,[.own [] 1,.own [] 2]),(12,sC (qk vs.length))],[],[(acc++dv i (vs.drop i)).length,0,0]⟩)
 |0,i,hn,hi,acc,e=>by
  have:i=vs.length:=by omega
  subst this;rw[g376L1e];simp[g376B1,sC,dv]
 |n+1,i,hn,hi,acc,e=>by
  have hi:i<vs.length:=(by omega);obtain⟨x,hx⟩:=aP hi;have d:(acc.length+1)*72<=140737488355328:=(by omega);have b:=c95 (s:=[]) (by simp[Sm]) (y:=x);have I:=p_ (p:=.all) i;have h:i*i<=5000*5000:=zcf (by omega) (by omega);have k:=c381 I.NZ (by omega) (by omega) 1000000 false;rw[I.len]at k;have a:=Sb c n (i+1) (by omega) (by omega) (acc++[As.mk x (aQ i)]) (by simp;omega);simp only[qk]at a;generalize bC (qk i) 1000000 false=f at*;generalize qk i=g at*;rw[g376L1e]at a⊢;rw[aV hx];simp[aQ]at k;simp[sC,aQ]at a;simp at b;simp(disch:=omega)[-getElem?_pos,g376B1,sC,hx,hi,k,b,ah,d,dv,aQ];rw[g376L1e];simp[a]
theorem c376{S:List Ty}(hf:S.length<=5000)(i:∀x∈S,x.Ok){g:Ty}(r:Good S g){l:List En}(hl:Sm l)(o:l.length<1000000)(s:∀x∈l,Good S x.sc.ty):∃vs:List Int,vs=vars (g::(a8 l).map fun x=>x.sc.ty)∧vs.length<=5000 ∧
   (aC AP).p 376 [g.pv,.aq (l.map En.pv),.aq []]=some [(qk vs.length).pv,.aq ((dv 0 vs).map As.pv)]:=by
 have n:=d6 l;have e:=c201 hl
 have a:∀t∈(g::(a8 l).map fun x=>x.sc.ty),Good S t:=by
  intro t c;simp only[zah,zat]at c;rcases c with rfl|⟨x,hx,rfl⟩
  ·exact r
  ·exact s x (cS l x hx)
 have hs:Sm (a8 l):=by unfold Sm at*;omega
 have h1:=Sa hs (g:=g) (b:=.aq []) _ 0 rfl (by omega) [] (by simp);have d:=za (by omega) i (l:=g::(a8 l).map fun x=>x.sc.ty) (by unfold Sm at*;simp;omega) a
 have j:(vars (g::(a8 l).map fun x=>x.sc.ty)).length<=5000:=by
  have c0:gQ (S.map Ty.id) []:=m9 (by simp;omega)
  have c1:=c0.fold (l:=(g::(a8 l).map fun x=>x.sc.ty).flatMap Ty.nodes) (by
   intro x hx q;simp only[zam]at hx;obtain⟨t,c,hx⟩:=hx;exact zcd ((a t c).sub x (nN (a t c).wf x hx q)))
  have:=gv c1.nodup c1.sub;rw[zaT]at this;unfold vars;omega
 refine⟨_,rfl,j,?_⟩;generalize vars (g::(a8 l).map fun x=>x.sc.ty)=vs at*;have h2:=Sb j _ 0 rfl (by omega) [] (by simp);have f:=c388;have k:(1+(a8 l).length)*64<=140737488355328:=by omega
 rw[g376L0e]at h1;rw[g376L1e]at h2;generalize qk vs.length=u at*;simp[tC]at h1;simp[qk,sC]at h2;have h:=jw.head ((a8 l).map fun x=>x.sc.ty);generalize a8 l=E at*;simp at e d f h;rw[az g376];by_cases m:E=[]
 ·subst m;simp at h1 e d;simp(disch:=omega)[g376,e,g376L0e,h1,k,h,d,f,g376L1e,h2]
 ·simp(disch:=omega)[g376,e,g376L0e,h1,k,h,m,d,f,g376L1e,h2]
def mI(s:c_):Nat->c_
 |0=>s
 |i+1=>bC (mI s i) 1000000 false
theorem Se{s:List Sl}:ub s<=s.length:=List.countP_le_length
theorem nQ{p:Vp}{n M:Nat}{s:c_}(I:Inv n M (eg p n) s):∀i,Inv (n+i) (M+i*(2*(n+i)+4)) (eg p (n+i)) (mI s i)
 |0=>by simpa[mI]using I
 |i+1=>by
  have J:=nQ I i;have hu:ub (mI s i).sl<=n+i:=by have:=Se (s:=(mI s i).sl);rw[J.len]at this;exact this
  refine qS J 1000000 false ?_
  have:(i+1)*(2*(n+(i+1))+4)=i*(2*(n+i)+4)+i*2+(2*(n+(i+1))+4):=by
   rw[zaD,Nat.one_mul,show 2*(n+(i+1))+4=(2*(n+i)+4)+2 by omega,zbX]
  omega
def vw(c:Sc):List AV:=[.pv (vI c.id),.pv (vI c.ty.kind),.pv (.str c.ty.name),.pv (vI c.ty.id),.pv (vI c.ty.home),.pv (.aq (c.ty.args.map Ty.pv))]
theorem Sf{p:Vp}{n M:Nat}{s:c_}(I:Inv n M (eg p n) s){c:Sc}{K:Nat}(b:c.id=K)(hN:n+K<=10000)(h:M<=1000000){g:Ty}{p3:PV}{p4:PV}:∀(k i:Nat),K-i=k->i<=K->∀acc:List Ty,acc.length=i->
   cl AP g389L0 ⟨[(3,.pv p3),(4,.pv p4),(5,.au 5 0),(6,.au 6 0),(7,.au 7 0),(13,.own (acc.map Ty.pv) 0),(14,.pv (vI i))],[(5,sC (mI s i)),(6,vw c),(7,tC g)],[],[acc.length]⟩=
     some (.exit 0,⟨[(3,.pv p3),(4,.pv p4),(5,.au 5 0),(6,.au 6 0),(7,.au 7 0),(13,.own ((acc++(List.range' i (K-i)).map fun j=>aQ (n+j:Nat)).map Ty.pv) 0),(14,.pv (vI K)),(39,.pv (.bool false))],[(5,sC (mI s K)),(6,vw c),(7,tC g)],[],[K]⟩)
 |0,i,e,hi,acc,d=>by
  have:i=K:=by omega
  subst this;rw[g389L0e];simp[g389B0,sC,vw,tC,b,d]
 |k+1,i,e,hi,acc,d=>by
  have hi:i<K:=(by omega);have J:=nQ I i;have o:i*(2*(n+i)+4)<=10000*20004:=zcf (by omega) (by omega);have c1:=c381 J.NZ (by omega) (by omega) 1000000 false;rw[J.len]at c1;have a:=Sf I b hN h (g:=g) (p3:=p3) (p4:=p4) k (i+1) (by omega) (by omega) (acc++[aQ (n+i:Nat)]) (by simp;omega)
  have hr:List.range' i (K-i)=i::List.range' (i+1) (K-(i+1)):=by
   rw[show K-i=(K-(i+1))+1 by omega,zcp]
  have f:(acc.length+1)*64<=140737488355328:=(by omega);simp only[mI]at a;rw[hr];generalize bC (mI s i) 1000000 false=l at*;generalize mI s i=m at*;rw[g389L0e]at a⊢;simp[aQ]at c1;simp[sC,vw,tC,aQ,b]at a;simp(disch:=omega)[-getElem?_pos,g389B0,sC,vw,tC,b,hi,c1,ah,f,aQ];rw[g389L0e];simp[a]
def wt(t:Ty):Prop:=t.Ok∧t.Kw
theorem Si{s:c_}{x:Ty}(hx:x.Ok){ns:List Nat}(b:ns.length=x.args.length)(m:∀(i:Nat) a n,x.args[i]?=some a->ns[i]?=some n->∃u:Ty,(aC AP).p 373 [s.pv,a.pv]=some [u.pv]∧wt u∧u.nodes.length=n):∀(k i:Nat),x.args.length-i=k->i<=x.args.length->∀acc:List Ty,acc.length=i->(∀u∈acc,wt u)->(acc.flatMap Ty.nodes).length=(ns.take i).sum->∃us:List Ty,
   cl AP g373L0 ⟨[(2,.au 2 0),(3,.au 3 0),(4,.au 4 0),(5,.au 5 0),(6,.pv (vI i))],[(2,sC s),(3,tC x),(4,zC 0),(5,uC x acc 1)],[],[0,acc.length]⟩=
     some (.exit 0,⟨[(2,.au 2 0),(3,.au 3 0),(4,.au 4 0),(5,.au 5 0),(6,.pv (vI x.args.length)),(16,.pv (.bool false))],[(2,sC s),(3,tC x),(4,zC 0),(5,uC x us 1)],[],[0,us.length]⟩)∧us.length=x.args.length∧(∀u∈us,wt u)∧(us.flatMap Ty.nodes).length=ns.sum
 |0,i,o,hi,acc,j,hu,g=>by
  have:i=x.args.length:=by omega
  subst this;refine⟨acc,?_,j,hu,by rw[g,<-b,zbe]⟩;rw[g373L0e];simp[g373B0,sC,tC,zC,uC]
 |k+1,i,o,hi,acc,j,hu,g=>by
  have hi:i<x.args.length:=(by omega);obtain⟨a,c⟩:=aP hi;obtain⟨n,hn⟩:=aP (l:=ns) (i:=i) (by omega);have d:=hx.sm;unfold Sm at d;obtain⟨u,e,r,f⟩:=m i a n c hn
  obtain⟨us,h,h1,h2,h3⟩:=Si hx b m k (i+1) (by omega) (by omega) (acc++[u]) (by simp;omega) (by
   intro y hy;simp at hy;rcases hy with hy|rfl
   ·exact hu y hy
   ·exact r) (by rw[zaI,hn,zbU,zan,g];simp[f])
  refine⟨us,?_,h1,h2,h3⟩;have q:(acc.length+1)*64<=140737488355328:=by omega
  rw[g373L0e]at h ⊢;simp at e;simp[sC,tC,zC,uC]at h;simp(disch:=omega)[-getElem?_pos,g373B0,sC,tC,zC,uC,hi,c,ah,e,q];rw[g373L0e];simp[h]
theorem c373k{s:c_}(hs:Sm s.sl)(j:∀x∈s.sl,x.ty.Ok)(h:∀x∈s.sl,x.ty.Kw)(r:Nat):∀t:Ty,Tr s.sl t r->wt t->∃u:Ty,(aC AP).p 373 [s.pv,t.pv]=some [u.pv]∧wt u∧u.nodes.length=r:=by
 induction r using Nat.strongRecOn with
 |ind r f=>
  intro t g b;have k:=c386 hs (t:=t);have hw:(wk s.sl (s.sl.length+1) t).Ok:=m_ j b.1;have d:(wk s.sl (s.sl.length+1) t).Kw:=oA h b.2;obtain⟨ns,hn,hr⟩:=g.inv;unfold eK at hn
  obtain⟨us,e,h1,h2,h3⟩:=Si (s:=s) hw hn.1 (fun i a n hi c=>by
   have:=vi c;exact f n (by omega) a (hn.2 i a n hi c) ⟨hw.cY a (aN hi),d.cY a (aN hi)⟩) _ 0 rfl (by omega) [] rfl (by simp) rfl
  refine⟨⟨(wk s.sl (s.sl.length+1) t).kind,(wk s.sl (s.sl.length+1) t).name,(wk s.sl (s.sl.length+1) t).id,(wk s.sl (s.sl.length+1) t).home,us⟩,?_,⟨⟨by have:=hw.sm;unfold Sm at*;simp only;omega,fun y hy=>(h2 y hy).1⟩,.mk (fun q=>?_) d.nm fun y hy=>(h2 y hy).2⟩,by rw[Ty.aM];simp only[zax];omega⟩
  ·rw[az g373];rw[g373L0e]at e;generalize wk s.sl (s.sl.length+1) t=x at*;simp at k;simp[sC,tC,zC,uC]at e;simp[g373,k,g373L0e,e]
  ·have:=d.hd q;refine⟨this.1,?_⟩;rw[this.2]at h1;exact za6.1 h1
theorem UE:ca.Kw:=.bare rfl (by simp[ca]) (by simp[ca])
theorem c358k{s:c_}(hs:Sm s.sl)(d:∀x∈s.sl,x.ty.Ok)(g:∀x∈s.sl,x.ty.Kw){t:Ty}(c:wt t):∃(u:Ty)(b:Bool),(aC AP).p 358 [s.pv,t.pv]=some [u.pv,.bool b]∧wt u∧u.nodes.length<=4000:=by
 obtain⟨r,e,h1,h2,h3⟩:=c355 hs d (m:=4000) (by omega) c.1;simp at e;by_cases hr:r<=4000
 ·obtain⟨u,e2,hu,f⟩:=c373k hs d g r t (h3 hr) c;refine⟨u,true,?_,hu,by omega⟩;simp at e2;have a:¬(4000:Int)<r:=by omega
  rw[az g358];simp[g358,e,a,e2]
 ·refine⟨ca,false,?_,⟨bQ rfl,UE⟩,by rw[Ty.aM];simp[ca]⟩;have a:(4000:Int)<r:=by omega
  rw[az g358];simp[g358,e,a,ca]
theorem K9.kw{s:List Sl}(hs:∀x∈s,x.ty.Kw){t u:Ty}(h:K9 s t u):t.Kw->u.Kw:=by
 induction h with
 | @mk t u h1 h2 h3 h4 h5 _ d=>
  intro e;have w:(eK s t).Kw:=oA hs e;refine .mk (fun q=>?_) (by rw[h2];exact w.nm) fun x hx=>?_
  ·rw[h1]at q;obtain⟨a,b⟩:=w.hd q;exact⟨by rw[h1];exact a,za6.1 (by rw[h5,b];rfl)⟩
  ·obtain⟨i,hi⟩:=zbM hx;have hl:=(zaa.1 hi).1;obtain⟨b,c⟩:=aP (l:=(eK s t).args) (i:=i) (by omega);exact d i b x c hi (w.kd b (aN c))
theorem K9.vn{p:Vp}{s:List Sl}(hs:∀x∈s,x.bd=true->p.v x.ty){t u:Ty}(h:K9 s t u):p.v t->p.v u:=by
 induction h with
 | @mk t u h1 h2 h3 h4 h5 _ c=>
  intro d;have w:p.v (eK s t):=p7 hs d
  have:=p.node _ u.args w h5 fun x hx=>by
   obtain⟨i,hi⟩:=zbM hx;have hl:=(zaa.1 hi).1;obtain⟨b,a⟩:=aP (l:=(eK s t).args) (i:=i) (by omega);exact c i b x a hi (p.cY _ w b (aN a))
  rw[<-h1,<-h2,<-h3,<-h4]at this;have e:(⟨u.kind,u.name,u.id,u.home,u.args⟩:Ty)=u:=by cases u;rfl
  rwa [e]at this
theorem c358v{p:Vp}{s:c_}(hs:Sm s.sl)(f:∀x∈s.sl,x.ty.Ok)(d:∀x∈s.sl,x.ty.Kw)(hV:∀x∈s.sl,x.bd=true->p.v x.ty){t:Ty}(b:wt t)(c:p.v t){r:Nat}(hr:Tr s.sl t r)(a:r<=4000):∃u:Ty,(aC AP).p 358 [s.pv,t.pv]=some [u.pv,.bool true]∧(wt u∧p.v u)∧u.nodes.length<=4000:=by
 obtain⟨u,e,h1,h2,h3⟩:=c358y hs f b.1 hr a;exact⟨u,e,⟨⟨h1,h3.kw d b.2⟩,h3.vn hV c⟩,by omega⟩
def jh(n:Nat):Ty:=⟨4,[45,62],0,0,[aQ n,aQ (n+1:Nat)]⟩
theorem qb{n:Int}:(aQ n).Kw:=.bare rfl (by simp[aQ]) (by simp[aQ])
theorem mm{S:Sg}{n:Int}(h:n∈S):Fit S (aQ n):=⟨bQ rfl,qb,fun w a=>by rw[iZ (t:=aQ n) rfl a];exact h,S.p.var n⟩
theorem qc{p:Vp}{n:Nat}:Fit (eg p (n+2)) (jh n) where
 ok:=⟨by simp[jh,Sm],by intro x hx;simp[jh]at hx;rcases hx with rfl|rfl<;>exact bQ rfl⟩
 wf:=.mk (by simp[jh]) (by simp[jh]) (by intro x hx;simp[jh]at hx;rcases hx with rfl|rfl<;>exact qb)
 ig:=by
  intro w a;cases a with
  |var q=>simp[jh]at q
  |arg _ b a=>
   simp[jh]at b;rcases b with rfl|rfl
   ·exact(mm (S:=eg p (n+2)) (d8.2 (by omega))).ig w a
   ·exact(mm (S:=eg p (n+2)) (d8.2 (by omega))).ig w a
 vn:=p.arr _ _ (p.var _) (p.var _)
theorem zd{s:c_}{i:Nat}{v:Sl}(h:s.sl[i]?=some v):∀k,(mI s k).sl[i]?=some v
 |0=>h
 |k+1=>by
  have a:=zd h k;have hl:i<(mI s k).sl.length:=by obtain⟨h,_⟩:=zaa.1 a;exact h
  simp only[mI,bC];rw[zal hl];exact a
theorem F9{s:c_}{v:Int}:∀{k:Nat},nc (mI s k).sl v->nc s.sl v
 |0,h=>h
 |k+1,h=>by
  obtain⟨j,x,e,hx,a⟩:=h;simp only[mI,bC]at hx;by_cases hl:j<(mI s k).sl.length
  ·rw[zal hl]at hx;exact F9 (k:=k) ⟨j,x,e,hx,a⟩
  ·rw[zaL (by omega)]at hx
   have:j-(mI s k).sl.length=0:=by
    have:=(zaa.1 hx).1;simpa using this
   rw[this]at hx;simp at hx;subst hx;cases a
theorem UF{s:List Sl}{v:Int}(h:nc s v):v<s.length:=by
 obtain⟨k,x,e,hx,_⟩:=h;have:=(zaa.1 hx).1;omega
theorem QM{p:Vp}{n M:Nat}{s:c_}(I:Inv n M (eg p n) s){i:Nat}{v:Sl}(c:s.sl[i]?=some v)(hf:¬nc s.sl (i:Int)):
   Inv (n+2) (M+2*(2*(n+2)+4)) (eg p (n+2)) (gi (mI s 2) i v ⟨true,jh n,v.home,v.base⟩):=by
 have J:=nQ I 2;have h1:=zd c 2;have fi:¬nc (mI s 2).sl (i:Int):=fun h=>hf (F9 h)
 have hi:i<n:=by have:=(zaa.1 c).1;rw[I.len]at this;exact this
 refine (Cd J (t:=jh n) h1 fi Kp.refl (by omega) h1 (qc (p:=p)).ok (qc (p:=p)).wf (qc (p:=p)).vn (qc (p:=p)).ig ?_ rfl rfl).1
 rintro⟨w,a,hr⟩
 have hw:n<=w:=by
  cases a with
  |var q=>simp[jh]at q
  |arg _ d a=>
   simp[jh]at d;rcases d with rfl|rfl
   ·rw[iZ (t:=aQ n) rfl a];simp[aQ]
   ·have:=iZ (t:=aQ ((n:Int)+1)) rfl a;simp[aQ]at this;omega
 have b:¬nc (mI s 2).sl w:=fun h=>by
  have:=UF (F9 h);rw[I.len]at this;omega
 have:=pX hr b;omega
theorem Fit.bX{S S':Sg}{t:Ty}(h:Fit S t)(hS:∀w∈S,w∈S')(hp:S'.p=S.p:=by rfl):Fit S' t:=⟨h.ok,h.wf,fun w a=>hS w (h.ig w a),by rw[hp];exact h.vn⟩
theorem lE{p:Vp}{n m:Nat}(h:n<=m):∀w∈eg p n,w∈eg p m:=fun w hw=>by have:=d8.1 hw;exact d8.2 (by omega)
theorem Cn{s:List Sl}{t:Ty}{i:Nat}{x:Sl}(a:t.kind=1)(hi:t.id=i)(hx:s[i]?=some x)(b:x.bd=true):d7 s t=some x:=by
 unfold d7;rw[zak ⟨a,by omega⟩];have:t.id.toNat=i:=by omega
 rw[this,hx];simp[b]
theorem vz{s:List Sl}{t:Ty}(a:t.kind≠1):d7 s t=none:=by
 unfold d7;rw[zad fun h=>a h.1]
theorem Co{s:List Sl}{t:Ty}(h:d7 s t=none):eK s t=t:=by unfold eK wk;rw[h]
theorem Hf{s:List Sl}:∀(m:Nat)(t:Ty),d7 s (wk s m t)=none->wk s (m+1) t=wk s m t
 |0,t,h=>by unfold wk;rw[show d7 s t=none from h]
 |m+1,t,h=>by
  cases e:d7 s t with
  |none=>
   have h1:wk s (m+1) t=t:=(by unfold wk;rw[e]);have h2:wk s (m+1+1) t=t:=(by unfold wk;rw[e]);rw[h1,h2]
  |some x=>
   have h1:wk s (m+1) t=wk s m x.ty:=by conv=>lhs;unfold wk;rw[e]
   have h2:wk s (m+1+1) t=wk s (m+1) x.ty:=by conv=>lhs;unfold wk;rw[e]
   rw[h1]at h⊢;rw[h2];exact Hf m x.ty h
theorem Cp{s:List Sl}(a:CO s){t:Ty}{x:Sl}(h:d7 s t=some x):eK s t=eK s x.ty:=by
 have h1:eK s t=wk s s.length x.ty:=by unfold eK;conv=>lhs;unfold wk;rw[h]
 have h2:d7 s (wk s s.length x.ty)=none:=by rw[<-h1];exact lD a
 rw[h1];exact(Hf _ _ h2).symm
theorem F_{s s':List Sl}(X:Ext s s')(a:CO s'):∀(m:Nat)(t:Ty),eK s' (wk s m t)=eK s' t
 |0,t=>rfl
 |m+1,t=>by
  cases e:d7 s t with
  |none=>unfold wk;rw[e]
  |some x=>
   have h1:wk s (m+1) t=wk s m x.ty:=by conv=>lhs;unfold wk;rw[e]
   obtain⟨c,i,hi,hx,d⟩:=dL e;obtain⟨y,hy,b,f⟩:=X.bd i x hx d;rw[h1,F_ X a m x.ty,Cp a (Cn c hi hy b),f]
inductive Sp (s:List Sl):Ty->Ty->List Ty->Prop
 |nil {w:Ty}:Sp s w w []
 |snoc {w t a b:Ty} {l:List Ty}:Sp s w t l->(eK s t).kind=4->a∈(eK s t).args->b∈(eK s t).args->Sp s w b (l++[a])
theorem Sp.ext{s s':List Sl}(X:Ext s s')(i:CO s'){w t:Ty}{l:List Ty}(h:Sp s w t l):Sp s' w t l:=by
 induction h with
 |nil=>exact .nil
 | @snoc t a b l _ c f d g=>
  have e:eK s' t=eK s t:=by
   have h1:=F_ X i (s.length+1) t
   change eK s' (eK s t)=_ at h1
   rw[<-h1];exact Co (vz (by rw[c];decide))
  exact .snoc g (by rw[e];exact c) (by rw[e];exact f) (by rw[e];exact d)
theorem Tr.cY{s:List Sl}{t:Ty}{r:Nat}(h:Tr s t r){a:Ty}(c:a∈(eK s t).args):∃b,b<=r∧Tr s a b:=by
 obtain⟨ns,hT,e⟩:=h.inv;obtain⟨i,hi⟩:=zbM c;have hl:=(zaa.1 hi).1;obtain⟨n,hn⟩:=aP (l:=ns) (i:=i) (by rw[hT.1];exact hl);have:=vi hn;exact⟨n,by omega,hT.2 i a n hi hn⟩
theorem Sp.tr{s:List Sl}{w t:Ty}{l:List Ty}(h:Sp s w t l){r:Nat}(hr:Tr s w r):(∀a∈l,∃b,b<=r∧Tr s a b)∧∃b,b<=r∧Tr s t b:=by
 induction h with
 |nil=>exact⟨by simp,r,zaj _,hr⟩
 |snoc _ _ k j m=>
  obtain⟨h1,b,h2,h3⟩:=m;obtain⟨i,g,d⟩:=h3.cY k;obtain⟨f,e,c⟩:=h3.cY j;refine⟨?_,f,by omega,c⟩;intro y hy;simp only[zai,zaJ]at hy;rcases hy with hy|rfl
  ·exact h1 y hy
  ·exact⟨i,by omega,d⟩
theorem Hg(s:c_):∀i,Ext s.sl (mI s i).sl
 |0=>.refl _
 |i+1=>(Hg s i).trans ⟨by simp[mI,bC],fun k x hx a=>⟨x,by simp only[mI,bC];rw[zal (zaa.1 hx).1];exact hx,a,rfl⟩⟩
structure Xs(p:Vp)(m M:Nat)(s:c_)(t w g:Ty)(args:List Ty)(vs:List As):Prop where
 inv:Inv m M (eg p m) s
 sp:Sp s.sl w t args
 t:Fit (eg p m) t
 w:Fit (eg p m) w
 g:Fit (eg p m) g
 args:∀a∈args,Fit (eg p m) a
 vs:∀x∈vs,Fit (eg p m) x.ty
theorem Fit.wk{p:Vp}{m M:Nat}{s:c_}(I:Inv m M (eg p m) s){t:Ty}(h:Fit (eg p m) t):Fit (eg p m) (eK s.sl t):=⟨m_ I.ok h.ok,oA I.wf h.wf,ml (S:=(eg p m).ids) I.ig h.ig,p7 I.vn h.vn⟩
theorem c194a{a b:Ty}:(aC AP).p 194 [(Ty.mk 4 [45,62] 0 0 [a,b]).pv]=some [a.pv,b.pv,.bool true]:=by
 rw[az g194];simp[g194]
theorem c194f{S:Sg}{t:Ty}(d:Fit S t):∃(a b:Ty)(c:Bool),(aC AP).p 194 [t.pv]=some [a.pv,b.pv,.bool c]∧(c=true->t.kind=4∧Fit S a∧Fit S b∧a∈t.args∧b∈t.args):=by
 obtain⟨a,b,c,e,_,_,h⟩:=c194g d.ok;refine⟨a,b,c,e,?_⟩;intro k;have q:=h k;have j:t.kind=4:=by rw[q]
 have g:a∈t.args:=by rw[q];simp
 have f:b∈t.args:=by rw[q];simp
 have hn:t.kind≠1:=by rw[j];decide
 exact⟨j,⟨d.ok.cY a g,d.wf.cY a g,fun w i=>d.ig w (.arg hn g i),S.p.cY _ d.vn a g⟩,⟨d.ok.cY b f,d.wf.cY b f,fun w i=>d.ig w (.arg hn f i),S.p.cY _ d.vn b f⟩,g,f⟩
def ng(q:aG):Option (aR×St):=some (.ret,⟨[(10,.cQ []),(11,.cQ []),(12,.pv (.bool false))],[],[],q⟩)
def mF(vs:List As)(N:Nat)(s:c_)(g w t:Ty)(args:List Ty):St:=⟨[(3,.pv (.aq (vs.map As.pv))),(4,.pv (vI N)),(5,.au 5 0),(7,.au 7 0),(16,.au 16 0),(17,.au 17 0),(18,.own (args.map Ty.pv) 0)],[(5,sC s),(7,tC g),(16,tC w),(17,tC t)],[],[args.length]⟩
theorem Xt{p:Vp}{m M:Nat}{s:c_}{t w g:Ty}{args:List Ty}{vs:List As}(E:Xs p m M s t w g args vs)(hm:m<=30000)(hM:M<=10000000){N:Nat}(hl:args.length<N)(hN:N<=1000):
   (∃q,cl AP g389L1 (mF vs N s g w t args)=ng q)∨∃m' S s' t' d,m<=m'∧m'<=m+2∧S<=M+200000∧d.length=args.length+1∧Xs p m' S s' t' w g d vs∧cl AP g389L1 (mF vs N s g w t args)=cl AP g389L1 (mF vs N s' g w t' d):=by
 have D:=E.inv.len;have C:Sm s.sl:=by unfold Sm;omega
 have l:=c386 C (t:=t);have F:=E.t.wk E.inv;have fr:=lD E.inv.xj (t:=t)
 change (aC AP).p 386 [s.pv,t.pv]=some [(eK s.sl t).pv]at l
 have z:=E.sp;have a1:eK s.sl t=eK s.sl t:=rfl;generalize f:eK s.sl t=x at*;have Q:(args.length+1)*64<=140737488355328:=by omega
 have j:(args.length:Int)<N:=by omega
 have e:∀w∈eg p m,w∈eg p (m+2):=lE (by omega);by_cases k:x.kind=1
 ·have Yj:=d8.1 (F.ig _ (.var k));obtain⟨i,hi⟩:∃i:Nat,x.id=i:=⟨x.id.toNat,by omega⟩;have W:i<m:=(by omega);have n:i<s.sl.length:=(by omega);obtain⟨o,v⟩:=aP n;have fi:¬nc s.sl (i:Int):=(by rw[<-hi];exact gY k fr);cases r:o.base with
  |true=>
   left;obtain⟨a,b,c,u,h2⟩:=c194f F
   have Y:c=false:=by
    cases c with
    |false=>rfl
    |true=>have:=(h2 rfl).1;omega
   subst Y;simp[k,hi]at l u;rw[g389L1e];simp(disch:=omega)[-getElem?_pos,g389B1,mF,ng,sC,tC,j,l,k,hi,n,v,r,u]
  |false=>
   right;have J:=nQ E.inv 1;have hu:ub (mI s 1).sl<=m+1:=by have:=Se (s:=(mI s 1).sl);rw[J.len]at this;exact this
   have c1:=c381 E.inv.NZ (by omega) (by omega) 1000000 false;have c2:=c381 J.NZ (by omega) (by omega) 1000000 false;have J2:=nQ E.inv 2;have h2:=zd v 2;have B:=c393 J2.NZ (by omega) (by omega) h2 ⟨true,jh m,o.home,o.base⟩;have c3:=c69 (a:=aQ m) (b:=aQ (m+1:Nat));have R:=c194a (a:=aQ m) (b:=aQ (m+1:Nat));have I:=QM E.inv v fi;have e1:mI s 1=bC s 1000000 false:=rfl;have e2:mI s 2=bC (bC s 1000000 false) 1000000 false:=rfl;have G:(mI s 2).sl.length=m+2:=J2.len;rw[D]at c1;rw[J.len,e1]at c2;refine⟨m+2,M+200000,gi (mI s 2) i o ⟨true,jh m,o.home,o.base⟩,aQ (m+1:Nat),args++[aQ m],by omega,by omega,by omega,by simp,⟨I.bX (by omega) (fun _ h=>h),?_,mm (d8.2 (by omega)),E.w.bX e,E.g.bX e,?_,fun x hx=>(E.vs x hx).bX e⟩,?_⟩
   ·have X:Ext s.sl (gi (mI s 2) i o ⟨true,jh m,o.home,o.base⟩).sl:=(Hg s 2).trans (Ext.set h2 (.inl (pZ v fi)))
    have L:(gi (mI s 2) i o ⟨true,jh m,o.home,o.base⟩).sl[i]?=some ⟨true,jh m,o.home,o.base⟩:=by
     have:i<(mI s 2).sl.length:=by omega
     rw[bI,zaA,zak rfl,zak this]
    have O:d7 (gi (mI s 2) i o ⟨true,jh m,o.home,o.base⟩).sl x=some ⟨true,jh m,o.home,o.base⟩:=Cn k hi L rfl
    have P:eK (gi (mI s 2) i o ⟨true,jh m,o.home,o.base⟩).sl t=jh m:=by
     have h1:=F_ X I.xj (s.sl.length+1) t
     change eK _ (eK s.sl t)=_ at h1
     rw[f,Cp I.xj O]at h1;rw[<-h1];exact Co (vz (by simp[jh]))
    exact .snoc (z.ext X I.xj) (by rw[P];rfl) (by rw[P];simp[jh]) (by rw[P];simp[jh])
   ·intro a A;simp at A;rcases A with A|rfl
    ·exact(E.args a A).bX e
    ·exact mm (d8.2 (by omega))
   ·rw[e2]at B h2 G⊢;generalize gi (bC (bC s 1000000 false) 1000000 false) i o ⟨true,jh m,o.home,o.base⟩=s3 at*;generalize bC (bC s 1000000 false) 1000000 false=T at*;generalize bC s 1000000 false=s1 at*;have K:i<T.sl.length:=by omega
    simp[k,hi]at l;simp[aQ,r]at c1 c2 c3 B R;simp[jh,aQ]at B;conv=>lhs;rw[g389L1e]
    simp (disch:=omega) [-getElem?_pos,g389B1,mF,sC,tC,j,l,k,hi,n,v,r,c1,c2,h2,K,c3,B,R,aQ,Q]
 ·obtain⟨a,b,c,u,h2⟩:=c194f F;simp at l u;cases c with
  |false=>
   left;rw[g389L1e];simp(disch:=omega)[-getElem?_pos,g389B1,mF,ng,sC,tC,j,l,k,u]
  |true=>
   right;obtain⟨H,fa,Z,V,U⟩:=h2 rfl;refine⟨m,M,s,b,args++[a],by omega,by omega,by omega,by simp,⟨E.inv,.snoc z (by rw[f];exact H) (by rw[f];exact V) (by rw[f];exact U),Z,E.w,E.g,?_,E.vs⟩,?_⟩
   ·intro y hy;simp at hy;rcases hy with hy|rfl
    ·exact E.args y hy
    ·exact fa
   ·conv=>lhs;rw[g389L1e]
    simp (disch:=omega) [-getElem?_pos,g389B1,mF,sC,tC,j,l,k,u,Q]
theorem Sj{p:Vp}{vs:List As}{N:Nat}(hN:N<=1000){w g:Ty}:∀(k m M:Nat)(s:c_)(t:Ty)(args:List Ty),N-args.length=k->args.length<=N->Xs p m M s t w g args vs->m+2*k<=30000->M+200000*k<=10000000->
   (∃q,cl AP g389L1 (mF vs N s g w t args)=ng q)∨∃m' b s' t' a,m'<=30000∧b<=10000000∧a.length=N∧Xs p m' b s' t' w g a vs∧cl AP g389L1 (mF vs N s g w t args)=some (.exit 2,⟨[(3,.pv (.aq (vs.map As.pv))),(4,.pv (vI N)),(5,.au 5 0),(7,.au 7 0),(16,.au 16 0),(17,.au 17 0),(18,.own (a.map Ty.pv) 0),(59,.pv (.bool false))],[(5,sC s'),(7,tC g),(16,tC w),(17,tC t')],[],[a.length]⟩)
 |0,m,M,s,t,args,c,d,E,h1,h2=>by
  have hl:args.length=N:=(by omega);refine .inr ⟨m,M,s,t,args,by omega,by omega,hl,E,?_⟩;rw[g389L1e];simp[g389B1,mF,sC,tC,hl]
 |k+1,m,M,s,t,args,c,d,E,h1,h2=>by
  rcases Xt E (by omega) (by omega) (N:=N) (by omega) hN with h|⟨m',b,s',t',a,l,j,i,f,E',e⟩
  ·exact .inl h
  ·rw[e];exact Sj hN k m' b s' t' a (by omega) (by omega) E' (by omega) (by omega)
def KQ(u:Ty):Prop:=wt u∧u.nodes.length<=4000
theorem Sn{p:Vp}{m M:Nat}{s:c_}(I:Inv m M (eg p m) s)(hm:m<=1000000){vs:List As}(o:vs.length<=100000)(l:∀x∈vs,Fit (eg p m) x.ty){args:List Ty}:∀(k i:Nat),vs.length-i=k->i<=vs.length->∀acc:List Ty,acc.length=i->(∀u∈acc,KQ u∧p.v u)->
   (∃q,cl AP g389L2 ⟨[(3,.pv (.aq (vs.map As.pv))),(5,.au 5 0),(18,.own (args.map Ty.pv) 0),(29,.own (acc.map Ty.pv) 1),(30,.pv (vI i))],[(5,sC s)],[],[args.length,acc.length]⟩=ng q)∨
   ∃us:List Ty,us.length=vs.length∧(∀u∈us,KQ u∧p.v u)∧cl AP g389L2 ⟨[(3,.pv (.aq (vs.map As.pv))),(5,.au 5 0),(18,.own (args.map Ty.pv) 0),(29,.own (acc.map Ty.pv) 1),(30,.pv (vI i))],[(5,sC s)],[],[args.length,acc.length]⟩=
     some (.exit 4,⟨[(3,.pv (.aq (vs.map As.pv))),(5,.au 5 0),(18,.own (args.map Ty.pv) 0),(29,.own (us.map Ty.pv) 1),(30,.pv (vI vs.length)),(153,.pv (.bool false))],[(5,sC s)],[],[args.length,us.length]⟩)
 |0,i,t,hi,acc,j,hu=>by
  have:i=vs.length:=by omega
  subst this;refine .inr ⟨acc,j,hu,?_⟩;rw[g389L2e];simp[g389B2,sC]
 |k+1,i,t,hi,acc,j,hu=>by
  have hi:i<vs.length:=(by omega);obtain⟨x,hx⟩:=aP hi;have c:=l x (aN hx);have a:Sm s.sl:=(by unfold Sm;rw[I.len];omega);obtain⟨r,b,_,_,g⟩:=c355 a I.ok (m:=200) (by omega) c.ok;have w:(acc.length+1)*64<=140737488355328:=(by omega);by_cases hr:(200:Int)<r
  ·left;simp at b;rw[g389L2e];simp(disch:=omega)[-getElem?_pos,g389B2,ng,sC,hx,hi,b,hr]
  ·obtain⟨u,h,⟨f,d⟩,e⟩:=c358v a I.ok I.wf I.vn ⟨c.ok,c.wf⟩ c.vn (g (by omega)) (by omega)
   have n:=Sn I hm o l (args:=args) k (i+1) (by omega) (by omega) (acc++[u]) (by simp;omega) (by
    intro y hy;simp at hy;rcases hy with hy|rfl
    ·exact hu y hy
    ·exact⟨⟨f,e⟩,d⟩)
   have e1:cl AP g389L2 ⟨[(3,.pv (.aq (vs.map As.pv))),(5,.au 5 0),(18,.own (args.map Ty.pv) 0),(29,.own (acc.map Ty.pv) 1),(30,.pv (vI i))],[(5,sC s)],[],[args.length,acc.length]⟩=cl AP g389L2 ⟨[(3,.pv (.aq (vs.map As.pv))),(5,.au 5 0),(18,.own (args.map Ty.pv) 0),(29,.own ((acc++[u]).map Ty.pv) 1),(30,.pv (vI (i+1:Nat)))],[(5,sC s)],[],[args.length,(acc++[u]).length]⟩:=by
    simp at b h;conv=>lhs;rw[g389L2e]
    simp (disch:=omega) [-getElem?_pos,g389B2,sC,hx,hi,b,hr,h,w,ah]
   rw[e1];exact n
theorem So{p:Vp}{m M:Nat}{s:c_}(I:Inv m M (eg p m) s)(hm:m<=1000000){p3:PV}{args:List Ty}(t:args.length<=100000)(l:∀x∈args,Fit (eg p m) x∧∃r,r<=4000∧Tr s.sl x r){V:Nat}:∀(k i:Nat),args.length-i=k->i<=args.length->∀acc:List Ty,acc.length<=V+i->V<=100000->(∀u∈acc,KQ u∧p.v u)->
   ∃us:List Ty,us.length<=V+args.length∧(∀u∈us,KQ u∧p.v u)∧acc.length<=us.length∧cl AP g389L3 ⟨[(3,.pv p3),(5,.au 5 0),(18,.own (args.map Ty.pv) 0),(29,.own (acc.map Ty.pv) 1),(33,.pv (vI i))],[(5,sC s)],[],[args.length,acc.length]⟩=
     some (.exit 6,⟨[(3,.pv p3),(5,.au 5 0),(18,.own (args.map Ty.pv) 0),(29,.own (us.map Ty.pv) 1),(33,.pv (vI args.length)),(181,.pv (.bool false))],[(5,sC s)],[],[args.length,us.length]⟩)
 |0,i,w,hi,acc,j,hV,hu=>by
  have:i=args.length:=by omega
  subst this;refine⟨acc,j,hu,zaj _,?_⟩;rw[g389L3e];simp[g389B3,sC]
 |k+1,i,w,hi,acc,j,hV,hu=>by
  have hi:i<args.length:=(by omega);obtain⟨x,hx⟩:=aP hi;obtain⟨g,r,hr,f⟩:=l x (aN hx);have d:Sm s.sl:=(by unfold Sm;rw[I.len];omega);have z:(acc.length+1)*64<=140737488355328:=(by omega);obtain⟨u,h,⟨c,a⟩,b⟩:=c358v d I.ok I.wf I.vn ⟨g.ok,g.wf⟩ g.vn f hr
  obtain⟨us,q,o,n,e⟩:=So I hm t l (p3:=p3) (V:=V) k (i+1) (by omega) (by omega) (acc++[u]) (by simp;omega) hV (by
   intro y hy;simp at hy;rcases hy with hy|rfl
   ·exact hu y hy
   ·exact⟨⟨c,b⟩,a⟩)
  refine⟨us,q,o,by simp at n;omega,?_⟩;rw[g389L3e]at e⊢;simp[sC]at e;simp at h;simp(disch:=omega)[-getElem?_pos,g389B3,sC,hx,hi,h,z,ah];rw[g389L3e];simp[e]
theorem Hh{l:List Ty}{t:Ty}:∀w,fE (t.fQ l) w->fE t w∨∃x∈l,fE x w:=by
 refine Ty.cB (p:=fun t=>∀w,fE (t.fQ l) w->fE t w∨∃x∈l,fE x w) ?_ t;intro t c w h;rw[Ty.ko]at h;cases e:CR l t with
 |some x=>
  rw[e]at h;obtain⟨_,_,_,hx⟩:=kj e;exact .inr ⟨x,aN hx,h⟩
 |none=>
  rw[e]at h;simp only[zbj]at h;generalize hy:(Ty.mk t.kind t.name t.id t.home (t.args.map (Ty.fQ l)))=y at h;cases h with
  |var q=>subst hy;exact .inl (.var q)
  |arg q b d=>
   subst hy;simp only[zat]at b;obtain⟨a,b,rfl⟩:=b;rcases c a b _ d with h|h
   ·exact .inl (.arg q b h)
   ·exact .inr h
theorem Sq{sz τ:Nat}{l:List PV}{k:IntKind}{h:Int}(h0:0<=h)(h1:h<=l.length)(hs:a7 sz l=true):cX false sz true false false [.own l τ,.pv (.int k h)]=some (.pv (.aq (l.drop h.toNat))):=by
 simp[cX,db,dY,h0,h1,hs]
abbrev Mt:=List (Int×Ty)
def mo:Mt->Int->Option Ty
 |[],_=>none
 |(j,x)::r,i=>if i=j then some x else mo r i
def qT:Mt->Int->Ty->Mt
 |[],i,t=>[(i,t)]
 |(j,x)::r,i,t=>if i=j then(i,t)::r else(j,x)::qT r i t
def mp(m:Mt):List (PV×PV):=m.map fun a=>(vI a.1,a.2.pv)
theorem tv{i j:Int}{t:Ty}:∀{m:Mt},mo (qT m i t) j=if j=i then some t else mo m j
 |[]=>by simp[qT,mo]
 |(k,x)::r=>by
  have a:=tv (i:=i) (j:=j) (t:=t) (m:=r);simp only[qT,mo];by_cases e:i=k
  ·subst e;by_cases e2:j=i<;>simp[mo,e2]
  ·by_cases e2:j=i
   ·subst e2;simp[mo,e,a]
   ·have b:¬k=i:=fun h=>e h.symm;by_cases e3:j=k<;>simp[mo,e,b,e2,e3,a]
def F'(m:Mt):Prop:=∀i x,mo m i=some x->x.Ok
theorem F'.put{m:Mt}(h:F' m){t:Ty}(a:t.Ok){i:Int}:F' (qT m i t):=by
 intro j x hx;rw[tv]at hx;split at hx
 ·cases hx;exact a
 ·exact h j x hx
def Xu(p t:Ty):Bool:=decide (p.kind=t.kind) && decide (p.name=t.name) && decide (p.id=t.id) && decide (p.home=t.home) && decide (p.args.length=t.args.length)
def Y0:Ty:=⟨0,[],0,0,[]⟩
def iB(m:Mt)(n:Nat):List Ty:=(List.range n).map fun i:Nat=>(mo m i).getD Y0
theorem jL{m:Mt}{n:Nat}:(iB m n).length=n:=by simp[iB]
def rI:Option (List Ty)->List PV
 |some l=>[.aq (l.map Ty.pv),.bool true]
 |none=>[.aq [],.bool false]
def Sr(m:Mt)(n:Nat):List Bool:=(List.range n).map fun i:Nat=>(mo m i).isSome
theorem tw{m:Mt}{n:Nat}:(Sr m n).length=n:=by simp[Sr]
theorem qU{m:Mt}{n i:Nat}(h:i<n):(iB m n)[i]?=some ((mo m i).getD Y0):=by simp[iB,h]
theorem ze{m:Mt}{n i:Nat}(h:i<n):(Sr m n)[i]?=some (mo m i).isSome:=by simp[Sr,h]
theorem KR{m:Mt}{n i:Nat}{t:Ty}:iB (qT m i t) n=(iB m n).set i t:=by
 apply zb1
 intro j;by_cases hj:j<n
 ·rw[qU hj,zaA,tv];by_cases e:i=j
  ·subst e;simp[jL,hj]
  ·have a:¬(j:Int)=i:=(by omega);simp[e,a,qU hj]
 ·rw[zaV (by rw[jL];omega),zaV (by simp[jL];omega)]
theorem QN{m:Mt}{n i:Nat}{t:Ty}:Sr (qT m i t) n=(Sr m n).set i true:=by
 apply zb1
 intro j;by_cases hj:j<n
 ·rw[ze hj,zaA,tv];by_cases e:i=j
  ·subst e;simp[tw,hj]
  ·have a:¬(j:Int)=i:=(by omega);simp[e,a,ze hj]
 ·rw[zaV (by rw[tw];omega),zaV (by simp[tw];omega)]
theorem xr:∀{l:List Ty}{i:Nat},i<=l.length->(l.flatMap Ty.cl).take (i*5)=(l.take i).flatMap Ty.cl
 |_,0,_=>by simp
 |[],i+1,h=>by simp at h
 |a::r,i+1,h=>by
  have b:=xr (l:=r) (i:=i) (by simp at h;omega);have e:(i+1)*5=a.cl.length+i*5:=(by simp[Ty.cl];omega);rw[zas,zbT,zas,e,List.take_length_add_append,b]
theorem qV:∀{l:List Ty}{i:Nat},i<=l.length->(l.flatMap Ty.cl).drop (i*5)=(l.drop i).flatMap Ty.cl
 |_,0,_=>by simp
 |[],i+1,h=>by simp at h
 |a::r,i+1,h=>by
  have b:=qV (l:=r) (i:=i) (by simp at h;omega);have e:(i+1)*5=a.cl.length+i*5:=(by simp[Ty.cl];omega);rw[zas,zcF,e,List.drop_length_add_append,b]
theorem QO{l:List Ty}{i:Nat}{t:Ty}(h:i<l.length):a0 (cL l 0) (i*5) t.cl=cL (l.set i t) 0:=by
 have e0:∀l:List Ty,cL l 0=l.flatMap Ty.cl:=fun l=>by simp[cL]
 rw[aS,e0,e0,xr (by omega)];have e1:i*5+t.cl.length=(i+1)*5:=by simp[Ty.cl];omega
 rw[e1,qV (by omega),za2,zak h];simp
theorem QP{l:List Ty}{i:Nat}{x:Ty}(h:l[i]?=some x):((cL l 0).drop (i*5)).take 5=x.cl:=by
 have hi:i<l.length:=(zaa.1 h).1;have e0:cL l 0=l.flatMap Ty.cl:=by simp[cL]
 rw[e0,qV (by omega),aV h,zas];have:(5:Nat)=x.cl.length:=by simp[Ty.cl]
 rw[this,List.take_left]
mutual
noncomputable def Ty.rt(t:Ty)(m:Mt):Ty->Bool×Mt
 |⟨k,n,i,h,as⟩=>if k=2 then(match mo m i with|some x=>(decide (x=t),m)|none=>(true,qT m i t))else if Xu ⟨k,n,i,h,as⟩ t=true then Ty.Hi t.args m as else(false,m)
noncomputable def Ty.Hi(ts:List Ty)(m:Mt):List Ty->Bool×Mt
 |[]=>(true,m)
 |p::ps=>match ts with
  |[]=>(true,m)
  |t::ts=>if(Ty.rt t m p).1=true then Ty.Hi ts (Ty.rt t m p).2 ps else(false,(Ty.rt t m p).2)
end
theorem Ty.Ss(t:Ty)(m:Mt)(p:Ty):Ty.rt t m p=if p.kind=2 then(match mo m p.id with|some x=>(decide (x=t),m)|none=>(true,qT m p.id t))else if Xu p t=true then Ty.Hi t.args m p.args else(false,m):=by
 cases p;simp only[Ty.rt]
def CT(m:Mt)(n:Nat):List AV:=(Sr m n).map fun b=>.pv (.bool b)
theorem zh{m:Mt}{n:Nat}:(CT m n).length=n:=by simp[CT,tw]
theorem QQ{m:Mt}{n i:Nat}(h:i<n):(CT m n)[i]?=some (.pv (.bool (mo m i).isSome)):=by simp[CT,ze h]
theorem Ga{m:Mt}{n:Nat}:∀v∈CT m n,∃p,v=AV.pv p:=by
 intro v a;simp only[CT,zat]at a;obtain⟨b,_,rfl⟩:=a;exact⟨_,rfl⟩
theorem Cq{m:Mt}{n:Nat}:dE (CT m n)=false:=d5 Ga
theorem QR{m:Mt}{n i:Nat}{t:Ty}(h:i<n):a0 (CT m n) (i*1) [.pv (.bool true)]=CT (qT m i t) n:=by
 have hl:i<(CT m n).length:=by rw[zh];exact h
 rw[aS]
 have e:CT (qT m i t) n=(CT m n).set i (.pv (.bool true)):=by
  unfold CT;rw[QN,List.map_set]
 rw[e,za2,zak hl];simp
theorem QS{m:Mt}{n i:Nat}{t:Ty}(h:i<n):a0 (cL (iB m n) 0) (i*5) t.cl=cL (iB (qT m i t) n) 0:=by
 rw[KR];exact QO (by rw[jL];exact h)
def oN(m:Mt)(n:Nat):Sh:=[some (cL (iB m n) 0),some (CT m n)]
theorem eG{m:Mt}{n:Nat}:aT (oN m n):=aT.app (aT.one cZ) (aT.one Ga)
theorem Cr{m m':Mt}{n n':Nat}:(oN m' n').take (oN m n).length=oN m' n':=rfl
def QT(n:Nat)(p:Ty):Prop:=∀x∈p.nodes,x.kind=2->0<=x.id∧x.id<n
theorem QT.cY{n:Nat}{p:Ty}(h:QT n p):∀y∈p.args,QT n y:=by
 intro y hy x hx;refine h x ?_;rw[Ty.aM p];simp only[zah,zam];exact .inr ⟨y,hy,hx⟩
theorem N_:∀{ps ts:List Ty}{m:Mt},(∀p∈ps,∀t∈ts,∀m,F' m->F' (Ty.rt t m p).2)->F' m->F' (Ty.Hi ts m ps).2
 |[],ts,m,_,h=>by simpa[Ty.Hi]using h
 |p::ps,[],m,_,h=>by simpa[Ty.Hi]using h
 |p::ps,t::ts,m,hp,h=>by
  have h1:=hp p (by simp) t (by simp) m h;simp only[Ty.Hi];split
  ·exact N_ (fun q a u hu=>hp q (by simp[a]) u (by simp[hu])) h1
  ·exact h1
theorem Xv{p:Ty}:∀{t:Ty},t.Ok->∀m,F' m->F' (Ty.rt t m p).2:=by
 refine Ty.cB (p:=fun p=>∀{t:Ty},t.Ok->∀m,F' m->F' (Ty.rt t m p).2) ?_ p;intro p b t a m hm;rw[Ty.Ss];split
 ·split
  ·exact hm
  ·exact hm.put a
 ·split
  ·exact N_ (fun q c u hu m hm=>b q c (a.cY u hu) m hm) hm
  ·exact hm
theorem Xw{N:Nat}{p t:Ty}(hS:Sm t.args)(hl:p.args.length=t.args.length)(h:∀x∈p.args,∀y∈t.args,∀m,F' m->(aC AP).i 240 [.pv x.pv,.pv y.pv,.bh 0 5 N true,.bh 1 1 N false] (oN m N) []=some ([.pv (.bool (Ty.rt y m x).1)],oN (Ty.rt y m x).2 N,[]))
   (c:t.Ok):∀(n i:Nat),t.args.length-i=n->i<=t.args.length->∀m,F' m->
   cl AP g240L0 ⟨[(2,.bh 0 5 N true),(3,.bh 1 1 N false),(4,.au 4 0),(5,.au 5 0),(9,.pv (vI i))],[(4,[.pv (vI p.kind),.pv (.str p.name),.pv (vI p.id),.pv (vI p.home),.pv (.aq (p.args.map Ty.pv))]),(5,[.pv (vI t.kind),.pv (.str t.name),.pv (vI t.id),.pv (vI t.home),.pv (.aq (t.args.map Ty.pv))])],oN m N,[]⟩=
     if (Ty.Hi (t.args.drop i) m (p.args.drop i)).1=true then some (.exit 0,⟨[(2,.bh 0 5 N true),(3,.bh 1 1 N false),(4,.au 4 0),(5,.au 5 0),(9,.pv (vI t.args.length)),(80,.pv (.bool false))],[(4,[.pv (vI p.kind),.pv (.str p.name),.pv (vI p.id),.pv (vI p.home),.pv (.aq (p.args.map Ty.pv))]),(5,[.pv (vI t.kind),.pv (.str t.name),.pv (vI t.id),.pv (vI t.home),.pv (.aq (t.args.map Ty.pv))])],oN (Ty.Hi (t.args.drop i) m (p.args.drop i)).2 N,[]⟩)
     else some (.ret,⟨[(8,.pv (.bool false))],[],oN (Ty.Hi (t.args.drop i) m (p.args.drop i)).2 N,[]⟩)
 |0,i,hn,hi,m,hm=>by
  have:i=t.args.length:=by omega
  subst this;have e1:p.args.drop t.args.length=[]:=by rw[<-hl];simp
  have h1:=(eG (m:=m) (n:=N)).norm;rw[g240L0e,e1];simp[g240B0,Ty.Hi,h1,hl]
 |n+1,i,hn,hi,m,hm=>by
  have hi:i<t.args.length:=(by omega);obtain⟨y,hy⟩:=aP hi;obtain⟨x,hx⟩:=aP (l:=p.args) (i:=i) (by omega);have a:i<p.args.length:=(by omega);unfold Sm at hS;have h1:=(eG (m:=m) (n:=N)).norm;have h2:=(eG (m:=(Ty.rt y m x).2) (n:=N)).norm;have h3:=(eG (m:=(Ty.rt y m x).2) (n:=N)).shift;have k:=h x (aN hx) y (aN hy) m hm;have b:=Xw hS hl h c n (i+1) (by omega) (by omega) (Ty.rt y m x).2 (Xv (c.cY y (aN hy)) m hm);rw[g240L0e]at b⊢;rw[aV hx,aV hy];simp only[Ty.Hi];simp[h2]at k b;by_cases e:(Ty.rt y m x).1=true
  ·rw[e]at k;simp only[zak e];simp(disch:=omega)[-getElem?_pos,g240B0,hx,hy,hi,a,k,ah,h1,h2,h3];rw[g240L0e];simp[b,h2]
  ·have d:(Ty.rt y m x).1=false:=(by simpa using e);rw[d]at k;simp only[zad e];simp(disch:=omega)[-getElem?_pos,g240B0,hx,hy,hi,a,k,ah,h1,h2,h3]
theorem c240{N:Nat}(hN:N<1099511627776){p:Ty}:∀{t:Ty},t.Ok->QT N p->∀m,F' m->(aC AP).i 240 [.pv p.pv,.pv t.pv,.bh 0 5 N true,.bh 1 1 N false] (oN m N) []=some ([.pv (.bool (Ty.rt t m p).1)],oN (Ty.rt t m p).2 N,[]):=by
 refine Ty.cB (p:=fun p=>∀{t:Ty},t.Ok->QT N p->∀m,F' m->(aC AP).i 240 [.pv p.pv,.pv t.pv,.bh 0 5 N true,.bh 1 1 N false] (oN m N) []=some ([.pv (.bool (Ty.rt t m p).1)],oN (Ty.rt t m p).2 N,[])) ?_ p;intro p F t w D m hm;have h1:=(eG (m:=m) (n:=N)).norm;have h2:=(eG (m:=m) (n:=N)).shift;rw[aA g240,Ty.Ss];by_cases e2:p.kind=2
 ·obtain⟨i0,G⟩:=D p (by rw[Ty.aM];simp) e2;obtain⟨k,z,f⟩:=uT i0 G;have kl:=QQ (m:=m) f;have o:=zh (m:=m) (n:=N);have I:=gP (d:=iB m N) (m:=0);rw[jL]at I;have H:=qU (m:=m) f;have gl:=QP H;have g:k*5+5<=(cL (iB m N) 0).length:=by omega
  have r:k+1<=N:=f;rw[zak e2,z];cases hf:mo m k with
  |none=>
   rw[hf]at kl;have C:=QS (m:=m) (t:=t) f;have B:=QR (m:=m) (t:=t) f;have h3:=(eG (m:=qT m k t) (n:=N)).norm;simp[oN,Ty.cl]at h1 h2 h3 kl C B;simp(disch:=omega)[-getElem?_pos,g240,e2,z,f,r,oN,h1,h2,h3,kl,o,Cq,C,B,g]
  |some x=>
   rw[hf]at kl gl;have q:=c20 (a:=x) (b:=t) (hm _ _ hf);simp[oN,Ty.cl]at h1 h2 kl gl q;simp(disch:=omega)[-getElem?_pos,g240,e2,z,f,r,oN,h1,h2,kl,o,Cq,gl,g,q]
 ·rw[zad e2];by_cases e:Xu p t=true
  ·rw[zak e];simp[Xu]at e;obtain⟨⟨⟨⟨e1,c⟩,e3⟩,e4⟩,e5⟩:=e;have h:=Xw (N:=N) (p:=p) (t:=t) w.sm e5 (fun x hx y hy m hm=>F x hx (w.cY y hy) (D.cY x hx) m hm) w _ 0 rfl (by omega) m hm;have h3:=(eG (m:=(Ty.Hi t.args m p.args).2) (n:=N)).norm;rw[g240L0e]at h;have s:¬t.kind=2:=by rw[<-e1];exact e2
   simp[h1,e1,c,e3,e4]at h;cases E:(Ty.Hi t.args m p.args).1 with
   |true=>simp[E]at h;simp[g240,s,e1,c,e3,e4,e5,h1,h2,h3,Cr,g240L0e,h]
   |false=>simp[E]at h;simp[g240,s,e1,c,e3,e4,e5,h1,h2,h3,Cr,g240L0e,h]
  ·rw[zad e]
   have:¬(p.kind=t.kind∧p.name=t.name∧p.id=t.id∧p.home=t.home∧p.args.length=t.args.length):=by
    rintro⟨h1,h2,h3,h4,h5⟩;apply e;simp[Xu,h1,h2,h3,h4,h5]
   by_cases j:p.kind=t.kind
   ·have c:¬t.kind=2:=(by rw[<-j];exact e2);by_cases l:p.name=t.name
    ·by_cases u:p.id=t.id
     ·by_cases v:p.home=t.home
      ·have h5:¬p.args.length=t.args.length:=fun h5=>this ⟨j,l,u,v,h5⟩;have A:¬(p.args.length:Int)=t.args.length:=by omega
       simp[g240,c,j,l,u,v,A,h1,h2]
      ·simp[g240,c,j,l,u,v,h1,h2]
     ·simp[g240,c,j,l,u,h1,h2]
    ·simp[g240,c,j,l,h1,h2]
   ·simp[g240,e2,j,h1,h2]
theorem Su{n:Nat}:cL (iB [] n) 0=(List.replicate n [.pv (vI 0),.pv (.str []),.pv (vI 0),.pv (vI 0),.pv (.aq [])]).flatten:=by
 have e:iB [] n=List.replicate n Y0:=by
  exact List.eq_replicate_iff.2 ⟨by simp[iB],by intro b a;simp[iB,mo]at a;exact a.2.symm⟩
 rw[e];simp only[cL,List.replicate_zero,List.flatten_nil,zaM,List.flatMap_def,List.map_replicate];rfl
theorem ZG{n:Nat}:CT [] n=List.replicate n (.pv (.bool false)):=List.eq_replicate_iff.2 ⟨zh,by intro b a;simp[CT,Sr,mo]at a;exact a.2.symm⟩
theorem wu{s:List As}(hs:∀a∈s,a.ty.args=[]){t:Ty}(b:t.Wf):(t.sub s).nodes.length=t.nodes.length:=by
 revert b
 refine Ty.cB (p:=fun t=>t.Wf->(t.sub s).nodes.length=t.nodes.length) ?_ t;intro t d b;rw[Ty.sub_eq];by_cases e:t.kind=1
 ·rw[zak e];have g:=b.var e;cases hf:iH s t.id with
  |none=>rfl
  |some u=>
   obtain⟨a,f,rfl⟩:=fJ hf;rw[zbi,Ty.aM,Ty.aM t,hs a f,g];simp
 ·rw[zad e,Ty.aM,Ty.aM t];simp only[zax,List.flatMap_map]
  have key:∀(l:List Ty),(∀y∈l,y∈t.args)->(l.flatMap fun y=>(y.sub s).nodes).length=(l.flatMap Ty.nodes).length:=by
   intro l;induction l with
   |nil=>intro _;rfl
   |cons a r c=>
    intro hl;simp only[zas,zan];rw[d a (hl a (by simp)) (b.cY a (hl a (by simp))),c (fun y hy=>hl y (by simp[hy]))]
  rw[key t.args (fun _ h=>h)]
noncomputable def Oa(N:Nat)(p t:Ty):Option (List Ty):=if(Ty.rt t [] p).1=true then some (iB (Ty.rt t [] p).2 N)else none
theorem c238{N:Nat}(hN:N<1000000){p t:Ty}(g:t.Ok)(j:QT N p):(aC AP).p 238 [(As.mk N p).pv,t.pv]=some (rI (Oa N p t)):=by
 have k:=c240 (N:=N) (by omega) g j [] (by intro i x h;cases h);rw[az g238];unfold Oa;generalize hm:(Ty.rt t [] p).2=m at k⊢;have b:=m7 (d:=iB m N);have a:=gP (d:=iB m N) (m:=0);rw[jL]at b a;have h1:=(eG (m:=[]) (n:=N)).norm;have h2:=(eG (m:=m) (n:=N)).norm;have h3:=(eG (m:=m) (n:=N)).shift;have h4:=(aT.one (cZ (d:=iB [] N) (m:=0))).norm;have b1:(N:Int)<=9223372036854775807:=by omega
 have f:(N:Int)*64<=140737488355328:=by omega
 have c:(N:Int)<=140737488355328:=by omega
 have e0:oN [] N=[some ((List.replicate N [.pv (vI 0),.pv (.str []),.pv (vI 0),.pv (vI 0),.pv (.aq [])]).flatten),some (List.replicate N (.pv (.bool false)))]:=by unfold oN;rw[Su,ZG]
 rw[e0]at k h1;rw[Su]at h4;have h5:=(aT.one (Ga (m:=[]) (n:=N))).norm;rw[ZG]at h5;simp[oN]at b a k h1 h2 h3 h4 h5;cases e:(Ty.rt t [] p).1 with
 |true=>
  rw[e]at k;simp(disch:=omega)[g238,b1,f,c,h1,h2,h3,h4,h5,k,b,a,rI]
 |false=>
  rw[e]at k;simp(disch:=omega)[g238,b1,f,c,h1,h2,h3,h4,h5,k,rI]
def Hv(t:Ty):Prop:=t.kind=1∨t.kind=2∨t.kind=3∨t.kind=5∨(t.kind=4∧t.id=0∧t.home=0∧kZ t.name t.args.length=true)
instance:DecidablePred Hv:=fun t=>by unfold Hv;infer_instance
def Ty.Vn(t:Ty):Prop:=∀y∈t.nodes,Hv y
instance:DecidablePred Ty.Vn:=fun t=>by unfold Ty.Vn;infer_instance
theorem Cs{t:Ty}(h:Hv t)(hx:∀x∈t.args,x.Vn):t.Vn:=by
 intro y hy;rw[Ty.aM]at hy;simp only[zah,zam]at hy;rcases hy with rfl|⟨a,b,hy⟩
 ·exact h
 ·exact hx a b y hy
theorem Ty.Vn.hd{t:Ty}(h:t.Vn):Hv t:=h t (by rw[Ty.aM];simp)
theorem Ty.Vn.cY{t:Ty}(h:t.Vn):∀x∈t.args,x.Vn:=by
 intro x hx y hy;refine h y ?_;rw[Ty.aM];simp only[zah,zam];exact .inr ⟨x,hx,hy⟩
theorem Hj{t:Ty}{l:List Ty}(h:t.Vn)(hl:l.length=t.args.length)(hx:∀x∈l,x.Vn):(⟨t.kind,t.name,t.id,t.home,l⟩:Ty).Vn:=by
 refine Cs ?_ hx;have:=h.hd;unfold Hv at this⊢;simpa only[hl]using this
theorem Gb{a b:Ty}(d:a.Vn)(c:b.Vn):(⟨4,[45,62],0,0,[a,b]⟩:Ty).Vn:=Cs (by simp[Hv,kZ]) (by intro x hx;simp at hx;rcases hx with rfl|rfl<;>assumption)
theorem tz{t:Ty}(h:t.args=[])(a:t.kind=1∨t.kind=2∨t.kind=3∨t.kind=5):t.Vn:=Cs (by unfold Hv;omega) (by rw[h];simp)
theorem Ob(i:Int):(aQ i).Vn:=tz rfl (.inl rfl)
def Hk:Vp:=⟨Ty.Vn,fun _ h=>h.cY,fun _ _ h hl hx=>Hj h hl hx,Ob,fun _ _ b a=>Gb b a⟩
theorem Vp.sub(p:Vp){s:List As}(hs:∀i x,iH s i=some x->p.v x)(t:Ty):p.v t->p.v (t.sub s):=by
 refine Ty.cB (p:=fun t=>p.v t->p.v (t.sub s)) ?_ t;intro t c h;rw[Ty.sub_eq];split
 ·cases e:iH s t.id with
  |some x=>exact hs _ x e
  |none=>exact h
 ·refine p.node t _ h (by simp) ?_;intro x hx;simp only[zat]at hx;obtain⟨a,b,rfl⟩:=hx;exact c a b (p.cY t h a b)
theorem Vp.fQ(p:Vp){l:List Ty}(hl:∀x∈l,p.v x)(t:Ty):p.v t->p.v (t.fQ l):=by
 refine Ty.cB (p:=fun t=>p.v t->p.v (t.fQ l)) ?_ t;intro t c h;rw[Ty.ko];cases e:CR l t with
 |some x=>
  obtain⟨_,_,_,hx⟩:=kj e;exact hl x (aN hx)
 |none=>
  rw[zbj];refine p.node t _ h (by simp) ?_;intro x hx;simp only[zat]at hx;obtain⟨a,b,rfl⟩:=hx;exact c a b (p.cY t h a b)
def tD(dK:Bool)(s:bD):Prop:=s.length<=100∧cC ⟨if dK then 4 else 5,s,0,0,[]⟩=true
instance {b:Bool}{s:bD}:Decidable (tD b s):=by unfold tD;infer_instance
theorem zj:∀{l:List Int}{i:Nat}{v:Int}{x:Ty},iH (dv i l) v=some x->∃k:Nat,x=aQ k
 |[],i,v,x,h=>by simp[dv,iH]at h
 |a::r,i,v,x,h=>by
  simp only[dv,iH]at h;split at h
  ·cases h;exact⟨i,rfl⟩
  ·exact zj h
theorem xt{l:List Int}{i:Nat}:∀a∈dv i l,a.ty.args=[]:=by
 induction l generalizing i with
 |nil=>simp[dv]
 |cons v r c=>
  intro a b;simp only[dv,zah]at b;rcases b with rfl|b
  ·rfl
  ·exact c a b
theorem QU{l:List Int}{i:Nat}:∀a∈dv i l,a.ty.Ok:=fun a b=>bQ (xt a b)
theorem QV{l:List Int}{u:Ty}(h:KQ u):KQ (u.sub (dv 0 l)):=by
 refine⟨⟨uW QU h.1.1,?_⟩,?_⟩
 ·refine qQ (K:=KS) h.1.2 (fun k q _=>q) ?_ (.inl (by simp));intro i x hx;obtain⟨k,rfl⟩:=zj hx;exact qb
 ·rw[wu xt h.1.2.wf];exact h.2
theorem Oc{l:List Ty}{k:Int}(h:∀u∈l,KQ u):(l.flatMap (Ty.fw k)).length<=l.length*4000:=by
 induction l with
 |nil=>simp
 |cons a r b=>
  have h1:=(h a (by simp)).2;have h2:=nO (k:=k) (t:=a);have h3:=b fun u hu=>h u (by simp[hu])
  simp only[zas,zan,zax];omega
theorem c395k{l:List Ty}(hl:l.length<=1000000)(h:∀u∈l,KQ u):(aC AP).i 395 [.pv (.aq (l.map Ty.pv))] [] []=some ([.own ((l.map (Ty.sub (dv 0 (vars l)))).map Ty.pv) 0],[],[l.length]):=by
 have b:=Oc (k:=1) h;refine c395i (S:=l.flatMap (Ty.fw 1)) (by omega) ?_ (by unfold Sm;omega) ?_
 ·intro x hx;simp only[zam]at hx;obtain⟨u,_,hx⟩:=hx;exact bQ (lC x hx)
 ·intro t a;refine⟨(h t a).1.1,(h t a).1.2.wf,?_⟩;intro x hx;simp only[zam];exact⟨t,a,hx⟩
structure Yw(n M:Nat)(s:c_)(c:Sc)(K:Nat)(g:Ty)(vs:List As):Prop where
 inv:Inv n M (eg Hk n) s
 hn:n<=6000
 hm:M<=1000000
 id:c.id=K
 k:K<=100
 ok:c.ty.Ok
 kn:c.ty.Kn KV
 Od:QT K c.ty
 ig:∀w,fE c.ty w->w∈eg Hk n
 vn:c.ty.Vn
 g:Fit (eg Hk n) g
 Z4:∀x∈vs,Fit (eg Hk n) x.ty
 vl:vs.length<=5000
theorem c389{n M:Nat}{s:c_}{c:Sc}{K:Nat}{g:Ty}{vs:List As}(E:Yw n M s c K g vs){N:Nat}(hN:N<=10):∃(A z:List Ty)(b:Bool),
   (aC AP).p 389 [s.pv,c.pv,g.pv,.aq (vs.map As.pv),vI N]=some [.aq (A.map Ty.pv),.aq (z.map Ty.pv),.bool b]∧(∀u∈A++z,KQ u∧u.Vn)∧A.length<=6000∧z.length<=N:=by
 have h0:=Sf E.inv E.id (by have:=E.hn;have:=E.k;omega) (by have:=E.hm;omega) (g:=g) (p3:=.aq (vs.map As.pv)) (p4:=vI N) K 0 (by omega) (by omega) [] rfl;have I1:=nQ E.inv K;have a5:n+K<=6100:=by have:=E.hn;have:=E.k;omega
 have ad:M+K*(2*(n+K)+4)<=5000000:=by
  have:K*(2*(n+K)+4)<=100*12204:=zcf E.k (by omega);have:=E.hm;omega
 have e0:mI s 0=s:=rfl;rw[e0]at h0;have U:([]++(List.range' 0 (K-0)).map fun j=>aQ (n+j:Nat))=(List.range K).map fun j=>aQ (n+j:Nat):=by rw[za8,zbC,List.range_eq_range']
 rw[U]at h0
 have T:∀x∈(List.range K).map (fun j=>aQ (n+j:Nat)),∃j:Nat,j<K∧x=aQ (n+j:Nat):=by
  intro x hx;simp only[zat,List.mem_range]at hx;obtain⟨j,hj,rfl⟩:=hx;exact⟨j,hj,rfl⟩
 have ac:((List.range K).map (fun j=>aQ (n+j:Nat))).length=K:=by simp
 generalize (List.range K).map (fun j=>aQ (n+j:Nat))=f at*
 have v:∀x∈f,Fit (eg Hk (n+K)) x:=by
  intro x hx;obtain⟨j,hj,rfl⟩:=T x hx;exact mm (d8.2 (by omega))
 have C:=c48 (s:=f) (by unfold Sm;omega) E.ok;have mono:=lE (p:=Hk) (n:=n) (m:=n+K) (by omega)
 have W:Fit (eg Hk (n+K)) (c.ty.fQ f):=by
  refine⟨nd (fun x hx=>(v x hx).ok) E.ok,zc E.kn (by simp only[KV,KS];omega) (fun x hx=>(v x hx).wf) (fun y hy hk=>by have:=E.Od y hy hk;omega),?_,Hk.fQ (fun x hx=>(v x hx).vn) _ E.vn⟩;intro w ho;rcases Hh w ho with h|⟨x,hx,h⟩
  ·exact mono w (E.ig w h)
  ·exact(v x hx).ig w h
 have X:Xs Hk (n+K) (M+K*(2*(n+K)+4)) (mI s K) (c.ty.fQ f) (c.ty.fQ f) g [] vs:=⟨I1,.nil,W,W,E.g.bX mono,by simp,fun x hx=>(E.Z4 x hx).bX mono⟩;generalize c.ty.fQ f=w at*;generalize mI s K=s1 at*;have a4:c.pv=.agg [vI c.id,vI c.ty.kind,.str c.ty.name,vI c.ty.id,vI c.ty.home,.aq (c.ty.args.map Ty.pv)]:=rfl;have hK:=E.id;rw[g389L0e]at h0;simp[sC,vw,tC,hK]at h0 C
 have o:∀r,(aC AP).p 389 [s.pv,c.pv,g.pv,.aq (vs.map As.pv),vI N]=some [.aq [],.aq [],.bool false]->r=r->∃(A z:List Ty)(b:Bool),
     (aC AP).p 389 [s.pv,c.pv,g.pv,.aq (vs.map As.pv),vI N]=some [.aq (A.map Ty.pv),.aq (z.map Ty.pv),.bool b]∧(∀u∈A++z,KQ u∧u.Vn)∧A.length<=6000∧z.length<=N:=fun(_:Nat) h _=>⟨[],[],false,h,by simp,by simp,by simp⟩
 rcases Sj (vs:=vs) (N:=N) (by omega) N (n+K) _ s1 w [] (by simp) (by simp) X (by omega) (by omega)with⟨q,h1⟩|⟨m,M',O,L,args,hm,hM,Y1,E2,h1⟩
 ·refine o 0 ?_ rfl;rw[g389L1e]at h1;simp[mF,ng,sC,tC]at h1;rw[az g389];simp[g389,hK,g389L0e,h0,C,g389L1e,h1]
 ·have a3:=E2.inv.len;have R:Sm O.sl:=(by unfold Sm;omega);have B:=c386 R (t:=L);have F:=E2.t.wk E2.inv
  change (aC AP).p 386 [O.pv,L.pv]=some [(eK O.sl L).pv]at B
  generalize eK O.sl L=x at*;obtain⟨a,b,cc,D,_⟩:=c194f F;rw[g389L1e]at h1;simp[mF,sC,tC]at h1 B D;cases cc with
  |true=>
   refine o 0 ?_ rfl;rw[az g389];simp[g389,hK,g389L0e,h0,C,g389L1e,h1,B,D]
  |false=>
   have nl:∀w∈eg Hk m,w<m:=fun w h=>(d8.1 h).2;obtain⟨s3,I,I3,X3⟩:=c394 (QJ (by omega) (by omega)) nl E2.inv F;obtain⟨s4,H,I4,X4⟩:=c394 (QJ (by omega) (by omega)) nl I3 E2.g;obtain⟨s5,e,G,I5,X5⟩:=c385 (QJ (by omega) (by omega)) I4 F E2.g;have J:Sm s5.sl:=by unfold Sm;rw[I5.len];omega
   obtain⟨r,P,_,_,Y⟩:=c355 J I5.ok (m:=200) (by omega) E2.w.ok;simp at I H G P;by_cases he:e=0
   ·subst he;by_cases hr:(200:Int)<r
    ·refine o 0 ?_ rfl;rw[az g389];simp[g389,hK,g389L0e,h0,C,g389L1e,h1,B,D,I,H,G,P,hr]
    ·rcases Sn I5 (by omega) (vs:=vs) (by have:=E.vl;omega) E2.vs (args:=args) _ 0 rfl (by omega) [] rfl (by simp)with⟨q,h2⟩|⟨us,a2,Q,h2⟩
     ·refine o 0 ?_ rfl;rw[g389L2e]at h2;simp[ng,sC]at h2;rw[az g389];simp[g389,hK,g389L0e,h0,C,g389L1e,h1,B,D,I,H,G,P,hr,g389L2e,h2]
     ·obtain⟨d,g1,g2,g3,h3⟩:=So I5 (by omega) (p3:=.aq (vs.map As.pv)) (args:=args) (by omega) (fun x hx=>⟨E2.args x hx,by
       have hw:=Y (by omega);obtain⟨r',h1,h2⟩:=((E2.sp.ext ((X3.trans X4).trans X5) I5.xj).tr hw).1 x hx;exact⟨r',by omega,h2⟩⟩) (V:=vs.length) _ 0 rfl (by omega) us (by omega) (by have:=E.vl;omega) Q
      have a1:=E.vl;have k8:=c395k (l:=d) (by omega) fun u hu=>(g2 u hu).1
      have ab:(d.map (Ty.sub (dv 0 (vars d)))).length=d.length:=by simp
      have S:∀u∈d.map (Ty.sub (dv 0 (vars d))),KQ u∧u.Vn:=by
       intro u hu;simp only[zat]at hu;obtain⟨y,hy,rfl⟩:=hu;exact⟨QV (g2 y hy).1,Hk.sub (fun i x h=>by obtain⟨k,rfl⟩:=zj h;exact Ob _) _ (g2 y hy).2⟩
      generalize d.map (Ty.sub (dv 0 (vars d)))=l at*;refine⟨l.take vs.length,l.drop vs.length,true,?_,by rw[zb4];exact S,by simp;omega,by simp;omega⟩;have q1:=WQ (sz:=5) (τ:=2) (l:=l.map Ty.pv) (k:=.i64) (h:=(vs.length:Int)) (by omega) (by simp;omega);have Z:=Sq (sz:=5) (τ:=2) (l:=l.map Ty.pv) (k:=.i64) (h:=(vs.length:Int)) (by omega) (by simp;omega) (jw.head l);rw[g389L2e]at h2;rw[g389L3e]at h3;simp[sC]at h2 h3;simp at k8 q1 Z;rw[az g389];simp[g389,hK,g389L0e,h0,C,g389L1e,h1,B,D,I,H,G,P,hr,g389L2e,h2,g389L3e,h3,k8,q1,Z]
   ·refine o 0 ?_ rfl;rw[az g389];simp[g389,hK,g389L0e,h0,C,g389L1e,h1,B,D,I,H,G,he]
structure Hd where
 name:bD
 dK:Bool
 args:List Ty
 types:List Ty
def Hd.pv(h:Hd):PV:=.agg [.str h.name,.bool h.dK,.aq (h.args.map Ty.pv),.aq (h.types.map Ty.pv)]
@[simp] theorem Hd.kO(h:Hd):h.pv=.agg [.str h.name,.bool h.dK,.aq (h.args.map Ty.pv),.aq (h.types.map Ty.pv)]:=rfl
theorem Oe:El Hd.pv 4 true:=⟨fun _=>rfl,fun _=>rfl⟩
@[simp] theorem Vs{l:List Hd}:a7 4 (l.map Hd.pv)=true:=Oe.head l
def vA(h:Hd):Prop:=h.args.length<=3∧(∀u∈h.args,KQ u∧u.Vn)∧tD h.dK h.name
def hC(nm:bD)(cn:Bool):List AV:=[.pv (.str nm),.pv (.bool cn),.pv (.aq []),.pv (.aq [])]
theorem UG{n M:Nat}{s:c_}{c:Sc}{K:Nat}{g:Ty}{vs:List As}(E:Yw n M s c K g vs){nm:bD}{cn:Bool}(j:tD cn nm):∀(k i:Nat),4-i=k->i<=4->∀acc:List Hd,acc.length<=i->(∀h∈acc,vA h)->
   ∃hs:List Hd,hs.length<=4∧(∀h∈hs,vA h)∧cl AP g378L0 ⟨[(3,.pv (.aq (vs.map As.pv))),(4,.pv (vI 3)),(6,.au 6 0),(7,.au 7 0),(8,.au 8 0),(11,.au 11 0),(13,.own (acc.map Hd.pv) 0),(14,.pv (vI i))],[(6,sC s),(7,vw c),(8,tC g),(11,hC nm cn)],[],[acc.length]⟩=
     some (.exit 0,⟨[(3,.pv (.aq (vs.map As.pv))),(4,.pv (vI 3)),(6,.au 6 0),(7,.au 7 0),(8,.au 8 0),(11,.au 11 0),(13,.own (hs.map Hd.pv) 0),(14,.pv (vI 4)),(21,.pv (.bool false))],[(6,sC s),(7,vw c),(8,tC g),(11,hC nm cn)],[],[hs.length]⟩)
 |0,i,x,hi,acc,w,t=>by
  have:i=4:=by omega
  subst this;refine⟨acc,w,t,?_⟩;rw[g378L0e];simp[g378B0,sC,vw,tC,hC]
 |k+1,i,x,hi,acc,w,t=>by
  have hi:i<4:=(by omega);have d:(i:Int)<=3:=(by omega);obtain⟨r,l,b,e,y,A,z⟩:=c389 E (N:=i) (by omega);simp at e;cases b with
  |false=>
   obtain⟨hs,h1,h2,a⟩:=UG E (nm:=nm) j k (i+1) (by omega) (by omega) acc (by omega) t;refine⟨hs,h1,h2,?_⟩;rw[g378L0e]at a ⊢;simp[sC,vw,tC,hC]at a;simp(disch:=omega)[-getElem?_pos,g378B0,sC,vw,tC,hC,d,e,ah];rw[g378L0e];simp[a]
  |true=>
   have q:r.length*64<=140737488355328:=(by omega);have p:l.length*64<=140737488355328:=(by omega);have f:(acc.length+1)*72<=140737488355328:=(by omega);have o:=jw.head r;have m:=jw.head l
   obtain⟨hs,h1,h2,a⟩:=UG E (nm:=nm) j k (i+1) (by omega) (by omega) (acc++[⟨nm,cn,l,r⟩]) (by simp;omega) (by
    intro h v;simp at v;rcases v with v|rfl
    ·exact t h v
    ·exact⟨by simp only;omega,fun u hu=>y u (by simp[hu]),j⟩)
   refine⟨hs,h1,h2,?_⟩;rw[g378L0e]at a ⊢;simp[sC,vw,tC,hC]at a;by_cases z1:r=[]
   ·by_cases z2:l=[]
    ·subst z1;subst z2;simp at e a;simp(disch:=omega)[-getElem?_pos,g378B0,sC,vw,tC,hC,d,e,ah,f];rw[g378L0e];simp[a]
    ·subst z1;simp at e a;simp(disch:=omega)[-getElem?_pos,g378B0,sC,vw,tC,hC,d,e,ah,p,f,m,z2];rw[g378L0e];simp[a]
   ·by_cases z2:l=[]
    ·subst z2;simp at e a;simp(disch:=omega)[-getElem?_pos,g378B0,sC,vw,tC,hC,d,e,ah,q,f,o,z1];rw[g378L0e];simp[a]
    ·simp(disch:=omega)[-getElem?_pos,g378B0,sC,vw,tC,hC,d,e,ah,q,p,f,o,m,z1,z2];rw[g378L0e];simp[a]
theorem c378{n M:Nat}{s:c_}{c:Sc}{K:Nat}{g:Ty}{vs:List As}(E:Yw n M s c K g vs){nm:bD}{cn:Bool}(a:tD cn nm):∃hs:List Hd,hs.length<=4∧(∀h∈hs,vA h)∧
   (aC AP).p 378 [s.pv,c.pv,g.pv,.aq (vs.map As.pv),vI 3,.agg [.str nm,.bool cn,.aq [],.aq []]]=some [.aq (hs.map Hd.pv)]:=by
 obtain⟨hs,h1,h2,e⟩:=UG E (nm:=nm) a _ 0 rfl (by omega) [] (by simp) (by simp);refine⟨hs,h1,h2,?_⟩;rw[az g378];rw[g378L0e]at e;simp[sC,vw,tC,hC]at e;simp[g378,g378L0e,e]
theorem QW{t:Ty}:∀y∈t.args,∀v∈y.nodes,v∈t.nodes:=by
 intro y hy v a;rw[Ty.aM];simp only[zah,zam];exact .inr ⟨y,hy,a⟩
theorem Kn.Ct{K:Int->Prop}(t:Ty):(∀y∈t.nodes,(y.kind≠4->K y.kind∧y.args=[])∧y.name.length<=100)->t.Kn K:=by
 refine Ty.cB (p:=fun t=>(∀y∈t.nodes,(y.kind≠4->K y.kind∧y.args=[])∧y.name.length<=100)->t.Kn K) ?_ t;intro t a h;refine .mk (h t (by rw[Ty.aM];simp)).1 (h t (by rw[Ty.aM];simp)).2 fun x hx=>a x hx fun y hy=>h y (QW x hx y hy)
theorem sq(t:Ty):(∀y∈t.nodes,y.args.length<=100)->t.Ok:=by
 refine Ty.cB (p:=fun t=>(∀y∈t.nodes,y.args.length<=100)->t.Ok) ?_ t;intro t a h;refine .mk (by have:=h t (by rw[Ty.aM];simp);unfold Sm;omega) fun x hx=>a x hx fun y hy=>h y (QW x hx y hy)
theorem zk{K:Int->Prop}{t:Ty}{w:Int}(h:fE t w):t.Kn K->¬K 1->False:=by
 induction h with
 | @var t q=>intro a h1;have:=(a.hd (by rw[q];decide)).1;rw[q]at this;exact h1 this
 |arg _ c _ b=>intro a h1;exact b (a.kd _ c) h1
structure bH(t:Ty):Prop where
 ok:t.Ok
 kn:t.Kn KG
 vn:t.Vn
structure lF(c:Sc):Prop where
 ok:c.ty.Ok
 kn:c.ty.Kn KC
 Od:∃K:Nat,c.id=K∧K<=100∧QT K c.ty
theorem bH.Xx{S:Sg}{t:Ty}(h:bH t)(a:S.p.v t):Fit S t:=⟨h.ok,h.kn.imp RY,fun _ b=>(zk b h.kn (by simp)).elim,a⟩
theorem bH.fit{n:Nat}{t:Ty}(h:bH t):Fit (oe n) t:=h.Xx trivial
theorem bH.cY{t:Ty}(h:bH t):∀x∈t.args,bH x:=fun x hx=>⟨h.ok.cY x hx,h.kn.kd x hx,h.vn.cY x hx⟩
theorem lF.ZH{c:Sc}(h:lF c)(b:c.ty.Vn){g:Ty}(a:bH g):∃K,Yw 0 0 (qk 0) c K g []:=by
 obtain⟨K,h1,h2,h3⟩:=h.Od;exact⟨K,⟨p_ 0,by omega,by omega,h1,h2,h.ok,h.kn.imp NW,h3,fun _ d=>(zk d h.kn (by simp)).elim,b,a.Xx a.vn,by simp,by simp⟩⟩
theorem bH.mono{t:Ty}(h:bH t):lF ⟨0,t⟩:=⟨h.ok,h.kn.imp Xa,0,rfl,by omega,fun y hy a=>by have:=(h.kn.nodes y hy (by rw[a];decide)).1;rw[a]at this;simp at this⟩
theorem qd:bj.Vn:=by decide
theorem tE:bH bj:=⟨bQ rfl,.bare rfl (by simp[bj]) (by simp[bj]),qd⟩
def QX(c:Sc):Bool:=c.ty.nodes.all fun y=>(decide (y.args.length<=100) && decide (y.name.length<=100)) && (decide (y.kind=4)|| (decide (y.kind=0)|| decide (y.kind=2)|| decide (y.kind=3)) && decide (y.args.length=0)) && (decide (y.kind≠2)|| decide (0<=y.id) && decide (y.id<c.id))
theorem nR{c:Sc}{K:Nat}(d:c.id=K)(hK:K<=100)(h:QX c=true):lF c:=by
 simp only[QX,zaq,zaf,zbh,zaW]at h;refine⟨sq _ fun y hy=>(h y hy).1.1.1,Kn.Ct _ fun y hy=>⟨fun a=>?_,(h y hy).1.1.2⟩,K,d,hK,fun y hy a=>?_⟩
 ·rcases(h y hy).1.2 with q|⟨q,b⟩
  ·exact absurd q a
  ·exact⟨by simp only[KC];omega,za6.1 b⟩
 ·rcases(h y hy).2 with q|q
  ·exact absurd a q
  ·omega
theorem QY:∀d∈bp,d.params.length<=100∧∀c∈d.cons,QX ⟨d.params.length,sQ d.params c.fields (pg d)⟩=true:=by decide +kernel
theorem Cu{s:bD}:∀{ds:List Dt}{n i:Nat}{d:Dt}{c:jI},ds[i]?=some d->c∈d.cons->c.name=s->∃q,gA ds s n=some q:=by
 intro ds;induction ds with
 |nil=>intro n i d c h;simp at h
 |cons a r e=>
  intro n i d c h b hs;unfold gA;split
  ·exact⟨_,rfl⟩
  ·cases i with
   |zero=>
    simp at h;subst h;rename_i hn;exfalso;have:=jJ.1 hn c b;simp[hs]at this
   |succ i=>exact e (by simpa using h) b hs
theorem zm:∀d∈bp,∀c∈d.cons,(sQ d.params c.fields (pg d)).Vn∧(∀f∈c.fields,(f.iQ d.params).Vn)∧tD true c.name:=by decide +kernel
theorem Of{ds:List Dt}(j:∀d∈ds,d∈bp){d:Dt}{I:Nat}(hd:ds[I]?=some d){c:jI}{i:Nat}(h:d.cons[i]?=some c):((gm ds c.name).getD ee).ty.Vn:=by
 obtain⟨q,g⟩:=Cu (n:=0) hd (aN h) rfl;obtain⟨_,f,c',a,b,_⟩:=kQ g;simp only[zbC]at a
 have e:gm ds c.name=some ⟨f.params.length,sQ f.params c'.fields (pg f)⟩:=by
  simp only[gm,g,za3,a,b,zaY]
 rw[e];exact(zm f (j f (aN a)) c' (aN b)).1
theorem qW{ds:List Dt}(f:∀d∈ds,d∈bp){s:bD}:lF ((gm ds s).getD ee):=by
 cases e:gm ds s with
 |none=>exact⟨bQ rfl,.bare rfl (by simp[ee]) (by simp[ee]),0,rfl,by omega,by intro y hy a;simp[ee,Ty.aM]at hy;rw[hy]at a;simp at a⟩
 |some sc=>
  simp only[gm,zaz,zac]at e;obtain⟨q,_,d,hd,c,b,rfl⟩:=e;obtain⟨h1,h2⟩:=QY d (f d (aN hd));exact nR (K:=d.params.length) rfl h1 (h2 c (aN b))
theorem bV:∀d∈bp,d.params.length<=8∧d.cons.length<=8∧∀c∈d.cons,c.fields.length<=8∧∀x∈c.fields,x.nodes.all (fun y=>(decide (y.args.length<=100) && decide (y.name.length<=100)) && (decide (y.kind=4)|| decide (y.kind=5) && decide (y.args.length=0)))=true:=by decide +kernel
theorem UH:∀d∈bp,d.cons.length<=3:=by decide +kernel
theorem Hl{d:Dt}(hd:d∈bp):∀c∈d.cons,Sm c.fields∧(∀x∈c.fields,x.Ok)∧∀x∈c.fields,x.Kn (·=5):=by
 intro c e;obtain⟨_,_,h⟩:=bV d hd;obtain⟨h1,h2⟩:=h c e;simp only[zaq,zaf,zbh,zaW]at h2;refine⟨by unfold Sm;omega,fun x hx=>sq _ fun y hy=>(h2 x hx y hy).1.1,fun x hx=>Kn.Ct _ fun y hy=>⟨fun b=>?_,(h2 x hx y hy).1.2⟩⟩;rcases(h2 x hx y hy).2 with q|⟨q,a⟩
 ·exact absurd q b
 ·exact⟨q,za6.1 a⟩
theorem qX:∀d∈bp,d.name.length<=100∧∀c∈d.cons,c.name.length<=100:=by decide +kernel
structure ni(ds:List Dt):Prop where
 all:∀d∈ds,d∈bp
 len:ds.length<=8
theorem ni.c193{ds:List Dt}(h:ni ds){s:bD}:(aC AP).p 193 [.aq (ds.map Dt.pv),.str s]=some (ta (gm ds s)):=
 Lw.c193 (by have:=h.len;unfold Sm;omega) (fun d hd=>by have:=(bV d (h.all d hd)).2.1;unfold Sm;omega) (fun d hd=>by have:=(bV d (h.all d hd)).1;unfold Sm;omega) (fun d hd c e=>by
  obtain⟨a,b,c2⟩:=Hl (h.all d hd) c e;exact⟨a,b,fun x hx=>(c2 x hx).cw⟩)
theorem QZ{l:List Ty}(h:∀t∈l,∃K:Int->Prop,t.Kn K∧¬K 1):vars l=[]:=by
 have:∀y∈l.flatMap Ty.nodes,y.kind≠1:=by
  intro y hy b;simp only[zam]at hy;obtain⟨t,d,hy⟩:=hy;obtain⟨K,hK,h1⟩:=h t d;have:=(hK.nodes y hy (by rw[b];decide)).1;rw[b]at this;exact h1 this
 unfold vars;generalize l.flatMap Ty.nodes=m at*;induction m with
 |nil=>rfl
 |cons a r c=>
  have:bW [] a=[]:=by simp[bW,this a (by simp)]
  rw[zaU,this];exact c fun y hy=>by rename_i h2;exact h2 y (by simp[hy])
theorem Og{k:Int}{t:Ty}:∀y∈t.fw k,y∈t.nodes∧y.kind=k:=by
 refine Ty.cB (p:=fun t=>∀y∈t.fw k,y∈t.nodes∧y.kind=k) ?_ t;intro t c y hy;rw[Ty.mi]at hy;rw[Ty.aM];split at hy
 ·rename_i q;simp at hy;subst hy;exact⟨by simp,q.1⟩
 ·simp only[zam]at hy;obtain⟨a,b,hy⟩:=hy;have:=c a b y hy;exact⟨by simp only[zah,zam];exact .inr ⟨a,b,this.1⟩,this.2⟩
theorem Hm{K:Int->Prop}{t:Ty}(h:t.Kn K)(h1:¬K 1)(c:t.Ok):Good [] t:=⟨c,h.wf,by
 intro y hy;obtain⟨a,b⟩:=Og y hy;have:=(h.nodes y a (by rw[b];decide)).1;rw[b]at this;exact absurd this h1⟩
theorem vB(t:Ty):t.sub []=t:=by
 refine Ty.cB (p:=fun t=>t.sub []=t) ?_ t;intro t a;rw[Ty.sub_eq];split
 ·simp[iH]
 ·have:t.args.map (Ty.sub [])=t.args:=by
   conv=>rhs;rw[<-List.map_id t.args]
   exact zcE fun x hx=>by simpa using a x hx
  rw[this];cases t;rfl
def zP:List AV:=[.pv (.aq []),.pv (.aq [])]
theorem Sv{g:Ty}(m:bH g){ds:List Dt}{E:List En}(p:Sm E)(o:∀x∈E,lF x.sc)(c:∀x∈E,x.sc.ty.Vn)(b:∀x∈E,tD false x.name){T:Nat}(hT:T<=1000000):∀(n i:Nat),E.length-i=n->i<=E.length->∀acc:List Hd,acc.length+4*n<=T->(∀h∈acc,vA h)->
   ∃hs:List Hd,hs.length<=T∧(∀h∈hs,vA h)∧cl AP g362L0 ⟨[(0,.pv (.aq (ds.map Dt.pv))),(4,.pv (vI 3)),(14,.au 14 0),(15,.pv (.aq [])),(16,.au 16 0),(17,.own (acc.map Hd.pv) 0),(18,.pv (.aq (E.map En.pv))),(19,.pv (vI i))],[(14,zP),(16,tC g)],[],[acc.length]⟩=
     some (.exit 0,⟨[(0,.pv (.aq (ds.map Dt.pv))),(4,.pv (vI 3)),(14,.au 14 0),(15,.pv (.aq [])),(16,.au 16 0),(17,.own (hs.map Hd.pv) 0),(18,.pv (.aq (E.map En.pv))),(19,.pv (vI E.length)),(51,.pv (.bool false))],[(14,zP),(16,tC g)],[],[hs.length]⟩)
 |0,i,hn,hi,acc,t,j=>by
  have:i=E.length:=by omega
  subst this;refine⟨acc,by omega,j,?_⟩;rw[g362L0e];simp[g362B0,zP,tC]
 |n+1,i,hn,hi,acc,t,j=>by
  have hi:i<E.length:=(by omega);obtain⟨x,hx⟩:=aP hi;have hs:=o x (aN hx);obtain⟨K,El⟩:=hs.ZH (c x (aN hx)) m;obtain⟨l,u,q,e⟩:=c378 El (nm:=x.name) (cn:=false) (b x (aN hx));have f:=c377 (s:=[]) (by simp[Sm]) hs.ok;rw[vB]at f
  obtain⟨hs,h1,h2,d⟩:=Sv m (ds:=ds) p o c b hT n (i+1) (by omega) (by omega) (acc++l) (by simp;omega) (by
   intro h a;simp at a;rcases a with a|a
   ·exact j h a
   ·exact q h a)
  refine⟨hs,h1,h2,?_⟩;unfold Sm at p;have r:(acc.length+l.length)*72<=140737488355328:=by omega
  have k:acc.length*72<=140737488355328:=(by omega);have a:=Oe.head l;rw[g362L0e]at d ⊢;simp[zP,tC]at d;simp[qk]at f e a;by_cases z:l=[]
  ·subst z;simp at e d;simp(disch:=omega)[-getElem?_pos,g362B0,zP,tC,hx,hi,f,e,k,ah];rw[g362L0e];simp[d]
  ·simp(disch:=omega)[-getElem?_pos,g362B0,zP,tC,hx,hi,f,e,r,a,z,ah];rw[g362L0e];simp[d]
theorem Sw{g:Ty}(t:bH g){ds:List Dt}(b:ni ds){I:Nat}{d:Dt}(hd:ds[I]?=some d){T:Nat}(hT:T<=1000000):∀(n i:Nat),d.cons.length-i=n->i<=d.cons.length->∀acc:List Hd,acc.length+4*n<=T->(∀h∈acc,vA h)->
   ∃hs:List Hd,hs.length<=T∧(∀h∈hs,vA h)∧cl AP g362L2 ⟨[(0,.pv (.aq (ds.map Dt.pv))),(4,.pv (vI 3)),(14,.au 14 0),(15,.pv (.aq [])),(16,.au 16 0),(17,.own (acc.map Hd.pv) 0),(21,.pv (vI I)),(22,.pv (vI i))],[(14,zP),(16,tC g)],[],[acc.length]⟩=
     some (.exit 4,⟨[(0,.pv (.aq (ds.map Dt.pv))),(4,.pv (vI 3)),(14,.au 14 0),(15,.pv (.aq [])),(16,.au 16 0),(17,.own (hs.map Hd.pv) 0),(21,.pv (vI I)),(22,.pv (vI d.cons.length)),(88,.pv (.bool false))],[(14,zP),(16,tC g)],[],[hs.length]⟩)
 |0,i,hn,hi,acc,x,q=>by
  have:i=d.cons.length:=by omega
  subst this;refine⟨acc,by omega,q,?_⟩;have k:=(zaa.1 hd).1;rw[g362L2e];simp[-getElem?_pos,g362B2,zP,tC,hd,k]
 |n+1,i,hn,hi,acc,x,q=>by
  have hi:i<d.cons.length:=(by omega);have k:=(zaa.1 hd).1;obtain⟨c,j⟩:=aP hi;have m:=b.c193 (s:=c.name);have hs:=qW b.all (s:=c.name);have o:=Of b.all hd j;have v:=(bV d (b.all d (aN hd))).2.1;generalize p:(gm ds c.name).getD ee=sc at*;obtain⟨K,El⟩:=hs.ZH o t;obtain⟨l,y,u,f⟩:=c378 El (nm:=c.name) (cn:=true) (zm d (b.all d (aN hd)) c (aN j)).2.2
  obtain⟨hs,h1,h2,e⟩:=Sw t b hd hT n (i+1) (by omega) (by omega) (acc++l) (by simp;omega) (by
   intro h a;simp at a;rcases a with a|a
   ·exact q h a
   ·exact u h a)
  refine⟨hs,h1,h2,?_⟩;have w:(acc.length+l.length)*72<=140737488355328:=by omega
  have r:acc.length*72<=140737488355328:=(by omega);have a:=Oe.head l;rw[g362L2e]at e ⊢;simp[zP,tC]at e;simp[qk]at f a;simp[ta,p]at m;by_cases z:l=[]
  ·subst z;simp at f e;simp(disch:=omega)[-getElem?_pos,g362B2,zP,tC,hd,k,j,hi,m,f,r,ah];rw[g362L2e];simp[e]
  ·simp(disch:=omega)[-getElem?_pos,g362B2,zP,tC,hd,k,j,hi,m,f,w,a,z,ah];rw[g362L2e];simp[e]
theorem Sx{g:Ty}(f:bH g){ds:List Dt}(a:ni ds){T:Nat}(hT:T<=1000000):∀(n i:Nat),ds.length-i=n->i<=ds.length->∀acc:List Hd,acc.length+32*n<=T->(∀h∈acc,vA h)->
   ∃hs:List Hd,hs.length<=T∧(∀h∈hs,vA h)∧cl AP g362L1 ⟨[(0,.pv (.aq (ds.map Dt.pv))),(4,.pv (vI 3)),(14,.au 14 0),(15,.pv (.aq [])),(16,.au 16 0),(17,.own (acc.map Hd.pv) 0),(21,.pv (vI i))],[(14,zP),(16,tC g)],[],[acc.length]⟩=
     some (.exit 2,⟨[(0,.pv (.aq (ds.map Dt.pv))),(4,.pv (vI 3)),(14,.au 14 0),(15,.pv (.aq [])),(16,.au 16 0),(17,.own (hs.map Hd.pv) 0),(21,.pv (vI ds.length)),(78,.pv (.bool false))],[(14,zP),(16,tC g)],[],[hs.length]⟩)
 |0,i,hn,hi,acc,m,b=>by
  have:i=ds.length:=by omega
  subst this;refine⟨acc,by omega,b,?_⟩;rw[g362L1e];simp[g362B1,zP,tC]
 |n+1,i,hn,hi,acc,m,b=>by
  have hi:i<ds.length:=(by omega);obtain⟨d,hd⟩:=aP hi;have k:=(bV d (a.all d (aN hd))).2.1;obtain⟨l,o,j,e⟩:=Sw f a hd (T:=acc.length+32) (by omega) _ 0 rfl (by omega) acc (by omega) b;obtain⟨hs,h1,h2,c⟩:=Sx f a hT n (i+1) (by omega) (by omega) l (by omega) j;refine⟨hs,h1,h2,?_⟩;have hl:=a.len;rw[g362L1e]at c ⊢;rw[g362L2e]at e;simp[zP,tC]at c e;simp(disch:=omega)[-getElem?_pos,g362B1,zP,tC,hd,hi,ah];rw[g362L2e];simp(disch:=omega)[e,ah];rw[g362L1e];simp[c]
theorem c362{g:Ty}(e:bH g){ds:List Dt}(u:ni ds){l:List En}(hl:l.length<=10000)(n:∀x∈l,lF x.sc)(m:∀x∈l,x.sc.ty.Vn)(k:∀x∈l,tD false x.name):∃hs:List Hd,hs.length<=100000∧(∀h∈hs,vA h)∧
   (aC AP).p 362 [.aq (ds.map Dt.pv),.aq (l.map En.pv),g.pv,.aq [],vI 3]=some [.aq (hs.map Hd.pv)]:=by
 obtain⟨a,b,c,f,_⟩:=c194g e.ok;have y:=u.len;cases c with
 |true=>
  refine⟨[],by simp,by simp,?_⟩;simp at f;rw[az g362];simp[g362,f]
 |false=>
  have d:∀x∈a8 l,lF x.sc:=fun x hx=>n x (cS l x hx);have w:=d6 l
  obtain⟨vs,v,_,q⟩:=c376 (S:=[]) (by simp) (by simp) (Hm e.kn (by simp) e.ok) (l:=l) (by unfold Sm;omega) (by omega) (fun x hx=>Hm (n x hx).kn (by simp) (n x hx).ok)
  have j:vs=[]:=by
   rw[v];refine QZ ?_;intro t r;simp only[zah,zat]at r;rcases r with rfl|⟨x,hx,rfl⟩
   ·exact⟨KG,e.kn,by simp⟩
   ·exact⟨KC,(d x hx).kn,by simp⟩
  subst j;have i:=c46 (s:=[]) (by simp[Sm]) e.ok;rw[vB]at i;have o:=c201 (l:=l) (by unfold Sm;omega);obtain⟨o1,B,A,h1⟩:=Sv e (ds:=ds) (E:=a8 l) (by unfold Sm;omega) d (fun x hx=>m x (cS l x hx)) (fun x hx=>k x (cS l x hx)) (T:=40000) (by omega) _ 0 rfl (by omega) [] (by simp;omega) (by simp);obtain⟨o2,b1,z,h2⟩:=Sx e u (T:=100000) (by omega) _ 0 rfl (by omega) o1 (by omega) A;refine⟨o2,b1,z,?_⟩;rw[g362L0e]at h1;rw[g362L1e]at h2;generalize a8 l=E at*;simp[zP,tC]at h1 h2;simp at f i o;simp[qk,dv]at q;rw[az g362];simp[g362,f,q,i,o,g362L0e,h1,g362L1e,h2]
def Gc(d:Dt):List AV:=[.pv (vI d.pos),.pv (.str d.name),.pv (.aq (d.params.map .str)),.pv (.aq (d.cons.map jI.pv))]
structure Tape(L:List Int)(tm:Nat)(TP:Int->Sh):Prop where
 get:∀i,(TP i)[tm]?=some (some [.pv (.aq (L.map vI)),.pv (vI i)])
 set:∀i j,(TP i).set tm (some [.pv (.aq (L.map vI)),.pv (vI j)])=TP j
 quiet:∀i,aT (TP i)
theorem Tape.norm{L:List Int}{tm:Nat}{TP:Int->Sh}(h:Tape L tm TP):∀i aL ts,bl aL ts (TP i)=(TP i,aL,ts):=fun i=>(h.quiet i).norm
theorem Tape.shift{L:List Int}{tm:Nat}{TP:Int->Sh}(h:Tape L tm TP):∀i n,eP n (TP i)=TP i:=fun i=>(h.quiet i).shift
theorem Tape.take{L:List Int}{tm:Nat}{TP:Int->Sh}(h:Tape L tm TP):∀i j,(TP j).take (TP i).length=TP j:=by
 intro i j;refine zaw ?_;rw[<-h.set i j,zbG];exact zaj _
theorem Hn{L:List Int}{A B:Sh}(c:aT A)(b:aT B):Tape L A.length (fun i=>A++[some [.pv (.aq (L.map vI)),.pv (vI i)]]++B) where
 get:=fun i=>by simp
 set:=fun i j=>by simp[List.set_append]
 quiet:=fun i=>(c.app (aT.one (by intro v a;simp at a;rcases a with rfl|rfl<;>exact⟨_,rfl⟩))).app b
theorem vD{L:List Int}{tm:Nat}{TP:Int->Sh}(hT:Tape L tm TP)(g:Sm L){i:Nat}(hi:i<=L.length){n:Int}(h1:1<=n)(h2:n<4611686018427387904):
   ∃(r:Int)(j:Nat),(aC AP).i 68 [.aI tm 0,.pv (vI n)] (TP i) []=some ([.pv (vI r)],TP j,[])∧0<=r∧r<n∧j<=L.length:=by
 unfold Sm at g;have c:=hT.norm;have b:=hT.shift;have f:=hT.get;have a:=hT.set;have d:=hT.take;rw[aA g68];by_cases h:i<L.length
 ·obtain⟨x,hx⟩:=aP h;obtain⟨r,e,e1,e2⟩:=c26 (n:=x) h1 h2;refine⟨r,i+1,?_,e1,e2,h⟩;have h':¬L.length<=i:=by omega
  simp (disch:=omega) [-getElem?_pos,g68,h',ah,hx,e,c,b,f,a,d]
 ·have h':L.length<=i:=(by omega);refine⟨0,i,?_,by omega,by omega,hi⟩;simp[-getElem?_pos,g68,h',c,b,f,a,d]
theorem Xy{L:List Int}{tm:Nat}{TP:Int->Sh}(hT:Tape L tm TP)(h:Sm L){i:Nat}(hi:i<=L.length):∃(s:List UInt8)(j:Nat),(aC AP).i 175 [.aI tm 0] (TP i) []=some ([.pv (.str s)],TP j,[])∧s∈varNames∧j<=L.length:=by
 have b:=hT.norm;have a:=hT.shift;have c:=hT.take;obtain⟨k,j,e,g,f,hj⟩:=vD hT h hi (n:=8) (by omega) (by omega);obtain⟨m,rfl,hm⟩:=uT (n:=varNames.length) g (by simpa[varNames]using f);obtain⟨s,hs⟩:=aP hm;refine⟨s,j,?_,aN hs,hj⟩
 try simp[b,a,c]at e
 rw[aA g175]
 have d:([PV.str [120],.str [121],.str [122],.str [102],.str [103],.str [118,49],.str [118,50],.str [105,100]]:List PV)[m]?=some (.str s):=by
  have:([PV.str [120],.str [121],.str [122],.str [102],.str [103],.str [118,49],.str [118,50],.str [105,100]]:List PV)=varNames.map PV.str:=rfl;rw[this];simp[b,a,c,hs]
 simp[b,a,c,-getElem?_pos,g175,e,d]
def qe(L:List Int)(tm:Nat)(TP:Int->Sh)(ds:List Dt)(lv:List Ty)(dep:Nat):Prop:=∀i:Nat,i<=L.length->∃(t:Ty)(j:Nat),
 (aC AP).i 27 [.aI tm 0,.pv (.aq (ds.map Dt.pv)),.pv (.aq (lv.map Ty.pv)),.pv (vI dep)] (TP i) []=some ([t.av],TP j,[])∧iz (·∈ds) lv dep t∧j<=L.length
theorem Xz{L:List Int}{tm:Nat}{TP:Int->Sh}(hT:Tape L tm TP){ds:List Dt}{lv:List Ty}{dep:Nat}(f:dep<1000)(m:qe L tm TP ds lv dep){d:Dt}(hS:Sm d.params):∀(n k:Nat),d.params.length-k=n->k<=d.params.length->∀(acc:List Ty)(i:Nat),acc.length=k->(∀x∈acc,iz (·∈ds) lv dep x)->i<=L.length->
   ∃(r:List Ty)(j:Nat),cl AP g27L0 ⟨[(0,.aI tm 0),(1,.pv (.aq (ds.map Dt.pv))),(2,.pv (.aq (lv.map Ty.pv))),(3,.pv (vI (dep+1))),(8,.au 8 0),(10,.au 10 0),(11,.own (acc.map Ty.pv) 0),(12,.pv (vI k))],
     [(8,[.pv (vI 0),.pv (.str []),.pv (vI 0),.pv (vI 0),.own [] 1]),(10,[.pv (vI d.pos),.pv (.str d.name),.pv (.aq (d.params.map .str)),.pv (.aq (d.cons.map jI.pv))])],TP i,[acc.length,0]⟩=
     some (.exit 1,⟨[(0,.aI tm 0),(1,.pv (.aq (ds.map Dt.pv))),(2,.pv (.aq (lv.map Ty.pv))),(3,.pv (vI (dep+1))),(8,.au 8 0),(10,.au 10 0),(11,.own (r.map Ty.pv) 0),(12,.pv (vI d.params.length)),(65,.pv (.bool false))],
     [(8,[.pv (vI 0),.pv (.str []),.pv (vI 0),.pv (vI 0),.own [] 1]),(10,[.pv (vI d.pos),.pv (.str d.name),.pv (.aq (d.params.map .str)),.pv (.aq (d.cons.map jI.pv))])],TP j,[r.length,0]⟩)∧
     r.length=d.params.length∧(∀x∈r,iz (·∈ds) lv dep x)∧j<=L.length
 |0,k,hn,h,acc,i,o,hm,hi=>by
  have b:=hT.norm;have a:=hT.shift;have c:=hT.take;have:k=d.params.length:=(by omega);subst this;refine⟨acc,i,?_,o,hm,hi⟩;rw[g27L0e];simp[b,a,c,g27B0]
 |n+1,k,hn,h,acc,i,o,hm,hi=>by
  have b:=hT.norm;have a:=hT.shift;have c:=hT.take;unfold Sm at hS;have h:k<d.params.length:=(by omega);have s:(acc.length+1)*64<=140737488355328:=(by omega);obtain⟨t,j,e,mt,hj⟩:=m i hi
  try simp[b,a,c]at e
  obtain⟨r,q,p,hr,g,l⟩:=Xz hT f m hS n (k+1) (by omega) (by omega) (acc++[t]) j (by simp;omega) (by
   intro x hx;simp at hx;rcases hx with hx|rfl
   ·exact hm x hx
   ·exact mt) hj
  try simp[b,a,c]at p
  refine⟨r,q,?_,hr,g,l⟩;rw[g27L0e];have h1:(dep:Int)+1-1=dep:=by omega
  simp (disch:=omega) [b,a,c,-getElem?_pos,g27B0,h,ah,h1,e,s];rw[p]
theorem XA{L:List Int}{tm:Nat}{TP:Int->Sh}(hT:Tape L tm TP)(j:Sm L){ds:List Dt}{lv:List Ty}(f:Sm lv):qe L tm TP ds lv 0:=by
 have b:=hT.norm;have a:=hT.shift;have d:=hT.take;intro i hi;obtain⟨k,h,e1,p,o,e⟩:=vD hT j hi (n:=7) (by omega) (by omega)
 try simp[b,a,d]at e1
 unfold Sm at f;by_cases h1:k<3
 ·by_cases h2:lv=[]
  ·subst h2;refine⟨bj,h,?_,.int,e⟩;have c:=c34
   try simp[b,a,d]at c
   rw[aA g27];simp[b,a,d,-getElem?_pos,g27,e1,h1,c,bj]
  ·have hp:0<lv.length:=zaP.2 h2;obtain⟨r,l,e2,r0,r1,g⟩:=vD hT j e (n:=lv.length) (by omega) (by omega);obtain⟨m,rfl,hm⟩:=uT r0 r1;obtain⟨x,hx⟩:=aP hm
   try simp[b,a,d]at e2
   refine⟨x,l,?_,.leaf (aN hx),g⟩;rw[aA g27];simp[b,a,d,-getElem?_pos,g27,e1,h1,hp,e2,hx]
 ·refine⟨bj,h,?_,.int,e⟩;have c:=c34
  try simp[b,a,d]at c
  rw[aA g27];simp[b,a,d,-getElem?_pos,g27,e1,h1,c,bj]
theorem XB{L:List Int}{tm:Nat}{TP:Int->Sh}(hT:Tape L tm TP)(K:Sm L){ds:List Dt}(Q:ds.length<=20)(J:∀d∈ds,d.params.length<=8){lv:List Ty}(H:Sm lv){dep:Nat}(A:dep<1000)(I:qe L tm TP ds lv dep):qe L tm TP ds lv (dep+1):=by
 have f:=hT.norm;have e:=hT.shift;have g:=hT.take;intro i hi;obtain⟨k,N,e1,T,S,q⟩:=vD hT K hi (n:=7) (by omega) (by omega)
 try simp[f,e,g]at e1
 unfold Sm at H;have u:¬((dep:Int)+1<1):=by omega
 have B:(dep:Int)+1-1=dep:=by omega
 have o:∀h1:k<3,∀h2:¬lv=[],∃(t:Ty)(j:Nat),(aC AP).i 27 [.aI tm 0,.pv (.aq (ds.map Dt.pv)),.pv (.aq (lv.map Ty.pv)),.pv (vI ((dep+1:Nat):Int))] (TP i) []=some ([t.av],TP j,[])∧iz (·∈ds) lv (dep+1) t∧j<=L.length:=by
  intro h1 h2;have hp:0<lv.length:=zaP.2 h2;obtain⟨r,w,e2,r0,r1,p⟩:=vD hT K q (n:=lv.length) (by omega) (by omega);obtain⟨m,rfl,hm⟩:=uT r0 r1;obtain⟨x,hx⟩:=aP hm
  try simp[f,e,g]at e2
  refine⟨x,w,?_,.leaf (aN hx),p⟩;rw[aA g27];simp[f,e,g,-getElem?_pos,g27,e1,h1,hp,e2,hx]
 by_cases h1:k<3∧¬lv=[]
 ·exact o h1.1 h1.2
 ·have M:¬k<3∨lv=[]:=by
   by_cases h:k<3
   ·right;by_cases h':lv=[]
    ·exact h'
    ·exact absurd ⟨h,h'⟩ h1
   ·exact .inl h
  by_cases h2:k<4
  ·refine⟨bj,N,?_,.int,q⟩;have c:=c34
   try simp[f,e,g]at c
   rw[aA g27];rcases M with h|h
   ·simp[f,e,g,-getElem?_pos,g27,e1,h,h2,c,bj]
   ·subst h;simp[f,e,g,-getElem?_pos,g27,e1,h2,c,bj]
  ·have h3:¬k<3:=(by omega);by_cases h4:(k=4∨k=5)∧¬ds=[]
   ·obtain⟨h4,h5⟩:=h4;have hp:0<ds.length:=zaP.2 h5;obtain⟨r,w,e2,r0,r1,p⟩:=vD hT K q (n:=ds.length) (by omega) (by omega);obtain⟨m,rfl,hm⟩:=uT r0 r1;obtain⟨d,hx⟩:=aP hm
    try simp[f,e,g]at e2
    have z:=aN hx
    have y:Sm d.params:=by
     unfold Sm;have:=J d z;omega
    obtain⟨as,E,e3,R,G,v⟩:=Xz hT A I y d.params.length 0 rfl (by omega) [] w rfl (by simp) p;rw[g27L0e]at e3
    try simp[f,e,g]at e3
    have F:Sm as:=(by unfold Sm at y⊢;omega);have c:=c62 (s:=d.name) (l:=as) F
    try simp[f,e,g]at c
    refine⟨⟨4,d.name,0,0,as⟩,E,?_,.dK z R G,v⟩;rw[aA g27];rcases h4 with rfl|rfl
    ·simp[f,e,g,-getElem?_pos,g27,e1,hp,u,e2,hx,g27L0e,e3,c]
    ·simp[f,e,g,-getElem?_pos,g27,e1,hp,u,e2,hx,g27L0e,e3,c]
   ·obtain⟨a,w,D,P,p⟩:=I N q;obtain⟨b,E,C,O,v⟩:=I w p
    try simp[f,e,g]at D C
    have c:=c69 (a:=a) (b:=b)
    try simp[f,e,g]at c
    refine⟨⟨4,[45,62],0,0,[a,b]⟩,E,?_,.arrow P O,v⟩;rw[aA g27];by_cases h5:ds=[]
    ·subst h5
     try simp[f,e,g]at D C
     simp (disch:=omega) [f,e,g,-getElem?_pos,g27,e1,h2,h3,u,B,ah,D,C,c]
    ·have h6:¬k=4∧¬k=5:=by
      constructor
      ·intro h;exact h4 ⟨.inl h,h5⟩
      ·intro h;exact h4 ⟨.inr h,h5⟩
     simp (disch:=omega) [f,e,g,-getElem?_pos,g27,e1,h2,h3,h6.1,h6.2,u,B,ah,D,C,c]
theorem Sy{L:List Int}{tm:Nat}{TP:Int->Sh}(hT:Tape L tm TP)(e:Sm L){ds:List Dt}(b:ds.length<=20)(c:∀d∈ds,d.params.length<=8){lv:List Ty}(a:Sm lv):∀dep:Nat,dep<1000->qe L tm TP ds lv dep
 |0,_=>XA hT e a
 |dep+1,h=>XB hT e b c a (by omega) (Sy hT e b c a dep (by omega))
theorem ph:ca.Ok:=bQ rfl
theorem Ex.Hp{e x:Ex}(h:x∈e.ch):SizeOf.sizeOf x<SizeOf.sizeOf e:=by
 rw[Ex.ch,zai,zat]at h;cases e;rcases h with h|⟨a,b,rfl⟩
 ·have:=_root_.List.sizeOf_lt_of_mem h;simp at*;omega
 ·have:=_root_.List.sizeOf_lt_of_mem b;have:=da.qO a;simp at*;omega
def Ex.sz(e:Ex):Nat:=1+(e.ch.attach.map fun x=>x.1.sz).sum
termination_by SizeOf.sizeOf e
decreasing_by exact Ex.Hp x.2
theorem Ex.sr(e:Ex):e.sz=1+(e.ch.map Ex.sz).sum:=by
 rw[Ex.sz,zcq,zcO]
theorem Ex.k_(e:Ex):1<=e.sz:=by rw[Ex.sr];omega
theorem gp{α:Type}{l:List α}{f:α->Nat}{M:Nat}(h:∀x∈l,f x<=M):(l.map f).sum<=l.length*M:=by
 induction l with
 |nil=>simp
 |cons a r b=>
  have h1:=h a (by simp);have h2:=b fun x hx=>h x (by simp[hx])
  simp only[zao,zbI,zax,zaD];omega
theorem kr{α:Type}{l:List α}{f:α->Nat}{x:α}(h:x∈l):f x<=(l.map f).sum:=by
 induction l with
 |nil=>cases h
 |cons a r b=>
  simp only[zao,zbI];rcases zah.1 h with rfl|h
  ·omega
  ·have:=b h;omega
theorem Ex.Gd{e x:Ex}(h:x∈e.ch):x.sz<e.sz:=by
 have:=kr (f:=Ex.sz) h;rw[e.sr];omega
@[simp] def KT(k:Int):Prop:=k=0∨k=5
inductive vE:Ex->Prop
 |leaf {e:Ex}:(e.kind=1∨e.kind=2)∧e.name.length<=100∨e.kind=3∧0<=e.num∧e.num<4∨e.kind=10∧e.name=[]∧e.num=0∧e.ty=ca->e.kids=[]->e.aF=[]->vE e
 |lam {e a:Ex}:e.kind=4->e.name.length<=100->e.kids=[a]->e.aF=[]->vE a->vE e
 |app {e a b:Ex}:e.kind=5->e.kids=[a,b]->e.aF=[]->vE a->vE b->vE e
 |Q0 {e a b:Ex}:e.kind=6∨e.kind=7->e.name.length<=100->e.kids=[a,b]->e.aF=[]->vE a->vE b->vE e
 |Hq {e a:Ex}:e.kind=8->e.kids=[a]->vE a->e.aF.length<=10->
     (∀x∈e.aF,x.dK.length<=100∧x.vars.length<=10∧∀v∈x.vars,v.length<=100)->(∀x∈e.aF,vE x.body)->vE e
 |Yx {e a:Ex}:e.kind=9->e.kids=[a]->e.aF=[]->e.ty.Kn KT->e.ty.nodes.length<=10000->vE a->vE e
 |held {e a:Ex}:e.kind=11->e.kids=[a]->e.aF=[]->vE a->vE e
def wN(n:Nat):Nat:=5 ^ (n / 4)*(n % 4+1)+(if n<4 then 0 else n % 4)
theorem XC{n m:Nat}(h:n<=m):wN n<=wN m:=by
 have step:∀n,wN n<=wN (n+1):=by
  intro n;unfold wN;by_cases q:n % 4=3
  ·have h1:(n+1) / 4=n / 4+1:=(by omega);have h2:(n+1) % 4=0:=(by omega);rw[h1,h2,q,zcv];by_cases z:n<4
   ·have:n / 4=0:=by omega
    rw[this];split<;>split<;>omega
   ·obtain⟨k,b⟩:∃k,n / 4=k+1:=⟨n / 4-1,by omega⟩;have:=zcB k 5 (by decide);rw[b,zcv];generalize 5 ^ k=P at*;split<;>split<;>omega
  ·have h1:(n+1) / 4=n / 4:=(by omega);have h2:(n+1) % 4=n % 4+1:=(by omega);rw[h1,h2];have:5 ^ (n / 4)*(n % 4+1)<=5 ^ (n / 4)*(n % 4+1+1):=Nat.mul_le_mul_left _ (by omega);split<;>split<;>omega
 induction h with
 |refl=>exact zaj _
 |step _ a=>exact zaR a (step _)
theorem Oh(m:Nat):wN (4*m)=5 ^ m:=by
 unfold wN;have h1:4*m / 4=m:=by omega
 have h2:4*m % 4=0:=by omega
 rw[h1,h2];split<;>omega
def Q1(s:bD):Bool:=cC ⟨4,s,0,0,[]⟩
def Ge(s:bD):Bool:=cC ⟨5,s,0,0,[]⟩
def Ty.wr(t:Ty):Bool:=(decide (t.kind=4)|| decide (t.kind=5)) && (t.args.attach.map fun x=>x.1.wr).all fun b=>b
termination_by SizeOf.sizeOf t
decreasing_by
 have:=_root_.List.sizeOf_lt_of_mem x.2;cases t;simp at*;omega
theorem Ty.Sz(t:Ty):t.wr=((decide (t.kind=4)|| decide (t.kind=5)) && t.args.all Ty.wr):=by
 rw[Ty.wr,zcq,zcO,List.all_map];rfl
def SB(a:Ar):Bool:=!decide (a.pos<0) && (Q1 a.dK && (!decide (4<a.vars.length) && a.vars.all Ge))
def cM(k:Int):Option (Bool×Nat):=
 if k=1∨k=2 then some (true,0)else if k=3∨k=10 then some (false,0)else if k=4 then some (true,1)else if k=5 then some (false,2)
 else if k=6∨k=7 then some (true,2)else if k=8∨k=9∨k=11 then some (false,1)else none
noncomputable def Ex.zQ(e:Ex)(nm:Bool)(kd:Nat):Bool:=
 !decide (e.pos<0) && (decide (e.kids.length=kd) && ((decide (0<e.aF.length)== decide (e.kind=8)) && (!decide (e.num<0) && (!decide (999999999<e.num) && ((decide (e.num=0)|| decide (e.kind=3)) &&
   ((nm || decide (e.name=[])) && ((!decide (e.kind=2)|| Q1 e.name) && ((!nm || (decide (e.kind=2)|| Ge e.name)) && ((!decide (e.kind=9)|| (cC e.ty && e.ty.wr)) && (decide (e.kind=9)|| decide (e.ty=ca)))))))))))
noncomputable def Ex.wv(e:Ex):Bool:=(match cM e.kind with|some (nm,kd)=>e.zQ nm kd|none=>false) && (e.aF.all SB && (e.ch.attach.map fun x=>x.1.wv).all id)
termination_by SizeOf.sizeOf e
decreasing_by exact Ex.Hp x.2
theorem Ex.Oi(e:Ex):e.wv=((match cM e.kind with|some (nm,kd)=>e.zQ nm kd|none=>false) && (e.aF.all SB && e.ch.all Ex.wv)):=by
 rw[Ex.wv,zcq,zcO,List.all_map];rfl
structure vU(n:Nat)(e:Ex):Prop where
 sc:Uw e
 h:e.KM n
 w:e.sz<=wN n
 tx:vE e
 vl:e.wv=true
theorem zn{n m:Nat}{e:Ex}(h:e.KM n):n<=m->e.KM m:=by
 induction h generalizing m with
 |mk _ a=>
  intro hm;obtain⟨k,rfl⟩:∃k,m=k+1:=⟨m-1,by omega⟩;exact .mk fun x hx=>a x hx (by omega)
theorem vU.up{n m:Nat}{e:Ex}(h:vU n e)(hm:n<=m):vU m e:=⟨h.sc,zn h.h hm,zaR h.w (XC hm),h.tx,h.vl⟩
theorem pj:ca.Cw:=⟨fun _=>rfl,by simp[ca]⟩
theorem Cv{m:Nat}{l:List Ex}(hl:l.length<=4)(h:∀x∈l,x.sz<=5 ^ m):1+(l.map Ex.sz).sum<=5 ^ (m+1):=by
 have h1:=gp h;have h2:l.length*5 ^ m<=4*5 ^ m:=zaH _ hl;have h3:1<=5 ^ m:=zcB m 5 (by decide);rw[zcv];generalize 5 ^ m=P at*;omega
noncomputable def zo(e:Ex):Bool:=match cM e.kind with|some (nm,kd)=>e.zQ nm kd|none=>false
theorem zq(e:Ex):e.wv=(zo e && (e.aF.all SB && e.ch.all Ex.wv)):=by
 rw[Ex.Oi];unfold zo;cases cM e.kind with
 |none=>rfl
 |some p=>rfl
theorem Q2{s:bD}{x:Ex}(h:tD false s):zo ⟨4,0,s,0,[x],[],ca⟩=true:=by
 have h1:Ge s=true:=h.2;simp[zo,cM,Ex.zQ,h1]
theorem Hr{x y:Ex}:zo ⟨5,0,[],0,[x,y],[],ca⟩=true:=by simp[zo,cM,Ex.zQ]
theorem Q3{k:Int}{s:bD}{x y:Ex}(a:k=6∨k=7)(h:tD false s):zo ⟨k,0,s,0,[x,y],[],ca⟩=true:=by
 have h1:Ge s=true:=h.2;rcases a with rfl|rfl<;>simp[zo,cM,Ex.zQ,h1]
theorem Oj{x:Ex}:zo ⟨11,0,[],0,[x],[],ca⟩=true:=by simp[zo,cM,Ex.zQ]
theorem Q4{x:Ex}{t:Ty}(h1:cC t=true)(h2:t.wr=true):zo ⟨9,0,[],0,[x],[],t⟩=true:=by simp[zo,cM,Ex.zQ,h1,h2]
theorem lG{n:Nat}{k:Int}{s:bD}{m:Int}{l:List Ex}{t:Ty}(b:zo ⟨k,0,s,m,l,[],t⟩=true)(d:k≠8)(hl:l.length<=4)(c:t.Ok)(a:t.Cw)(hx:∀x∈l,vU (4*n) x)(tx:vE ⟨k,0,s,m,l,[],t⟩):vU (4*(n+1)) ⟨k,0,s,m,l,[],t⟩ where
 sc:=⟨.mk (by simp only;omega) (by simp) (by simp) c (by simpa[Ex.ch]using fun x h=>(hx x h).sc.ok),.mk (fun h=>absurd h d) (by simpa[Ex.ch]using fun x h=>(hx x h).sc.one),.mk a (by simpa[Ex.ch]using fun x h=>(hx x h).sc.cw)⟩
 h:=zn (n:=4*n+1) (.mk (by simpa[Ex.ch]using fun x h=>(hx x h).h)) (by omega)
 w:=by
  rw[Oh,Ex.sr];have e:(⟨k,0,s,m,l,[],t⟩:Ex).ch=l:=by simp[Ex.ch]
  rw[e];exact Cv hl fun x h=>by have:=(hx x h).w;rwa [Oh]at this
 tx:=tx
 vl:=by
  have a:(⟨k,0,s,m,l,[],t⟩:Ex).ch.all Ex.wv=true:=by simp[Ex.ch];exact fun x h=>(hx x h).vl
  rw[zq,a,b];rfl
theorem ji{k:Int}{s:bD}{m:Int}(a:(k=1∧tD false s∨k=2∧tD true s)∧m=0∨k=3∧s=[]∧0<=m∧m<4∨k=10∧s=[]∧m=0):vU 4 ⟨k,0,s,m,[],[],ca⟩:=by
 refine lG (n:=0) ?_ (by omega) (by simp) ph pj (by simp) (.leaf ?_ rfl rfl)
 ·rcases a with⟨⟨rfl,h⟩|⟨rfl,h⟩,rfl⟩|⟨rfl,rfl,h1,h2⟩|⟨rfl,rfl,rfl⟩
  ·have h1:Ge s=true:=h.2;simp[zo,cM,Ex.zQ,h1]
  ·have h1:Q1 s=true:=h.2;simp[zo,cM,Ex.zQ,h1]
  ·have c:¬m<0:=(by omega);have b:¬999999999<m:=(by omega);simp[zo,cM,Ex.zQ,c,b]
  ·simp[zo,cM,Ex.zQ]
 ·rcases a with⟨⟨h0,h⟩|⟨h0,h⟩,_⟩|⟨h0,_,h1,h2⟩|⟨h0,h1,h2⟩
  ·exact .inl ⟨.inl h0,h.1⟩
  ·exact .inl ⟨.inr h0,h.1⟩
  ·exact .inr (.inl ⟨h0,h1,h2⟩)
  ·exact .inr (.inr ⟨h0,h1,h2,rfl⟩)
theorem Q5{n r:Nat}(hn:0<n)(hr:r<3){k:Int}{s:bD}{m:Int}{ks:List Ex}{y:Ex}(hf:vU (4*n+r) ⟨k,0,s,m,ks,[],ca⟩)(hy:vU (4*n) y):vU (4*n+r+1) ⟨5,0,[],0,[⟨k,0,s,m,ks,[],ca⟩,y],[],ca⟩ where
 sc:=⟨.mk (by simp) (by simp) (by simp) ph (by simpa[Ex.ch]using⟨hf.sc.ok,hy.sc.ok⟩),.mk (fun h=>absurd (show(5:Int)=8 from h) (by decide)) (by simpa[Ex.ch]using⟨hf.sc.one,hy.sc.one⟩),.mk pj (by simpa[Ex.ch]using⟨hf.sc.cw,hy.sc.cw⟩)⟩
 h:=.mk (by simpa[Ex.ch]using⟨hf.h,zn hy.h (by omega)⟩)
 w:=by
  have h1:=hf.w;have h2:=hy.w;rw[Oh]at h2;have h3:1<=5 ^ n:=zcB n 5 (by decide);rw[Ex.sr];have e:(⟨5,0,[],0,[⟨k,0,s,m,ks,[],ca⟩,y],[],ca⟩:Ex).ch=[⟨k,0,s,m,ks,[],ca⟩,y]:=(by simp[Ex.ch]);rw[e];simp only[zao,zbk,zbI,List.sum_nil];unfold wN at h1⊢;have e1:(4*n+r) / 4=n:=(by omega);have e2:(4*n+r) % 4=r:=(by omega);have e3:(4*n+r+1) / 4=n:=(by omega);have e4:(4*n+r+1) % 4=r+1:=(by omega);rw[e1,e2,zad (by omega)]at h1;rw[e3,e4,zad (by omega)];have e5:5 ^ n*(r+1+1)=5 ^ n*(r+1)+5 ^ n:=Nat.mul_add_one _ _;rw[e5];omega
 tx:=.app rfl rfl rfl hf.tx hy.tx
 vl:=by
  have a:(⟨5,0,[],0,[⟨k,0,s,m,ks,[],ca⟩,y],[],ca⟩:Ex).ch.all Ex.wv=true:=(by simp[Ex.ch,hf.vl,hy.vl]);rw[zq,a,Hr];rfl
theorem UI{L:List Int}{tm:Nat}{TP:Int->Sh}(hT:Tape L tm TP){I:Nat}{g:Ty}(j:bH g){E:List En}(t:E.length<=10000)(m:∀x∈E,lF x.sc)(e:∀x∈E,tD false x.name):∀(n i:Nat),E.length-i=n->i<=E.length->∀acc:List bD,acc.length<=i->(∀s∈acc,tD false s)->
   ∃fs:List bD,fs.length<=E.length∧(∀s∈fs,tD false s)∧cl AP g348L0 ⟨[(0,.aI tm 0),(7,.au 7 0),(8,.au 8 0),(9,.own (acc.map .str) 0),(10,.pv (.aq (E.map En.pv))),(11,.pv (vI i))],[(7,tC g),(8,pY 1)],TP I,[acc.length,0,0,0]⟩=
     some (.exit 0,⟨[(0,.aI tm 0),(7,.au 7 0),(8,.au 8 0),(9,.own (fs.map .str) 0),(10,.pv (.aq (E.map En.pv))),(11,.pv (vI E.length)),(19,.pv (.bool false))],[(7,tC g),(8,pY 1)],TP I,[fs.length,0,0,0]⟩)
 |0,i,hn,hi,acc,q,d=>by
  have b:=hT.norm;have a:=hT.shift;have c:=hT.take;have:i=E.length:=(by omega);subst this;refine⟨acc,q,d,?_⟩;rw[g348L0e];simp[b,a,c,g348B0,tC,pY]
 |n+1,i,hn,hi,acc,q,d=>by
  have b:=hT.norm;have a:=hT.shift;have c:=hT.take;have hi:i<E.length:=(by omega);obtain⟨x,hx⟩:=aP hi;obtain⟨K,o,w,u⟩:=(m x (aN hx)).Od;have k:=c238 (N:=K) (by omega) (p:=x.sc.ty) j.ok u;have v:(acc.length+1)*16<=140737488355328:=(by omega);cases r:Oa K x.sc.ty g with
  |none=>
   obtain⟨fs,h1,f,h⟩:=UI hT (L:=L) (I:=I) j t m e n (i+1) (by omega) (by omega) acc (by omega) d;refine⟨fs,h1,f,?_⟩;rw[r]at k;rw[g348L0e]at h ⊢;simp[b,a,c,tC,pY]at h;simp[b,a,c,rI]at k;simp(disch:=omega)[b,a,c,-getElem?_pos,g348B0,tC,pY,hx,hi,o,k,ah];rw[g348L0e];simp[b,a,c,h]
  |some l=>
   obtain⟨fs,h1,f,h⟩:=UI hT (L:=L) (I:=I) j t m e n (i+1) (by omega) (by omega) (acc++[x.name]) (by simp;omega) (by
    intro s hs;simp only[zai,zaJ]at hs;rcases hs with hs|rfl
    ·exact d s hs
    ·exact e x (aN hx))
   refine⟨fs,h1,f,?_⟩;rw[r]at k;rw[g348L0e]at h ⊢;simp[b,a,c,tC,pY]at h;simp[b,a,c,rI]at k;simp(disch:=omega)[b,a,c,-getElem?_pos,g348B0,tC,pY,hx,hi,o,k,v,ah];rw[g348L0e];simp[b,a,c,h]
def nS(L:List Int)(tm:Nat)(TP:Int->Sh)(n:Nat)(r:Option (List AV×Sh×aG)):Prop:=∃(e:Ex)(a c b:Bool)(j:Nat),r=some ([.agg (jr a c b e)],TP j,[])∧vU n e∧j<=L.length
structure Ctx(n:Nat)(l:List En):Prop where
 len:l.length<=n
 Yy:∀x∈l,lF x.sc
 nm:∀x∈l,tD false x.name
 vn:∀x∈l,x.sc.ty.Vn
theorem c348{L:List Int}{tm:Nat}{TP:Int->Sh}(hT:Tape L tm TP)(y:Sm L){ds:List Dt}{l:List En}(hl:Ctx 10000 l){g:Ty}(G:bH g){i:Nat}(hi:i<=L.length):
   nS L tm TP 4 ((aC AP).i 348 [.aI tm 0,.pv (.aq (ds.map Dt.pv)),.pv (.aq (l.map En.pv)),.pv g.pv] (TP i) []):=by
 have d:=hT.norm;have c:=hT.shift;have f:=hT.take;have O:=d6 l;have P:=hl.len;have t:=c201 (l:=l) (by unfold Sm;omega);obtain⟨fs,hf,D,e⟩:=UI hT (L:=L) (I:=i) G (E:=a8 l) (by omega) (fun x hx=>hl.Yy x (cS l x hx)) (fun x hx=>hl.nm x (cS l x hx)) _ 0 rfl (by omega) [] (by simp) (by simp);generalize a8 l=E at*;have h:=c20 (a:=g) (b:=bj) G.ok;have o:=c34;rw[g348L0e]at e;simp[d,c,f,tC,pY]at e t o
 have p:∀j,j<=L.length->(g=bj∧∃r u,0<=r∧u<=L.length∧(aC AP).i 68 [.aI tm 0,.pv (vI 4)] (TP j) []=some ([.pv (vI r)],TP u,[]))∨¬g=bj:=by
  intro j hj;by_cases q:g=bj
  ·obtain⟨r,u,e1,r0,_,k⟩:=vD hT y hj (n:=4) (by omega) (by omega);exact .inl ⟨q,r,u,r0,k,e1⟩
  ·exact .inr q
 by_cases J:fs=[]
 ·subst J
  try simp[d,c,f]at e
  rcases p i hi with⟨q,r,u,r0,k,e1⟩|q
  ·rw[zaG q]at h;subst q
   try simp[d,c,f]at h e1
   by_cases hr:0<r
   ·obtain⟨m,B,e2,m0,A,w⟩:=vD hT y k (n:=3) (by omega) (by omega);refine⟨⟨3,0,[],m,[],[],ca⟩,true,true,true,B,?_,ji (.inr (.inl ⟨rfl,rfl,m0,by omega⟩)),w⟩
    try simp[d,c,f]at e2
    simp[d,c,f,bj]at h o e;rw[aA g348];simp[d,c,f,g348,t,g348L0e,e,o,h,e1,hr,e2,jr,eI,ca,bj]
   ·refine⟨⟨10,0,[],0,[],[],ca⟩,true,true,true,u,?_,ji (.inr (.inr ⟨rfl,rfl,rfl⟩)),k⟩;simp[d,c,f,bj]at h o e;rw[aA g348];simp[d,c,f,g348,t,g348L0e,e,o,h,e1,hr,jr,eI,ca,bj]
  ·rw[zaC q]at h;refine⟨⟨10,0,[],0,[],[],ca⟩,true,true,true,i,?_,ji (.inr (.inr ⟨rfl,rfl,rfl⟩)),hi⟩;simp[d,c,f,bj]at h o;rw[aA g348];simp[d,c,f,g348,t,g348L0e,e,o,h,jr,eI,ca,bj]
 ·have hp:0<fs.length:=zaP.2 J;obtain⟨M,F,z,K,_,v⟩:=vD hT y hi (n:=6) (by omega) (by omega)
  try simp[d,c,f]at z
  by_cases h6:0<M
  ·obtain⟨m,N,H,m0,A,C⟩:=vD hT y v (n:=fs.length) (by omega) (by omega);obtain⟨m,rfl,hm⟩:=uT m0 A;obtain⟨s,hs⟩:=aP hm;refine⟨⟨1,0,s,0,[],[],ca⟩,true,true,true,N,?_,ji (.inl ⟨.inl ⟨rfl,D s (aN hs)⟩,rfl⟩),C⟩
   try simp[d,c,f]at H
   rw[aA g348];simp[d,c,f,-getElem?_pos,g348,t,g348L0e,e,hp,z,h6,H,hs,jr,eI,ca]
  ·rcases p F v with⟨q,r,u,r0,k,e1⟩|q
   ·rw[zaG q]at h;subst q
    try simp[d,c,f]at h e1
    by_cases hr:0<r
    ·obtain⟨m,B,e2,m0,A,w⟩:=vD hT y k (n:=3) (by omega) (by omega);refine⟨⟨3,0,[],m,[],[],ca⟩,true,true,true,B,?_,ji (.inr (.inl ⟨rfl,rfl,m0,by omega⟩)),w⟩
     try simp[d,c,f]at e2
     simp[d,c,f,bj]at h o e;rw[aA g348];simp[d,c,f,g348,t,g348L0e,e,hp,z,h6,o,h,e1,hr,e2,jr,eI,ca,bj]
    ·refine⟨⟨10,0,[],0,[],[],ca⟩,true,true,true,u,?_,ji (.inr (.inr ⟨rfl,rfl,rfl⟩)),k⟩;simp[d,c,f,bj]at h o e;rw[aA g348];simp[d,c,f,g348,t,g348L0e,e,hp,z,h6,o,h,e1,hr,jr,eI,ca,bj]
   ·rw[zaC q]at h;refine⟨⟨10,0,[],0,[],[],ca⟩,true,true,true,F,?_,ji (.inr (.inr ⟨rfl,rfl,rfl⟩)),v⟩;simp[d,c,f,bj]at h o;rw[aA g348];simp[d,c,f,g348,t,g348L0e,e,hp,z,h6,o,h,jr,eI,ca,bj]
def la(L:List Int)(tm:Nat)(TP:Int->Sh)(ds:List Dt)(dep:Nat):Prop:=∀(i:Nat)(l:List En)(g:Ty),i<=L.length->Ctx (1000-20*dep) l->bH g->g.nodes.length<=6000-20*dep->
 nS L tm TP (4*(dep+1)) ((aC AP).i 326 [.aI tm 0,.pv (.aq (ds.map Dt.pv)),.pv (.aq (l.map En.pv)),.pv g.pv,.pv (vI dep)] (TP i) [])
theorem Ctx.push{n m:Nat}{l:List En}(h:Ctx n l){s:bD}{c:Sc}(b:lF c)(hs:tD false s)(a:c.ty.Vn)(hm:n+1<=m):Ctx m (l++[⟨s,c⟩]):=⟨by have:=h.len;simp;omega,by
 intro x hx;simp at hx;rcases hx with hx|rfl
 ·exact h.Yy x hx
 ·exact b,by
 intro x hx;simp at hx;rcases hx with hx|rfl
 ·exact h.nm x hx
 ·exact hs,by
 intro x hx;simp at hx;rcases hx with hx|rfl
 ·exact h.vn x hx
 ·exact a⟩
theorem Ctx.bX{n m:Nat}{l:List En}(h:Ctx n l)(hm:n<=m):Ctx m l:=⟨by have:=h.len;omega,h.Yy,h.nm,h.vn⟩
theorem Ol{D:Dt->Prop}(hV:∀d,D d->kZ d.name d.params.length=true){lv:List Ty}(h:∀t∈lv,t.Vn){n:Nat}{t:Ty}(m:iz D lv n t):t.Vn:=by
 induction m with
 |leaf hl=>exact h _ hl
 |int=>exact qd
 |dK hd hl _ c=>exact Cs (.inr (.inr (.inr (.inr ⟨rfl,rfl,rfl,by simp only[hl];exact hV _ hd⟩)))) c
 |arrow _ _ b a=>exact Gb b a
theorem zu:∀d∈bp,kZ d.name d.params.length=true:=by decide +kernel
theorem mq{D:Dt->Prop}(f:∀d,D d->d.params.length<=8)(hV:∀d,D d->kZ d.name d.params.length=true)(hN:∀d,D d->d.name.length<=100){lv:List Ty}(h:∀t∈lv,t.args=[]∧t.kind=3∧t.name=[]){n:Nat}{t:Ty}(m:iz D lv n t):bH t:=by
 refine⟨m.ok f (fun t a=>(h t a).1),?_,Ol hV (fun t a=>tz (h t a).1 (.inr (.inr (.inl (h t a).2.1)))) m⟩;induction m with
 |leaf hl=>exact .bare (h _ hl).1 (fun _=>by rw[(h _ hl).2.1];simp) (by rw[(h _ hl).2.2];simp)
 |int=>exact .bare rfl (by simp[bj]) (by simp[bj])
 |dK hd _ _ e=>exact .mk (by simp) (hN _ hd) e
 |arrow _ _ c b=>exact .mk (by simp) (by simp) (by intro x hx;simp at hx;rcases hx with rfl|rfl<;>assumption)
theorem Cx{g:Ty}(i:bH g)(h:g.gk 3=false):cC g=true∧g.wr=true:=by
 obtain⟨j,e,b⟩:=i;clear j;induction e with
 | @mk t f hn _ d=>
  rw[Ty.p9,Bool.or_eq_false_iff,zbl]at h;have a:∀x∈t.args,cC x=true∧x.wr=true:=fun x hx=>d x hx (by simpa using h.2 x hx) (b.cY x hx)
  have hd:=b.hd;have m:t.kind≠3:=by have:=h.1;simp at this;exact this
  have c:t.kind=4:=by
   rcases Decidable.em (t.kind=4)with q|q
   ·exact q
   ·have:=(f q).1;unfold Hv at hd;simp at this;omega
  obtain⟨h1,h2,h3⟩:t.id=0∧t.home=0∧kZ t.name t.args.length=true:=by
   unfold Hv at hd;rcases hd with q|q|q|q|⟨_,q⟩
   ·omega
   ·omega
   ·omega
   ·omega
   ·exact q
  rw[nI,Ty.Sz];have l:t.args.all cC=true:=zaq.2 fun x hx=>(a x hx).1
  have k:t.args.all Ty.wr=true:=zaq.2 fun x hx=>(a x hx).2;simp[c,h1,h2,h3,l,k]
theorem bH.arrow{a b:Ty}(d:bH a)(c:bH b):bH ⟨4,[45,62],0,0,[a,b]⟩:=⟨⟨by simp[Sm],by intro x hx;simp at hx;rcases hx with rfl|rfl;exact d.ok;exact c.ok⟩,.mk (by simp) (by simp) (by intro x hx;simp at hx;rcases hx with rfl|rfl;exact d.kn;exact c.kn),Gb d.vn c.vn⟩
theorem iS:∀s∈varNames,tD false s:=by decide +kernel
theorem XD{g:Ty}(c:bH g)(h:g.gk 3=false):g.Kn KT:=by
 have e:=c.kn;clear c;induction e with
 | @mk t f hn _ d=>
  rw[Ty.p9,Bool.or_eq_false_iff,zbl]at h;refine .mk (fun q=>?_) hn fun x hx=>d x hx (by simpa using h.2 x hx);obtain⟨a,b⟩:=f q;refine⟨?_,b⟩;have:=h.1
  simp at a this⊢;omega
variable {L:List Int}  {tm:Nat} {TP:Int->Sh} {ds:List Dt} {dep:Nat} {l:List En} {g:Ty} {i:Nat}
def vF(L:List Int)(tm:Nat)(TP:Int->Sh)(ds:List Dt)(dep:Nat)(l:List En)(g:Ty)(i:Nat):Prop:=
 nS L tm TP (4*(dep+1)) ((aC AP).i 326 [.aI tm 0,.pv (.aq (ds.map Dt.pv)),.pv (.aq (l.map En.pv)),.pv g.pv,.pv (vI dep)] (TP i) [])
theorem Om(hT:Tape L tm TP)(h:Sm L)(hl:Ctx 10000 l)(f:bH g)(hi:i<=L.length):vF L tm TP ds 0 l g i:=by
 have b:=hT.norm;have a:=hT.shift;have c:=hT.take;obtain⟨e,f1,f2,f3,j,k,d,hj⟩:=c348 hT h (ds:=ds) hl f hi;refine⟨e,f1,f2,f3,j,?_,d.up (by omega),hj⟩;rw[aA g326];cases f1<;>cases f2<;>cases f3<;>simp[b,a,c,jr,eI]at k<;>simp[b,a,c,g326,k,jr,eI,aS]
theorem Q6(hT:Tape L tm TP)(n:Sm L)(f:dep<100)(hl:Ctx 10000 l)(m:bH g){j9:Nat}(d:j9<=L.length)(e9:(aC AP).i 68 [.aI tm 0,.pv (vI 9)] (TP i) []=some ([.pv (vI 0)],TP j9,[])):vF L tm TP ds (dep+1) l g i:=by
 have b:=hT.norm;have a:=hT.shift;have c:=hT.take;obtain⟨e,f1,f2,f3,j,k,h,hj⟩:=c348 hT n (ds:=ds) hl m d;refine⟨e,f1,f2,f3,j,?_,h.up (by omega),hj⟩;have h1:¬((dep:Int)+1<1):=by omega
 try simp[b,a,c]at e9
 rw[aA g326];cases f1<;>cases f2<;>cases f3<;>simp[b,a,c,jr,eI]at k<;>simp[b,a,c,g326,h1,e9,k,jr,eI,aS]
structure On(L:List Int)(tm:Nat)(TP:Int->Sh)(g:Ty)(i:Nat)(a b:Ty)(ar:Bool)(k r9:Int)(j9 j:Nat):Prop where
 nz:¬r9=0
 e9:(aC AP).i 68 [.aI tm 0,.pv (vI 9)] (TP i) []=some ([.pv (vI r9)],TP j9,[])
 arr:(aC AP).p 194 [g.pv]=some [a.pv,b.pv,.bool ar]
 vG:(aC AP).i 68 [.aI tm 0,.pv (vI 10)] (TP j9) []=some ([.pv (vI k)],TP j,[])
 hj:j<=L.length
theorem UJ(hT:Tape L tm TP)(E:Sm L)(w:dep<10)(F:la L tm TP ds dep)(hl:Ctx (1000-20*(dep+1)) l){a b:Ty}{k r9:Int}{j9 j:Nat}(P:On L tm TP g i a b true k r9 j9 j)(C:k<7)(x:bH a)(D:bH b)(o:b.nodes.length<=6000-20*dep):vF L tm TP ds (dep+1) l g i:=by
 have p:=hT.norm;have f:=hT.shift;have q:=hT.take;obtain⟨nz,e9,arr,vG,hj⟩:=P;obtain⟨s,z,e1,hs,m⟩:=Xy hT E hj;have B:=hl.len;have u:=c176 (t:=a);have r:=c179 (l:=l) (by unfold Sm;omega) (n:=s) (c:=⟨0,a⟩);obtain⟨e,f1,f2,f3,y,e2,v,h⟩:=F z (l++[⟨s,⟨0,a⟩⟩]) b m (hl.push x.mono (iS _ hs) x.vn (by omega)) D o;have d:=kq f1 f2 f3 e;generalize jr f1 f2 f3 e=A at e2 d;have G:=Ex.aE e;refine⟨⟨4,0,s,0,[e],[],ca⟩,true,true,true,y,?_,(lG (Q2 (iS _ hs)) (by decide) (by simp) ph pj (by simpa using v) (.lam rfl (iS _ hs).1 rfl rfl v.tx)).up (by omega),h⟩;have h1:¬((dep:Int)+1<1):=by omega
 have h2:(dep:Int)+1-1=dep:=by omega
 try simp[p,f,q]at e9 arr vG e1 u r e2
 rw[aA g326];simp(disch:=omega)[p,f,q,g326,h1,h2,nz,e9,arr,vG,C,e1,u,r,e2,ah,d.ej,d.flat,d.oB,d.len,d.leaf,G,jr,eI,ca]
theorem UK(hT:Tape L tm TP)(Q:Sm L)(z:dep<10)(u:ds.length<=20)(e:∀d∈ds,d.params.length<=8)(s:∀d∈ds,kZ d.name d.params.length=true)(v:∀d∈ds,d.name.length<=100)(C:la L tm TP ds dep)(hl:Ctx (1000-20*(dep+1)) l)(O:bH g)(N:g.nodes.length<=6000-20*(dep+1)){a b:Ty}{k r9:Int}{j9 j:Nat}(P:On L tm TP g i a b false k r9 j9 j)(M:k<2):vF L tm TP ds (dep+1) l g i:=by
 have n:=hT.norm;have c:=hT.shift;have o:=hT.take;obtain⟨nz,e9,arr,vG,hj⟩:=P;obtain⟨t,K,e1,mt,r⟩:=Sy hT Q u e (lv:=[]) (by simp[n,c,o,Sm]) 1 (by omega) j hj;have D:bH t:=mq e s v (by simp) mt;have G:=mt.small e (by simp);have w:=c69 (a:=t) (b:=g);have m:Ctx (1000-20*dep) l:=hl.bX (by omega);obtain⟨x,f1,f2,f3,J,e2,hx,q⟩:=C K l _ r m (D.arrow O) (by rw[Ty.aM];simp;omega);obtain⟨y,F,f5,E,I,e3,hy,p⟩:=C J l _ q m D (by omega);have f:=kq f1 f2 f3 x;generalize jr f1 f2 f3 x=A at e2 f;have h:=kq F f5 E y;generalize jr F f5 E y=B at e3 h;have S:=Ex.aE x;have R:=Ex.aE y;have H:A.take 11=A:=zaw (by rw[f.len];omega);refine⟨⟨5,0,[],0,[x,y],[],ca⟩,true,true,true,I,?_,(lG Hr (by decide) (by simp) ph pj (by simpa using⟨hx,hy⟩) (.app rfl rfl rfl hx.tx hy.tx)).up (by omega),p⟩;have h1:¬((dep:Int)+1<1):=by omega
 have h2:(dep:Int)+1-1=dep:=by omega
 simp[n,c,o,Ty.av]at e9 arr vG e1 w e2 e3;rw[aA g326];simp(disch:=omega)[n,c,o,g326,h1,h2,nz,e9,arr,vG,M,e1,w,e2,e3,ah,f.ej,f.flat,f.oB,f.len,f.leaf,h.ej,h.flat,h.oB,h.len,h.leaf,H,S,R,aS,jr,eI,ca]
theorem UL(hT:Tape L tm TP)(v:Sm L)(q:dep<10)(t:la L tm TP ds dep)(hl:Ctx (1000-20*(dep+1)) l)(c:bH g)(s:g.nodes.length<=6000-20*(dep+1)){a b:Ty}{r9:Int}{j9 j:Nat}(P:On L tm TP g i a b false 4 r9 j9 j)(h3:g.gk 3=false)(h4:g.gk 1=false):vF L tm TP ds (dep+1) l g i:=by
 have o:=hT.norm;have e:=hT.shift;have p:=hT.take;obtain⟨nz,e9,arr,vG,hj⟩:=P;have h:=c351 (k:=3) c.ok;have f:=c351 (k:=1) c.ok;rw[h3]at h;rw[h4]at f;have m:Ctx (1000-20*dep) l:=hl.bX (by omega);obtain⟨x,f1,f2,f3,r,e2,hx,n⟩:=t j l _ hj m c (by omega);have d:=kq f1 f2 f3 x;generalize jr f1 f2 f3 x=A at e2 d;have u:=Ex.aE x;refine⟨⟨9,0,[],0,[x],[],g⟩,true,true,false,r,?_,(lG (Q4 (Cx c h3).1 (Cx c h3).2) (by decide) (by simp) c.ok c.kn.cw (by simpa using hx) (.Yx rfl rfl rfl (XD c h3) (by simp only;omega) hx.tx)).up (by omega),n⟩;have h1:¬((dep:Int)+1<1):=by omega
 have h2:(dep:Int)+1-1=dep:=by omega
 try simp[o,e,p]at e9 arr vG h f e2
 rw[aA g326];simp(disch:=omega)[o,e,p,g326,h1,h2,nz,e9,arr,vG,h,f,e2,ah,d.ej,d.flat,d.oB,d.len,d.leaf,u,jr,eI,ca]
theorem Q7(hT:Tape L tm TP)(s:Sm L)(m:dep<10)(q:la L tm TP ds dep)(hl:Ctx (1000-20*(dep+1)) l)(p:bH g)(o:g.nodes.length<=6000-20*(dep+1)){a b:Ty}{r9:Int}{j9 j:Nat}(P:On L tm TP g i a b false 5 r9 j9 j):vF L tm TP ds (dep+1) l g i:=by
 have h:=hT.norm;have d:=hT.shift;have k:=hT.take;obtain⟨nz,e9,arr,vG,hj⟩:=P;have e:Ctx (1000-20*dep) l:=hl.bX (by omega);obtain⟨x,f1,f2,f3,n,e2,hx,f⟩:=q j l _ hj e p (by omega);have c:=kq f1 f2 f3 x;generalize jr f1 f2 f3 x=A at e2 c;have r:=Ex.aE x;refine⟨⟨11,0,[],0,[x],[],ca⟩,true,true,true,n,?_,(lG Oj (by decide) (by simp) ph pj (by simpa using hx) (.held rfl rfl rfl hx.tx)).up (by omega),f⟩;have h1:¬((dep:Int)+1<1):=by omega
 have h2:(dep:Int)+1-1=dep:=by omega
 try simp[h,d,k]at e9 arr vG e2
 rw[aA g326];simp(disch:=omega)[h,d,k,g326,h1,h2,nz,e9,arr,vG,e2,ah,c.ej,c.flat,c.oB,c.len,c.leaf,r,jr,eI,ca]
end Go.Ab.Lw
namespace Go.Ab.Lw
open Ev
structure Y2(x u:Ty):Prop where
 ok:u.Ok
 kn:u.Kn KS
 vn:u.Vn
 vr:∀y∈u.nodes,y.kind=1->∃z∈x.nodes,z.kind=3∧z.home=99∧y.id=IntKind.i64.wrap (900+z.id)
 n:u.nodes.length<=x.nodes.length
structure XE(x u:Ty):Prop where
 ok:u.Ok
 kn:u.Kn KS
 vn:u.Vn
 vr:∀y∈u.nodes,y.kind=1->∃z∈x.nodes,z.kind=3∧z.home=99∧y.id=IntKind.i64.wrap (900+z.id)
theorem SC{x:Ty}(hx:x.Ok)(j:∀a∈x.args,∃u:Ty,(aC AP).p 375 [a.pv]=some [u.pv]∧Y2 a u):∀(k i:Nat),x.args.length-i=k->i<=x.args.length->∀acc:List Ty,acc.length=i->(∀u∈acc,XE x u)->(acc.flatMap Ty.nodes).length<=((x.args.take i).flatMap Ty.nodes).length->∃us:List Ty,
   cl AP g375L0 ⟨[(1,.au 1 0),(2,.au 2 0),(3,.au 3 0),(4,.pv (vI i))],[(1,tC x),(2,zC 0),(3,uC x acc 1)],[],[0,acc.length]⟩=
     some (.exit 0,⟨[(1,.au 1 0),(2,.au 2 0),(3,.au 3 0),(4,.pv (vI x.args.length)),(23,.pv (.bool false))],[(1,tC x),(2,zC 0),(3,uC x us 1)],[],[0,us.length]⟩)∧us.length=x.args.length∧(∀u∈us,XE x u)∧(us.flatMap Ty.nodes).length<=(x.args.flatMap Ty.nodes).length
 |0,i,o,hi,acc,h,hu,g=>by
  have:i=x.args.length:=by omega
  subst this;refine⟨acc,?_,h,hu,by simpa using g⟩;rw[g375L0e];simp[g375B0,tC,zC,uC]
 |k+1,i,o,hi,acc,h,hu,g=>by
  have hi:i<x.args.length:=(by omega);obtain⟨a,b⟩:=aP hi;have d:=hx.sm;unfold Sm at d;obtain⟨u,e,c⟩:=j a (aN b);have m:=c.n
  obtain⟨us,f,h1,h2,h3⟩:=SC hx j k (i+1) (by omega) (by omega) (acc++[u]) (by simp;omega) (by
   intro y hy;simp at hy;rcases hy with hy|rfl
   ·exact hu y hy
   ·exact⟨c.ok,c.kn,c.vn,fun z l q=>by obtain⟨w,hw,hr⟩:=c.vr z l q;exact⟨w,QW a (aN b) w hw,hr⟩⟩) (by rw[zaI,b,zbU,zan,zbU,zan];simp only[zce,zas,zb8,zaM];omega)
  refine⟨us,?_,h1,h2,h3⟩;have r:(acc.length+1)*64<=140737488355328:=by omega
  rw[g375L0e]at f ⊢;simp at e;simp[tC,zC,uC]at f;simp(disch:=omega)[-getElem?_pos,g375B0,tC,zC,uC,hi,b,ah,e,r];rw[g375L0e];simp[f]
theorem c375x{t:Ty}(b:bH t):∃u:Ty,(aC AP).p 375 [t.pv]=some [u.pv]∧Y2 t u:=by
 revert b
 refine Ty.cB (p:=fun t=>bH t->∃u:Ty,(aC AP).p 375 [t.pv]=some [u.pv]∧Y2 t u) ?_ t;intro t l b;have c:t∈t.nodes:=by rw[Ty.aM];simp
 have d:1<=t.nodes.length:=by rw[Ty.aM];simp
 by_cases q:t.kind=3∧t.home=99
 ·have k:=c63 (n:=IntKind.i64.wrap (900+t.id));refine⟨⟨1,[],IntKind.i64.wrap (900+t.id),0,[]⟩,?_,⟨bQ rfl,.bare rfl (by simp) (by simp),tz rfl (.inl rfl),?_,by rw[Ty.aM];simpa using d⟩⟩
  ·simp at k;rw[az g375];simp[g375,q.1,q.2,k]
  ·intro y hy _;rw[Ty.aM]at hy;simp at hy;subst hy;exact⟨t,c,q.1,q.2,rfl⟩
 ·obtain⟨us,e,h1,h2,h3⟩:=SC b.ok (fun a i=>l a i (b.cY a i)) _ 0 rfl (by omega) [] rfl (by simp) (by simp);refine⟨⟨t.kind,t.name,t.id,t.home,us⟩,?_,⟨⟨by have:=b.ok.sm;unfold Sm at*;simp only;omega,fun y hy=>(h2 y hy).ok⟩,.mk (fun r=>?_) b.kn.nm fun y hy=>(h2 y hy).kn,Hj b.vn h1 fun y hy=>(h2 y hy).vn,?_,by rw[Ty.aM,Ty.aM t];simp only[zax];omega⟩⟩
  ·rw[az g375];rw[g375L0e]at e;simp[tC,zC,uC]at e;by_cases g:t.kind=3
   ·have j:¬t.home=99:=fun h=>q ⟨g,h⟩;simp[g]at e;simp[g375,g,j,g375L0e,e]
   ·simp[g375,g,g375L0e,e]
  ·have:=b.kn.hd r;refine⟨RY _ this.1,?_⟩;rw[this.2]at h1;exact za6.1 h1
  ·intro y hy f;rw[Ty.aM]at hy;simp only[zah,zam]at hy;rcases hy with rfl|⟨u,hu,hy⟩
   ·have:=(b.kn.hd (by change t.kind=1 at f;rw[f];decide)).1
    change t.kind=1 at f
    rw[f]at this;simp at this
   ·exact(h2 u hu).vr y hy f
theorem Oo{l:List Ty}:∀{out:List Ty}{y:Ty},y∈out∨y∈l->y∈l.foldl iE out:=by
 induction l with
 |nil=>intro out y h;simpa using h
 |cons a r b=>
  intro out y h;rw[zaU];refine b ?_;rcases h with h|h
  ·left;unfold iE;split
   ·exact h
   ·simp[h]
  ·simp only[zah]at h;rcases h with rfl|h
   ·left;unfold iE;split
    ·assumption
    ·simp
   ·exact .inr h
theorem c59x{u:Ty}(hu:u.Ok)(hn:u.nodes.length<=4000):∃r:List Ty,(aC AP).p 59 [.aq [u.pv]]=some [.aq (r.map Ty.pv)]∧Sm r∧∀y∈u.fw 3,y∈r:=by
 have hl:=nO (k:=3) (t:=u);have c0:gR (u.fw 3) []:=⟨by simp,by simp,by omega,fun x hx=>bQ (lC x hx)⟩;have a:∀x∈[u].flatMap (Ty.fw 3),x∈u.fw 3:=by simp
 have h:=YT (S:=u.fw 3) (l:=[u]) (by simp[Sm]) (by simpa using hu) a _ 0 rfl (by omega) [] c0;have b:=c0.fold a;refine⟨_,?_,b.len,fun y hy=>Oo (.inr (by simpa using hy))⟩;rw[az g59];rw[g59L0e]at h;simp at h;simp[g59,g59L0e,h]
theorem Oq{k:Int}{t:Ty}:∀y∈t.nodes,y.kind=k->y.args=[]->y∈t.fw k:=by
 refine Ty.cB (p:=fun t=>∀y∈t.nodes,y.kind=k->y.args=[]->y∈t.fw k) ?_ t;intro t e y hy c d;rw[Ty.aM]at hy;rw[Ty.mi];simp only[zah,zam]at hy;rcases hy with rfl|⟨a,b,hy⟩
 ·rw[zak ⟨c,by rw[d];rfl⟩];simp
 ·have:¬(t.kind=k∧t.args.length=0):=by
   rintro⟨_,h⟩
   rw[za6.1 h]at b;cases b
  rw[zad this];simp only[zam];exact⟨a,b,e a b y hy c d⟩
theorem Ot{r:List Ty}(hr:Sm r){t:Ty}:∀(n i:Nat),r.length-i=n->i<=r.length->∀acc:List Int,acc.length<=i->∃ids:List Int,ids.length<=r.length∧(∀v∈acc,v∈ids)∧(∀z∈r.drop i,z.home=99->IntKind.i64.wrap (900+z.id)∈ids)∧
   cl AP g361L0 ⟨[(1,.au 1 0),(2,.au 2 0),(3,.own (acc.map vI) 0),(4,.pv (.aq (r.map Ty.pv))),(5,.pv (vI i))],[(1,tC t),(2,gz 1)],[],[acc.length,0]⟩=
     some (.exit 0,⟨[(1,.au 1 0),(2,.au 2 0),(3,.own (ids.map vI) 0),(4,.pv (.aq (r.map Ty.pv))),(5,.pv (vI r.length)),(12,.pv (.bool false))],[(1,tC t),(2,gz 1)],[],[ids.length,0]⟩)
 |0,i,hn,hi,acc,d=>by
  have:i=r.length:=by omega
  subst this;refine⟨acc,d,fun _ h=>h,by simp,?_⟩;rw[g361L0e];simp[g361B0,tC,gz]
 |n+1,i,hn,hi,acc,d=>by
  have hi:i<r.length:=(by omega);obtain⟨x,hx⟩:=aP hi;have c:=hr;unfold Sm at hr;have j:(acc.length+1)*8<=140737488355328:=(by omega);have b:a7 1 (acc.map vI)=true:=eV.head acc;rw[aV hx];by_cases q:x.home=99
  ·obtain⟨ids,h1,h2,h3,e⟩:=Ot (t:=t) c n (i+1) (by omega) (by omega) (acc++[IntKind.i64.wrap (900+x.id)]) (by simp;omega);refine⟨ids,h1,fun v g=>h2 v (by simp[g]),?_,?_⟩
   ·intro z a b;simp only[zah]at a;rcases a with rfl|a
    ·exact h2 _ (by simp)
    ·exact h3 z a b
   ·rw[g361L0e]at e⊢;simp[tC,gz]at e;simp(disch:=omega)[-getElem?_pos,g361B0,tC,gz,hx,hi,q,j,b];rw[g361L0e];have f:IntKind.i64.wrap ((i:Int)+1)=(i:Int)+1:=ah (by omega) (by omega);simp[f,e]
  ·obtain⟨ids,h1,h2,h3,e⟩:=Ot (t:=t) c n (i+1) (by omega) (by omega) acc (by omega);refine⟨ids,h1,h2,?_,?_⟩
   ·intro z a b;simp only[zah]at a;rcases a with rfl|a
    ·exact absurd b q
    ·exact h3 z a b
   ·rw[g361L0e]at e⊢;simp[tC,gz]at e;simp(disch:=omega)[-getElem?_pos,g361B0,tC,gz,hx,hi,q,ah];rw[g361L0e];simp[e]
theorem kt{ids:List Int}:∀(vs:List Int)(acc:List As),(∀a∈acc,∃k:Nat,k<acc.length∧a.ty=aX k)->(∀a∈bF ids vs acc,∃k:Nat,k<(bF ids vs acc).length∧a.ty=aX k)∧(bF ids vs acc).length<=acc.length+vs.length∧(∀v,(∃x,iH acc v=some x)->∃x,iH (bF ids vs acc) v=some x)∧∀v∈vs,v∈ids->∃x,iH (bF ids vs acc) v=some x
 |[],acc,h=>⟨h,by simp[bF],fun _ h=>h,by simp⟩
 |v::r,acc,h=>by
  simp only[bF];by_cases q:v∈ids
  ·rw[zak q]
   obtain⟨h1,h2,h3,h4⟩:=kt (ids:=ids) r (acc++[⟨v,aX acc.length⟩]) (by
    intro a b;simp at b;rcases b with b|rfl
    ·obtain⟨k,c,e⟩:=h a b;exact⟨k,by simp;omega,e⟩
    ·exact⟨acc.length,by simp,rfl⟩)
   refine⟨h1,by simp at h2⊢;omega,?_,?_⟩
   ·rintro w ⟨x,hx⟩
    exact h3 w ⟨x,by rw[yX,hx];rfl⟩
   ·intro w hw hi;simp only[zah]at hw;rcases hw with rfl|hw
    ·refine h3 w ?_;rw[yX];cases iH acc w with
     |some x=>exact⟨x,rfl⟩
     |none=>exact⟨aX acc.length,by simp[iH]⟩
    ·exact h4 w hw hi
  ·rw[zad q];obtain⟨h1,h2,h3,h4⟩:=kt (ids:=ids) r acc h;refine⟨h1,by simp;omega,h3,?_⟩;intro w hw hi;simp only[zah]at hw;rcases hw with rfl|hw
   ·exact absurd hi q
   ·exact h4 w hw hi
theorem xu{s:List As}{t:Ty}:∀y∈(t.sub s).nodes,(∃i x,iH s i=some x∧y∈x.nodes)∨∃z∈t.nodes,y.kind=z.kind:=by
 refine Ty.cB (p:=fun t=>∀y∈(t.sub s).nodes,(∃i x,iH s i=some x∧y∈x.nodes)∨∃z∈t.nodes,y.kind=z.kind) ?_ t;intro t f y hy
 have cY:∀a∈t.args,y∈(a.sub s).nodes->(∃i x,iH s i=some x∧y∈x.nodes)∨∃z∈t.nodes,y.kind=z.kind:=by
  intro a d h;rcases f a d y h with h|⟨z,g,h⟩
  ·exact .inl h
  ·exact .inr ⟨z,QW a d z g,h⟩
 have c:t∈t.nodes:=by rw[Ty.aM];simp
 rw[Ty.sub_eq]at hy;split at hy
 ·cases e:iH s t.id with
  |some x=>rw[e]at hy;exact .inl ⟨_,x,e,hy⟩
  |none=>rw[e]at hy;exact .inr ⟨y,by simpa using hy,rfl⟩
 ·rw[Ty.aM]at hy;simp only[zah,zam,zat]at hy;rcases hy with rfl|⟨b,⟨a,d,rfl⟩,hy⟩
  ·exact .inr ⟨t,c,rfl⟩
  ·exact cY a d hy
theorem qY:∀{l:List Ty}{out:List Int},(l.foldl bW out).length<=out.length+l.length
 |[],out=>by simp
 |a::r,out=>by
  have h:=qY (l:=r) (out:=bW out a);have:(bW out a).length<=out.length+1:=by unfold bW;split<;>simp
  simp only[zaU,zax];omega
theorem zw{u:Ty}:(vars [u]).length<=u.nodes.length:=by
 have:=qY (l:=[u].flatMap Ty.nodes) (out:=[]);simpa[vars]using this
theorem lH{l:List Ty}:∀{out:List Int}{y:Ty},y∈l->y.kind=1->y.id∈l.foldl bW out:=by
 have aW:∀(l:List Ty)(out:List Int)(v:Int),v∈out->v∈l.foldl bW out:=by
  intro l;induction l with
  |nil=>intro out v h;exact h
  |cons a r b=>intro out v h;rw[zaU];refine b _ v ?_;unfold bW;split<;>simp[h]
 induction l with
 |nil=>intro out y h;simp at h
 |cons a r b=>
  intro out y h c;rw[zaU];simp only[zah]at h;rcases h with rfl|h
  ·refine aW r _ _ ?_;unfold bW;by_cases q:y.id∈out<;>simp[q,c]
  ·exact b h c
theorem c361x{x:Ty}(o:bH x)(hn:x.nodes.length<=90):∃c:Sc,(aC AP).p 361 [x.pv]=some [c.pv]∧lF c∧c.ty.Vn:=by
 obtain⟨r,w,hr,l⟩:=c59x o.ok (by omega);obtain⟨u,v,T⟩:=c375x o;obtain⟨ids,hi,_,m,h⟩:=Ot (t:=x) hr _ 0 rfl (by omega) [] (by simp);have hl:=nO (k:=1) (t:=u);have A:=T.n;have s:=c208 (t:=u) ⟨T.ok,T.kn.wf,u.fw 1,by omega,fun y hy=>bQ (lC y hy),fun y hy=>hy⟩ (ids:=ids) (by unfold Sm at*;omega);have E:=zw (u:=u);obtain⟨c1,c2,_,D⟩:=kt (ids:=ids) (vars [u]) [] (by simp)
 have f:∀y∈u.nodes,y.kind=1->∃z,iH (bF ids (vars [u]) []) y.id=some z:=by
  intro y hy d;refine D _ (lH (by simpa using hy) d) ?_;obtain⟨z,b,q,j,e⟩:=T.vr y hy d;rw[e]
  refine m z (by
   rw[zar];refine l z ?_;have C:=(o.kn.nodes z b (by rw[q];decide)).2;exact Oq z b q C) j
 refine⟨dB ids u (vars [u]),?_,⟨o9 T.ok,?_,(bF ids (vars [u]) []).length,rfl,by simp at c2;omega,?_⟩,Hk.sub (fun i z b=>by
  obtain⟨a,g,rfl⟩:=fJ b;obtain⟨k,_,e⟩:=c1 a g;rw[e];exact tz rfl (.inr (.inl rfl))) _ T.vn⟩
 ·generalize dB ids u (vars [u])=c at*;rw[g361L0e]at h;simp[tC,gz]at h;simp at w v s;rw[az g361];simp[g361,w,v,s,g361L0e,h]
 ·refine qQ (K:=KS) T.kn (by simp only[KS,KC];omega) ?_ (.inr f);intro i z b;obtain⟨a,g,rfl⟩:=fJ b;obtain⟨k,_,e⟩:=c1 a g;rw[e];exact .bare rfl (by simp[aX]) (by simp[aX])
 ·intro y hy d;rcases xu y hy with⟨i,z,b,hy⟩|⟨z,b,e⟩
  ·obtain⟨a,g,rfl⟩:=fJ b;obtain⟨k,B,e⟩:=c1 a g;rw[e,Ty.aM]at hy;simp[aX]at hy;subst hy;simp only;omega
  ·have:=(T.kn.nodes z b (by rw[<-e,d];decide)).1;rw[<-e,d]at this;simp at this
def Ou:List Ty:=[⟨3,[],0,99,[]⟩,⟨3,[],1,99,[]⟩]
theorem c349{L:List Int}{tm:Nat}{TP:Int->Sh}(hT:Tape L tm TP){ds:List Dt}{dep:Nat}{l:List En}{g:Ty}{i:Nat}(z:Sm L)(a1:dep<10)(O:ds.length<=20)(f:∀d∈ds,d.params.length<=8)(N:∀d∈ds,kZ d.name d.params.length=true)(P:∀d∈ds,d.name.length<=100)(hG:la L tm TP ds dep)(hl:Ctx (1000-20*(dep+1)) l)(hg:bH g)(a4:g.nodes.length<=6000-20*(dep+1))(hi:i<=L.length):
   nS L tm TP (4*(dep+2)) ((aC AP).i 349 [.aI tm 0,.pv (.aq (ds.map Dt.pv)),.pv (.aq (l.map En.pv)),.pv g.pv,.pv (vI (dep+1:Nat))] (TP i) []):=by
 have j:=hT.norm;have e:=hT.shift;have k:=hT.take;obtain⟨r,j1,e1,r0,r1,M⟩:=vD hT z hi (n:=2) (by omega) (by omega);obtain⟨s,j2,e2,hs,K⟩:=Xy hT z M;obtain⟨p,j3,e3,p0,p1,J⟩:=vD hT z K (n:=2) (by omega) (by omega)
 have u:∀t∈(if p=0 then Ou else[]),t.args=[]∧t.kind=3∧t.name=[]:=by
  intro t o;split at o
  ·simp[j,e,k,Ou]at o;rcases o with rfl|rfl<;>exact⟨rfl,rfl,rfl⟩
  ·cases o
 obtain⟨x,j4,e4,mx,I⟩:=Sy hT z O f (lv:=if p=0 then Ou else[]) (by unfold Sm;split<;>simp[j,e,k,Ou]) 2 (by omega) j3 J;have C:bH x:=mq f N P u mx;have a2:=mx.small f (fun t o=>(u t o).1);obtain⟨c,U,sc,sv⟩:=c361x C (by omega);have a3:=hl.len;have k1:=c176 (t:=x);have k2:=c179 (l:=l) (by unfold Sm;omega) (n:=s) (c:=⟨0,x⟩);have F:Ctx (1000-20*dep) l:=hl.bX (by omega)
 have E:Ctx (1000-20*dep) (if r=1 then l++[⟨s,⟨0,x⟩⟩]else l):=by
  split
  ·exact hl.push C.mono (iS _ hs) C.vn (by omega)
  ·exact F
 obtain⟨a,f1,f2,f3,j5,e5,y,H⟩:=hG j4 _ x I E C (by omega);obtain⟨w,Z⟩:=c307 y.sc.ok 10;obtain⟨v,Y⟩:=c307 y.sc.ok 11;have X:=c34;have W:=c176 (t:=bj)
 obtain⟨c',Q,Z5,D⟩:∃c':Sc,c'=(if w=true∨v=true then⟨0,bj⟩else c)∧lF c'∧c'.ty.Vn:=by
  refine⟨_,rfl,?_⟩;split
  ·exact⟨tE.mono,qd⟩
  ·exact⟨sc,sv⟩
 have V:=c179 (l:=l) (by unfold Sm;omega) (n:=s) (c:=c');obtain⟨b,f4,f5,f6,j6,R,hb,G⟩:=hG j5 _ g H (hl.push (s:=s) Z5 (iS _ hs) D (by omega)) hg (by omega);have h:=kq f1 f2 f3 a;generalize jr f1 f2 f3 a=A at e5 h;have q:=kq f4 f5 f6 b;generalize jr f4 f5 f6 b=B at R q;have ac:=Ex.aE a;have bc:=Ex.aE b;have tA:A.take 11=A:=zaw (by rw[h.len];omega);have hk:6+r≠8:=by omega
 refine⟨⟨6+r,0,s,0,[a,b],[],ca⟩,true,true,true,j6,?_,(lG (Q3 (by omega) (iS _ hs)) hk (by simp) ph pj (by simpa using⟨y,hb⟩) (.Q0 (by simp only;omega) (iS _ hs).1 rfl rfl y.tx hb.tx)).up (by omega),G⟩;have h2:(dep:Int)+1-1=dep:=by omega
 have T:=c71 (n:=99) (m:=0);have S:=c71 (n:=99) (m:=1);have hr:r=0∨r=1:=by omega
 simp[j,e,k,Ty.av]at e1 e2 e3 e4 U k1 k2 Z Y e5;rw[aA g349];rcases hr with rfl|rfl<;>by_cases hp:p=0<;>cases w<;>cases v<;>subst Q<;>simp[j,e,k,bj]at X W V R<;>simp[j,e,k,hp,Ou]at e4 e5 T S <;>
 simp (disch:=omega) [j,e,k,g349,h2,e1,e2,e3,hp,e4,U,k1,k2,Z,Y,X,W,V,e5,R,T,S,ah,h.ej,h.flat,h.oB,h.len,h.leaf,q.ej,q.flat,q.oB,q.len,q.leaf,tA,ac,bc,aS,jr,eI,ca]
theorem KU{vs:List Int}{x:Ty}{v:Int}(h:v∈vs):iH (vs.map fun v=>As.mk v x) v=some x:=by
 induction vs with
 |nil=>simp at h
 |cons a r b=>
  simp only[zao,iH];by_cases e:a=v
  ·simp[e]
  ·simp only[zah]at h;rcases h with h|h
   ·exact absurd h.symm e
   ·simp[e,b h]
theorem pk{vs:List Int}{x y:Ty}{v:Int}(h:iH (vs.map fun v=>As.mk v x) v=some y):y=x:=by
 obtain⟨a,b,rfl⟩:=fJ h;simp only[zat]at b;obtain⟨w,_,rfl⟩:=b;rfl
theorem zx{s:List As}(hs:∀i x,iH s i=some x->x.nodes.length<=1)(t:Ty):(t.sub s).nodes.length<=t.nodes.length:=by
 refine Ty.cB (p:=fun t=>(t.sub s).nodes.length<=t.nodes.length) ?_ t;intro t c;rw[Ty.sub_eq];split
 ·cases e:iH s t.id with
  |some x=>
   have:=hs _ _ e;rw[Ty.aM t];simp only[zbi,zax];omega
  |none=>exact zaj _
 ·rw[Ty.aM,Ty.aM t];simp only[zax,zaZ,zb0]
  have:(t.args.map ((fun x=>x.nodes.length) ∘ Ty.sub s)).sum<=(t.args.map fun x=>x.nodes.length).sum:=by
   generalize t.args=l at c;induction l with
   |nil=>simp
   |cons a r b=>
    have h1:=c a (by simp);have h2:=b fun x hx=>c x (by simp[hx])
    simp only[zao,zbI,Function.comp_apply];omega
  omega
theorem c363x{t:Ty}(h:KQ t)(c:t.Vn):∃u:Ty,(aC AP).p 363 [t.pv]=some [u.pv]∧bH u∧u.nodes.length<=4000:=by
 have hl:=nO (k:=1) (t:=t);have hn:=h.2;refine⟨_,c363 (S:=t.fw 1) (by omega) (fun x hx=>bQ (lC x hx)) (t:=t) ⟨h.1.1,h.1.2.wf,fun x hx=>hx⟩,⟨?_,?_,Hk.sub (fun i x hx=>by rw[pk hx];exact qd) _ c⟩,zaR (zx (fun i x hx=>by rw[pk hx,Ty.aM];simp[bj]) t) h.2⟩
 ·refine uW ?_ h.1.1;intro a b;simp only[zat]at b;obtain⟨w,_,rfl⟩:=b;exact tE.ok
 ·refine qQ (K:=KS) h.1.2 (by simp only[KS,KG];omega) ?_ (.inr ?_)
  ·intro i x hx;rw[pk hx];exact tE.kn
  ·intro y hy d;exact⟨bj,KU (lH (by simpa using hy) d)⟩
def Vt(h:Hd):List AV:=[.pv (.str h.name),.pv (.bool h.dK),.pv (.aq (h.args.map Ty.pv)),.pv (.aq (h.types.map Ty.pv))]
def Vu(k:Int)(s:bD)(ks:List Ex):List AV:=[.pv (vI k),.pv (vI 0),.pv (.str s),.pv (vI 0),.own (ks.map Ex.pv) 3,.own [] 4,.pv (vI 0),.pv (.str []),.pv (vI 0),.pv (vI 0),.own [] 5]
theorem XF{L:List Int}{tm:Nat}{TP:Int->Sh}(hT:Tape L tm TP){ds:List Dt}{dep:Nat}{l:List En}(f:dep<10)(B:la L tm TP ds dep)(hl:Ctx (1000-20*dep) l){h:Hd}(g:vA h):∀(n i:Nat),h.args.length-i=n->i<=h.args.length->∀(k:Int)(s:bD)(ks:List Ex)(I N:Nat),vU N ⟨k,0,s,0,ks,[],ca⟩->4*(dep+1)<=N->N+n<=4*(dep+1)+3->I<=L.length->∃(k':Int)(s':bD)(b:List Ex)(J:Nat),vU (N+n) ⟨k',0,s',0,b,[],ca⟩∧J<=L.length ∧
   cl AP g352L0 ⟨[(0,.aI tm 0),(1,.pv (.aq (ds.map Dt.pv))),(2,.pv (.aq (l.map En.pv))),(4,.pv (vI (dep+1))),(10,.au 10 0),(12,.au 12 0),(13,.au 13 0),(14,.pv (vI i))],[(10,pY 0),(12,Vt h),(13,Vu k s ks)],TP I,[0,0,0,ks.length,0,0]⟩=
     some (.exit 0,⟨[(0,.aI tm 0),(1,.pv (.aq (ds.map Dt.pv))),(2,.pv (.aq (l.map En.pv))),(4,.pv (vI (dep+1))),(10,.au 10 0),(12,.au 12 0),(13,.au 13 0),(14,.pv (vI h.args.length)),(45,.pv (.bool false))],[(10,pY 0),(12,Vt h),(13,Vu k' s' b)],TP J,[0,0,0,b.length,0,0]⟩)
 |0,i,hn,hi,k,s,ks,I,N,q,hN,v,w=>by
  have d:=hT.norm;have a:=hT.shift;have e:=hT.take;have:i=h.args.length:=(by omega);subst this;refine⟨k,s,ks,I,q,w,?_⟩;rw[g352L0e];simp[d,a,e,g352B0,pY,Vt,Vu]
 |n+1,i,hn,hi,k,s,ks,I,N,q,hN,v,w=>by
  have d:=hT.norm;have a:=hT.shift;have e:=hT.take;have hi:i<h.args.length:=(by omega);obtain⟨t,o⟩:=aP hi;obtain⟨u,z,F,K⟩:=c363x (g.2.1 t (aN o)).1 (g.2.1 t (aN o)).2;obtain⟨y,f1,f2,f3,j,m,hy,hj⟩:=B I l u w hl F (by omega)
  have p:vU (N+1) ⟨5,0,[],0,[⟨k,0,s,0,ks,[],ca⟩,y],[],ca⟩:=by
   obtain⟨r,rfl⟩:∃r,N=4*(dep+1)+r:=⟨N-4*(dep+1),by omega⟩;exact Q5 (by omega) (by omega) q hy
  obtain⟨k',s',b,J,E,D,x⟩:=XF hT f B hl g n (i+1) (by omega) (by omega) 5 [] [⟨k,0,s,0,ks,[],ca⟩,y] j (N+1) p (by omega) (by omega) hj;refine⟨k',s',b,J,E.up (by omega),D,?_⟩;have c:=kq f1 f2 f3 y;generalize jr f1 f2 f3 y=A at m c;have G:=Ex.aE y;have C:A.take 11=A:=zaw (by rw[c.len];omega);have h2:(dep:Int)+1-1=dep:=by omega
  have H:=g.1;rw[g352L0e]at x ⊢;simp[d,a,e,pY,Vt,Vu,ca]at x
  try simp[d,a,e]at z m
  simp (disch:=omega) [d,a,e,-getElem?_pos,g352B0,pY,Vt,Vu,o,hi,h2,z,m,ah,c.ej,c.flat,c.oB,c.len,c.leaf,C,G,aS];rw[g352L0e];simp[d,a,e,x]
theorem c352{L:List Int}{tm:Nat}{TP:Int->Sh}(hT:Tape L tm TP){ds:List Dt}{dep:Nat}{l:List En}{g:Ty}{i:Nat}(s:Sm L)(f:dep<10)(B:ni ds)(A:la L tm TP ds dep)(hl:Ctx (1000-20*(dep+1)) l)(r:bH g)(hi:i<=L.length):
   nS L tm TP (4*(dep+2)) ((aC AP).i 352 [.aI tm 0,.pv (.aq (ds.map Dt.pv)),.pv (.aq (l.map En.pv)),.pv g.pv,.pv (vI (dep+1:Nat))] (TP i) []):=by
 have c:=hT.norm;have a:=hT.shift;have d:=hT.take;have x:=hl.len;obtain⟨hs,C,y,p⟩:=c362 r B (l:=l) (by omega) hl.Yy hl.vn hl.nm;by_cases z:hs=[]
 ·subst z;obtain⟨e,f1,f2,f3,j,k,w,hj⟩:=c348 hT s (ds:=ds) (hl.bX (by omega)) r hi;refine⟨e,f1,f2,f3,j,?_,w.up (by omega),hj⟩
  try simp[c,a,d]at p
  rw[aA g352];cases f1<;>cases f2<;>cases f3<;>simp[c,a,d,jr,eI]at k<;>simp[c,a,d,g352,p,k,jr,eI,aS]
 ·have hp:0<hs.length:=zaP.2 z;obtain⟨m,j,e1,m0,v,hj⟩:=vD hT s hi (n:=hs.length) (by omega) (by omega);obtain⟨m,rfl,hm⟩:=uT m0 v;obtain⟨h,hx⟩:=aP hm;have b:=y h (aN hx);have D:=b.1;obtain⟨k',s',q,J,u,t,e2⟩:=XF hT (L:=L) (l:=l) f A (hl.bX (by omega)) b _ 0 rfl (by omega) (if h.dK=true then 2 else 1) h.name [] j (4*(dep+1)) ((ji (.inl ⟨by have h3:=b.2.2;cases o:h.dK with|true=>rw[o]at h3;exact .inr ⟨by simp,h3⟩|false=>rw[o]at h3;exact .inl ⟨by simp,h3⟩,rfl⟩)).up (by omega)) (by omega) (by omega) hj;refine⟨⟨k',0,s',0,q,[],ca⟩,false,false,false,J,?_,u.up (by omega),t⟩;rw[g352L0e]at e2
  try simp[c,a,d]at p e1
  rw[aA g352];cases o:h.dK<;>simp[c,a,d,pY,Vt,Vu,o]at e2<;>simp[c,a,d,-getElem?_pos,g352,p,z,e1,hx,o,g352L0e,e2,jr,eI,ca,aS]
theorem zy:∀d∈bp,d.params.length<=100∧∀c∈d.cons,∀f∈c.fields,QX ⟨d.params.length,f.iQ d.params⟩=true:=by decide +kernel
theorem Ov{K:Nat}{t:Ty}(h:lF ⟨K,t⟩)(c:t.Vn){as:List Ty}(e:as.length=K)(b:∀a∈as,bH a):bH (t.fQ as):=by
 obtain⟨K',h1,_,h3⟩:=h.Od;have:K'=K:=by simp at h1;omega
 subst this;exact⟨nd (fun a h=>(b a h).ok) h.ok,zc h.kn (by simp only[KC,KG];omega) (fun a h=>(b a h).kn) (fun y hy d=>by have:=h3 y hy d;omega),Hk.fQ (fun a h=>(b a h).vn) _ c⟩
theorem UM:∀d∈bp,∀c∈d.cons,c.fields.length<=4:=by decide +kernel
theorem Cy{ds:List Dt}(k:ni ds){s:bD}{as:List Ty}(i:∀a∈as,bH a):((fieldsOf ds s as).getD []).length<=4∧∀f∈(fieldsOf ds s as).getD [],bH f:=by
 cases e:fieldsOf ds s as with
 |none=>simp
 |some fs=>
  simp only[fieldsOf,zaz]at e;obtain⟨q,_,d,hd,c,g,e⟩:=e;split at e
  ·rename_i hl;cases e;have b:=k.all d (aN hd);obtain⟨_,_,h8⟩:=bV d b;obtain⟨j,h⟩:=zy d b;refine⟨by simpa using UM d b c (aN g),?_⟩;intro f hf;simp only[zbi,zat]at hf;obtain⟨x,hx,rfl⟩:=hf;exact Ov (nR rfl j (h c (aN g) x hx)) ((zm d b c (aN g)).2.1 x hx) hl i
  ·cases e
theorem ni.small{ds:List Dt}(h:ni ds):Small ds where
 num:=by have:=h.len;unfold Sm;omega
 dK:=fun d hd=>by have:=(bV d (h.all d hd)).2.1;unfold Sm;omega
 Z2:=by have:=h.len;have:=QL (b:=8) fun d hd=>(bV d (h.all d hd)).2.1;unfold Sm;omega
 par:=fun d hd=>by have:=(bV d (h.all d hd)).1;unfold Sm;omega
 R7:=fun d hd c e=>by
  obtain⟨a,b,c2⟩:=Hl (h.all d hd) c e;exact⟨a,b,fun x hx=>(c2 x hx).cw⟩
theorem SD{L:List Int}{tm:Nat}{TP:Int->Sh}(hT:Tape L tm TP)(u:Sm L){ds:List Dt}(h:ds.length<=20)(b:∀d∈ds,d.params.length<=8)(f:∀d∈ds,kZ d.name d.params.length=true)(l:∀d∈ds,d.name.length<=100){p2:PV}{p4:PV}{g:Ty}{d:Dt}(p:d.params.length<=8):∀(n k:Nat),d.params.length-k=n->k<=d.params.length->∀(acc:List Ty)(i:Nat),acc.length=k->(∀x∈acc,bH x∧x.nodes.length<=9)->i<=L.length->
   ∃(r:List Ty)(j:Nat),r.length=d.params.length∧(∀x∈r,bH x∧x.nodes.length<=9)∧j<=L.length ∧
   cl AP g350L0 ⟨[(0,.aI tm 0),(1,.pv (.aq (ds.map Dt.pv))),(2,.pv p2),(4,.pv p4),(8,.au 8 0),(10,.au 10 0),(11,.au 11 0),(12,.own (acc.map Ty.pv) 0),(13,.pv (vI k))],[(8,tC g),(10,pY 1),(11,Gc d)],TP i,[acc.length,0,0,0]⟩=
     some (.exit 0,⟨[(0,.aI tm 0),(1,.pv (.aq (ds.map Dt.pv))),(2,.pv p2),(4,.pv p4),(8,.au 8 0),(10,.au 10 0),(11,.au 11 0),(12,.own (r.map Ty.pv) 0),(13,.pv (vI d.params.length)),(41,.pv (.bool false))],[(8,tC g),(10,pY 1),(11,Gc d)],TP j,[r.length,0,0,0]⟩)
 |0,k,hn,m,acc,i,s,hm,hi=>by
  have c:=hT.norm;have a:=hT.shift;have e:=hT.take;have:k=d.params.length:=(by omega);subst this;refine⟨acc,i,s,hm,hi,?_⟩;rw[g350L0e];simp[c,a,e,g350B0,tC,pY,Gc]
 |n+1,k,hn,m,acc,i,s,hm,hi=>by
  have c:=hT.norm;have a:=hT.shift;have e:=hT.take;have m:k<d.params.length:=(by omega);obtain⟨t,v,e1,mt,o⟩:=Sy hT u h b (lv:=[]) (by simp[c,a,e,Sm]) 1 (by omega) i hi;have y:bH t:=mq b f l (by simp) mt;have z:=mt.small b (by simp)
  obtain⟨r,j,h1,h2,h3,q⟩:=SD hT u h b f l (p2:=p2) (p4:=p4) (g:=g) p n (k+1) (by omega) (by omega) (acc++[t]) v (by simp;omega) (by
   intro x hx;simp at hx;rcases hx with hx|rfl
   ·exact hm x hx
   ·exact⟨y,by omega⟩) o
  refine⟨r,j,h1,h2,h3,?_⟩;have w:(acc.length+1)*64<=140737488355328:=by omega
  rw[g350L0e]at q ⊢;simp[c,a,e,tC,pY,Gc]at q;simp[c,a,e,Ty.av]at e1;simp(disch:=omega)[c,a,e,-getElem?_pos,g350B0,tC,pY,Gc,m,e1,w,ah];rw[g350L0e];simp[c,a,e,q]
def Pd(x:Ex)(as:List Ar):List AV:=[.pv (vI 8),.pv (vI 0),.pv (.str []),.pv (vI 0),.own [x.pv] 4,.own (as.map Ar.pv) 5,.pv (vI 0),.pv (.str []),.pv (vI 0),.pv (vI 0),.own [] 6]
def Vv(c:jI)(vs:List bD):List AV:=[.pv (vI 0),.pv (.str c.name),.own (vs.map .str) 7,.pv (vI 0),.pv (vI 0),.pv (.str []),.pv (vI 0),.own [] 8,.own [] 9,.pv (vI 0),.pv (.str []),.pv (vI 0),.pv (vI 0),.own [] 10]
def Yz:List bD:=[[120],[121],[122],[119]]
theorem Hs:∀s∈Yz,tD false s:=by decide +kernel
theorem SE{L:List Int}{tm:Nat}{TP:Int->Sh}(hT:Tape L tm TP){I:Nat}{p1 p2 p4:PV}{g:Ty}{d:Dt}{as:List Ty}{x:Ex}{ar:List Ar}{C:Nat}{c:jI}{f:List Ty}(w:f.length<=8)(hf:∀t∈f,bH t){N:Nat}(hN:N<=10000):∀(n k:Nat),f.length-k=n->k<=f.length->∀(vs:List bD)(l:List En),vs.length=k->(∀v∈vs,tD false v)->Ctx (N+k) l->
   ∃(r:List bD)(l':List En),r.length=f.length∧(∀v∈r,tD false v)∧Ctx (N+f.length) l' ∧
   cl AP g350L2 ⟨[(0,.aI tm 0),(1,.pv p1),(2,.pv p2),(4,.pv p4),(8,.au 8 0),(10,.au 10 0),(11,.au 11 0),(12,.own (as.map Ty.pv) 0),(14,.au 14 0),(15,.pv (vI C)),(16,.pv (.aq (f.map Ty.pv))),(18,.au 18 0),(19,.pv (.aq (l.map En.pv))),(20,.pv (vI k))],
     [(8,tC g),(10,pY 1),(11,Gc d),(14,Pd x ar),(18,Vv c vs)],TP I,[as.length,0,0,0,1,ar.length,0,vs.length,0,0,0]⟩=
     some (.exit 4,⟨[(0,.aI tm 0),(1,.pv p1),(2,.pv p2),(4,.pv p4),(8,.au 8 0),(10,.au 10 0),(11,.au 11 0),(12,.own (as.map Ty.pv) 0),(14,.au 14 0),(15,.pv (vI C)),(16,.pv (.aq (f.map Ty.pv))),(18,.au 18 0),(19,.pv (.aq (l'.map En.pv))),(20,.pv (vI f.length)),(92,.pv (.bool false))],
     [(8,tC g),(10,pY 1),(11,Gc d),(14,Pd x ar),(18,Vv c r)],TP I,[as.length,0,0,0,1,ar.length,0,r.length,0,0,0]⟩)
 |0,k,hn,o,vs,l,j,h,hl=>by
  have b:=hT.norm;have a:=hT.shift;have e:=hT.take;have:k=f.length:=(by omega);subst this;refine⟨vs,l,j,h,hl,?_⟩;rw[g350L2e];simp[b,a,e,g350B2,tC,pY,Gc,Pd,Vv]
 |n+1,k,hn,o,vs,l,j,h,hl=>by
  have b:=hT.norm;have a:=hT.shift;have e:=hT.take;have o:k<f.length:=(by omega);obtain⟨t,p⟩:=aP o;have E:=hl.len;obtain⟨q,m,D⟩:∃q:Nat,(k:Int).tmod 4=q∧q<4:=⟨((k:Int) % 4).toNat,by rw[Int.tmod_eq_emod_of_nonneg (by omega)];omega,by omega⟩;obtain⟨s,hs⟩:=aP (l:=Yz) (i:=q) (by simpa[Yz]using D);have B:=c176 (t:=t);have A:=c179 (l:=l) (by unfold Sm;omega) (n:=s) (c:=⟨0,t⟩)
  obtain⟨r,l',h1,y,h2,z⟩:=SE hT (L:=L) (I:=I) (p1:=p1) (p2:=p2) (p4:=p4) (g:=g) (d:=d) (as:=as) (x:=x) (ar:=ar) (C:=C) (c:=c) w hf hN n (k+1) (by omega) (by omega) (vs++[s]) (l++[⟨s,⟨0,t⟩⟩]) (by simp;omega) (by
   intro v j;simp only[zai,zaJ]at j;rcases j with j|rfl
   ·exact h v j
   ·exact Hs _ (aN hs)) (hl.push (hf t (aN p)).mono (Hs _ (aN hs)) (hf t (aN p)).vn (by omega))
  refine⟨r,l',h1,y,h2,?_⟩;have F:(vs.length+1)*16<=140737488355328:=by omega
  have u:([PV.str [120],.str [121],.str [122],.str [119]]:List PV)[q]?=some (.str s):=by
   have:([PV.str [120],.str [121],.str [122],.str [119]]:List PV)=Yz.map PV.str:=rfl;rw[this];simp[b,a,e,hs]
  rw[g350L2e]at z ⊢;simp[b,a,e,tC,pY,Gc,Pd,Vv]at z
  try simp[b,a,e]at B A
  simp (disch:=omega) [b,a,e,-getElem?_pos,g350B2,tC,pY,Gc,Pd,Vv,o,p,m,u,B,A,F,ah,aS];rw[g350L2e];simp[b,a,e,z]
def Mc.cx(m:Mc)(k:Nat):List AV:=[.pv (.aq (m.ds.map Dt.pv)),.pv (vI m.home),.pv (.aq (m.s.sl.map Sl.pv)),.pv (.aq (m.s.tr.map Ch.pv)),.pv (vI m.err),.pv (vI m.pos),.own (m.rc.map Ho.pv) k,.own (m.hd.map .bool) (k+1)]
def Pe(h:Int)(s:c_):Nat->c_
 |0=>s
 |i+1=>bC (Pe h s i) h false
theorem zz{n:Nat}{s:c_}(I:p8 n s)(h:Int):∀i,p8 (n+i) (Pe h s i)
 |0=>I
 |i+1=>(zz I h i).fresh h
theorem Ht(s:c_)(h:Int):∀i,Ext s.sl (Pe h s i).sl
 |0=>.refl _
 |i+1=>(Ht s h i).trans (Ext.fresh _ h false)
def fh(n K:Nat):List Ty:=(List.range' n K).map fun j:Nat=>aQ j
theorem xy(n K:Nat):fh n (K+1)=fh n K++[aQ (n+K:Nat)]:=by simp[fh,List.range'_concat]
@[simp] theorem nj(n K:Nat):(fh n K).length=K:=by simp[fh]
theorem qf{n K:Nat}:∀x∈fh n K,dM (n+K) x:=by
 intro x hx;simp only[fh,zat,List.mem_range'_1]at hx;obtain⟨j,hj,rfl⟩:=hx;exact mm (d8.2 (by omega))
def nT(m:Mc)(i:Nat):Mc:={m with s:=Pe m.home m.s i}
theorem XG{m:Mc}{n:Nat}(I:p8 n m.s){c:Sc}{K:Nat}(b:c.id=K)(hn:n+K<=1000000):∀(k i:Nat),K-i=k->i<=K->
   cl AP g382L0 ⟨[(0,.aI 0 0),(3,.au 3 0),(4,.au 4 0),(6,.own ((fh n i).map Ty.pv) 0),(7,.pv (vI i))],[(3,vw c),(4,zC 1)],[some ((nT m i).cx 2)],[i,0,m.rc.length,m.hd.length]⟩=
     some (.exit 0,⟨[(0,.aI 0 0),(3,.au 3 0),(4,.au 4 0),(6,.own ((fh n K).map Ty.pv) 0),(7,.pv (vI K)),(11,.pv (.bool false))],[(3,vw c),(4,zC 1)],[some ((nT m K).cx 2)],[K,0,m.rc.length,m.hd.length]⟩)
 |0,i,d,hi=>by
  have:i=K:=by omega
  subst this;rw[g382L0e];simp[g382B0,vw,zC,b,Mc.cx,nT]
 |k+1,i,d,hi=>by
  have hi:i<K:=(by omega);have e:=c367 (m:=nT m i) (n:=n+i) (zz I m.home i) (by omega);have a:=XG I b hn k (i+1) (by omega) (by omega);have f:(i+1)*64<=140737488355328:=(by omega);have hl:=nj n i;rw[xy]at a;unfold jj at e;simp[Mc.sh,Mc.tk,Mc.cells,nT,aQ]at e;rw[g382L0e]at a⊢;simp[vw,zC,b,Mc.cx,nT,Pe,aQ]at a;generalize fh n i=acc at*;generalize bC (Pe m.home m.s i) m.home false=g at*;subst hl;simp(disch:=omega)[-getElem?_pos,g382B0,vw,zC,b,hi,Mc.cx,nT,e,ah,f];rw[g382L0e];simp[a]
def Hu(t:Ty):AV:=.agg [.pv (vI t.kind),.pv (.str t.name),.pv (vI t.id),.pv (vI t.home),.pv (.aq (t.args.map Ty.pv))]
theorem c382{m:Mc}{n:Nat}(I:p8 n m.s){c:Sc}{K:Nat}(b:c.id=K)(hn:n+K<=1000000)(e:c.ty.Ok):(aC AP).i 382 [.aI 0 0,.pv c.pv] m.sh m.tk=some ([Hu (c.ty.fQ (fh n K)),.own ((fh n K).map Ty.pv) 0],[some ((nT m K).cx 1)],[K,m.rc.length,m.hd.length]):=by
 have h:=XG I b hn _ 0 rfl (by omega);have d:=c48 (s:=fh n K) (by unfold Sm;simp;omega) e;have hl:=nj n K;have h0:fh n 0=[]:=by simp[fh]
 rw[h0]at h;have a:c.pv=.agg [vI c.id,vI c.ty.kind,.str c.ty.name,vI c.ty.id,vI c.ty.home,.aq (c.ty.args.map Ty.pv)]:=rfl;rw[g382L0e]at h;simp[vw,zC,b,Mc.cx,nT,Pe]at h d;generalize fh n K=acc at*;generalize c.ty.fQ acc=u at*;rw[aA g382];simp[g382,Mc.sh,Mc.tk,Mc.cells,Mc.cx,Hu,a,b,g382L0e,h,d,nT,hl]
def aU(l:List Ho):List Ty:=l.flatMap fun h=>h.ctx.map (fun x=>x.sc.ty)++[h.goal]
def Q8(h:Ho):Prop:=h.ctx.length<=1000000
theorem SF{l:List Ho}{i:Nat}{h:Ho}(hi:l[i]?=some h)(d:Q8 h){B:Nat}:∀(n j:Nat),h.ctx.length-j=n->j<=h.ctx.length->∀acc:List Ty,acc.length+n<=B->B<=1000000000000->
   cl AP g356L1 ⟨[(0,.pv (.aq (l.map Ho.pv))),(3,.own (acc.map Ty.pv) 0),(4,.pv (vI i)),(5,.pv (vI j))],[],[],[acc.length]⟩=
     some (.exit 2,⟨[(0,.pv (.aq (l.map Ho.pv))),(3,.own ((acc++(h.ctx.drop j).map fun x=>x.sc.ty).map Ty.pv) 0),(4,.pv (vI i)),(5,.pv (vI h.ctx.length)),(19,.pv (.bool false))],[],[],[acc.length+n]⟩)
 |0,j,hn,hj,acc,f,e=>by
  have:j=h.ctx.length:=by omega
  subst this;have a:=(zaa.1 hi).1;rw[g356L1e];simp[-getElem?_pos,g356B1,hi,a]
 |n+1,j,hn,hj,acc,f,e=>by
  have hj:j<h.ctx.length:=(by omega);obtain⟨x,hx⟩:=aP hj;have a:=(zaa.1 hi).1;have b:=SF hi d n (j+1) (by omega) (by omega) (acc++[x.sc.ty]) (by simp;omega) e;have c:(acc.length+1)*64<=140737488355328:=(by omega);unfold Q8 at d;rw[g356L1e]at b⊢;rw[aV hx];simp at b;simp(disch:=omega)[-getElem?_pos,g356B1,hi,a,hx,hj,c,ah];rw[g356L1e];simp[b];omega
theorem XH{l:List Ho}(hl:l.length<=100000)(f:∀h∈l,Q8 h):∀(n i:Nat),l.length-i=n->i<=l.length->∀acc:List Ty,acc.length+n*1000001<=200000000000->
   cl AP g356L0 ⟨[(0,.pv (.aq (l.map Ho.pv))),(3,.own (acc.map Ty.pv) 0),(4,.pv (vI i))],[],[],[acc.length]⟩=
     some (.exit 0,⟨[(0,.pv (.aq (l.map Ho.pv))),(3,.own ((acc++aU (l.drop i)).map Ty.pv) 0),(4,.pv (vI l.length)),(9,.pv (.bool false))],[],[],[acc.length+(aU (l.drop i)).length]⟩)
 |0,i,hn,hi,acc,g=>by
  have:i=l.length:=by omega
  subst this;rw[g356L0e];simp[g356B0,aU]
 |n+1,i,hn,hi,acc,g=>by
  have hi:i<l.length:=(by omega);obtain⟨h,hx⟩:=aP hi;have a:=f h (aN hx);have c:=a;unfold Q8 at c;have e1:=SF hx a (B:=acc.length+1000001) _ 0 rfl (by omega) acc (by omega) (by omega);have b:=XH hl f n (i+1) (by omega) (by omega) (acc++(h.ctx.map (fun x=>x.sc.ty)++[h.goal])) (by simp;omega);have d:(acc.length+h.ctx.length+1)*64<=140737488355328:=(by omega);have e:=jw.head (acc++h.ctx.map fun x=>x.sc.ty);rw[zbF,zb0]at e;have hr:aU (l.drop i)=(h.ctx.map (fun x=>x.sc.ty)++[h.goal])++aU (l.drop (i+1)):=(by rw[aV hx];simp[aU]);rw[hr];generalize aU (l.drop (i+1))=R at*;rw[g356L1e]at e1;rw[g356L0e]at b⊢;rw[zar]at e1;simp at e1 b;simp(disch:=omega)[-getElem?_pos,g356B0,hi,hx,g356L1e,e1,d,e,ah];rw[g356L0e];simp[b,zbp,Nat.add_comm 1]
theorem c356{l:List Ho}(hl:l.length<=100000)(a:∀h∈l,Q8 h):(aC AP).p 356 [.aq (l.map Ho.pv)]=some [.aq ((aU l).map Ty.pv)]:=by
 have h:=XH hl a _ 0 rfl (by omega) [] (by simp;omega);rw[az g356];rw[g356L0e]at h;simp at h;simp[g356,g356L0e,h]
theorem mr{l:List Ho}(b:∀h∈l,Q8 h):(aU l).length<=l.length*1000001:=by
 unfold aU;rw[zaZ];refine gp fun h a=>?_;have:=b h a
 unfold Q8 at this;simp;omega
theorem Ow{s:List Sl}{v:Int}:∀{m:Nat}{t:Ty},RT s (wk s m t) v->RT s t v
 |0,t,h=>h
 |m+1,t,h=>by
  unfold wk at h;split at h
  ·rename_i x hx;obtain⟨k,i,hi,hx,b⟩:=dL hx;obtain⟨w,a,hr⟩:=Ow h;exact⟨t.id,.var k,.step ⟨i,x,hi,hx,b,a⟩ hr⟩
  ·exact h
theorem SG{s:List Sl}{v:Int}(b:¬nc s v):∀{m:Nat}{t:Ty},RT s t v->RT s (wk s m t) v
 |0,t,h=>h
 |m+1,t,h=>by
  unfold wk;split
  ·rename_i x hx;obtain⟨k,i,hi,hx,c⟩:=dL hx;refine SG b ?_;obtain⟨w,a,hr⟩:=h;rw[iZ k a]at hr;cases hr with
   |refl=>exact absurd ⟨i,x,hi,hx,c⟩ b
   |step e hr=>
    obtain⟨j,y,e1,hy,_,a⟩:=e;have:j=i:=by omega
    subst this;rw[hx]at hy;cases hy;exact⟨_,a,hr⟩
  ·exact h
theorem K9.ig{s:List Sl}(g:CO s){t u:Ty}(h:K9 s t u):∀v,fE u v<->RT s t v∧¬nc s v:=by
 induction h with
 | @mk t u h1 h2 h3 h4 h5 _ e=>
  intro v;constructor
  ·intro c;cases c with
   |var k=>
    have kw:(eK s t).kind=1:=(by rw[<-h1];exact k);rw[h3];exact⟨Ow (m:=s.length+1) ⟨_,.var kw,.refl _⟩,gY kw (lD g)⟩
   | @arg _ a _ k hm c=>
    obtain⟨i,hi⟩:=zbM hm;have hl:=(zaa.1 hi).1;obtain⟨b,f⟩:=aP (l:=(eK s t).args) (i:=i) (by omega);obtain⟨⟨w,hw,hr⟩,hf⟩:=(e i b a f hi v).1 c;exact⟨Ow (m:=s.length+1) ⟨w,.arg (by change (eK s t).kind≠1;rw[<-h1];exact k) (aN f) hw,hr⟩,hf⟩
  ·rintro⟨hr,hf⟩
   obtain⟨w,c,hr⟩:=SG (m:=s.length+1) hf hr
   change fE (eK s t) w at c
   cases c with
   |var k=>
    have:=pX hr (gY k (lD g));rw[this,<-h3];exact .var (by rw[h1];exact k)
   | @arg _ b _ k hm c=>
    obtain⟨i,hi⟩:=zbM hm;have hl:=(zaa.1 hi).1;obtain⟨a,d⟩:=aP (l:=u.args) (i:=i) (by omega);exact .arg (by rw[h1];exact k) (aN d) ((e i b a hi d v).2 ⟨⟨w,c,hr⟩,hf⟩)
theorem Cz{t:Ty}{v:Int}(h:fE t v):∃y∈t.nodes,y.kind=1∧y.id=v:=by
 induction h with
 | @var t k=>exact⟨t,by rw[Ty.aM];simp,k,rfl⟩
 | @arg t a v _ hm _ b=>
  obtain⟨y,hy,e⟩:=b;exact⟨y,by rw[Ty.aM];simp only[zah,zam];exact .inr ⟨a,hm,hy⟩,e⟩
theorem Q9{s:List As}{t:Ty}:∀v,fE (t.sub s) v->(fE t v∧iH s v=none)∨∃i x,iH s i=some x∧fE x v:=by
 refine Ty.cB (p:=fun t=>∀v,fE (t.sub s) v->(fE t v∧iH s v=none)∨∃i x,iH s i=some x∧fE x v) ?_ t;intro t d v h;rw[Ty.sub_eq]at h;by_cases q:t.kind=1
 ·rw[zak q]at h;cases e:iH s t.id with
  |some x=>rw[e]at h;exact .inr ⟨_,x,e,by simpa using h⟩
  |none=>
   rw[e]at h;have h:fE t v:=by simpa using h
   have:=iZ q h;rw[<-this]at e;exact .inl ⟨h,e⟩
 ·rw[zad q]at h;cases h with
  |var k=>exact absurd k q
  | @arg _ a _ k hm f=>
   simp only[zat]at hm;obtain⟨b,c,rfl⟩:=hm;rcases d b c v f with⟨h1,h2⟩|h
   ·exact .inl ⟨.arg q c h1,h2⟩
   ·exact .inr h
structure kA(n:Nat)(c:Sc):Prop where
 ok:c.ty.Ok
 kn:c.ty.Kn KV
 Od:∃K:Nat,c.id=K∧K<=200∧QT K c.ty
 ig:∀w,fE c.ty w->w∈oe n
theorem kA.bX{n m:Nat}{c:Sc}(h:kA n c)(hm:n<=m):kA m c:=⟨h.ok,h.kn,h.Od,fun w a=>lE hm w (h.ig w a)⟩
theorem dM.bX{n m:Nat}{t:Ty}(h:dM n t)(hm:n<=m):dM m t:=Fit.bX h (lE hm)
theorem dM.mono{n:Nat}{t:Ty}(h:dM n t):kA n ⟨0,t⟩:=⟨h.ok,h.wf.imp NX,⟨0,rfl,by omega,by
 intro y hy a;have:=(h.wf.nodes y hy (by rw[a];decide)).1;rw[a]at this;simp at this⟩,h.ig⟩
theorem KX{n:Nat}{u:Ty}(l:u.Ok)(f:u.Kw)(hn:u.nodes.length<=200)(g:∀w,fE u w->w∈oe n)(ids:List Int):kA n (dB ids u (vars [u]))∧∀w,fE (dB ids u (vars [u])).ty w->fE u w∧w∉ids:=by
 have o:=zw (u:=u);obtain⟨c1,c2,_,m⟩:=kt (ids:=ids) (vars [u]) [] (by simp)
 have ig:∀w,fE (dB ids u (vars [u])).ty w->fE u w∧w∉ids:=by
  intro w h;rcases Q9 w h with⟨h1,h2⟩|⟨i,x,hx,hw⟩
  ·refine⟨h1,fun hi=>?_⟩;obtain⟨y,hy,k,e⟩:=Cz h1;obtain⟨x,hx⟩:=m w (by rw[<-e];exact lH (by simpa using hy) k) hi;rw[h2]at hx;cases hx
  ·obtain⟨a,d,rfl⟩:=fJ hx;obtain⟨k,_,e⟩:=c1 a d;rw[e]at hw;cases hw with
   |var q=>simp[aX]at q
   |arg _ hm _=>simp[aX]at hm
 refine⟨⟨o9 l,?_,⟨(bF ids (vars [u]) []).length,rfl,by simp at c2;omega,?_⟩,fun w h=>g w (ig w h).1⟩,ig⟩
 ·refine qQ (K:=KS) f (by simp only[KS,KV];omega) ?_ (.inl (by simp));intro i z b;obtain⟨a,d,rfl⟩:=fJ b;obtain⟨k,_,e⟩:=c1 a d;rw[e];exact .bare rfl (by simp[aX]) (by simp[aX])
 ·intro y hy c;rcases xu y hy with⟨i,z,b,hy⟩|⟨z,b,e⟩
  ·obtain⟨a,d,rfl⟩:=fJ b;obtain⟨k,j,e⟩:=c1 a d;rw[e,Ty.aM]at hy;simp[aX]at hy;subst hy;simp only;omega
  ·have:=(f.nodes z b (by rw[<-e,c];decide)).1;rw[<-e,c]at this;simp at this
end Go.Ab.Lw
