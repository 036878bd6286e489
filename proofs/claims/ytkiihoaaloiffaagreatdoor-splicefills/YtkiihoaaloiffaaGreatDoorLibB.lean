import Derived.Test.YtkiihoaaloiffaaGreatDoorLibA
/- What functions of the given program answer, told of their slim code on the abstract machine. -/
set_option linter.defProp false
set_option linter.unusedVariables false
set_option linter.unusedSimpArgs false
set_option linter.unnecessarySimpa false
set_option maxRecDepth 100000
set_option maxHeartbeats 8000000
namespace Go.Ab
def zb9:=@List.sum_append
def zbL:=@List.flatMap_append
def zcG:=@List.countP_cons
def zaH:=@List.mem_or_eq_of_mem_set
def zcM:=@Nat.mul_add
def zca:=@List.mem_iff_getElem?
def zdb:=@Nat.mul_le_mul
def zbX:=@List.getElem?_of_mem
def zbZ:=@Option.getD_some
def zcz:=@List.map_set
def zcy:=@List.map_congr_left
end Go.Ab
namespace Go.Ab.Lw
open Ev
def Ex.Sz(e:Ex)(K:List Ex)(A:AV):List AV:=[.pv (vI e.kind),.pv (vI e.pos),.pv (.str e.name),.pv (vI e.num),.own (K.map Ex.pv) 0,A,.pv (vI e.ty.kind),.pv (.str e.ty.name),.pv (vI e.ty.id),.pv (vI e.ty.home),.pv (.aq (e.ty.args.map Ty.pv))]
def c374n{e:Ex}(k:e.kids.length<=1000)(hA:e.aB=[]){c:List Ex}(hc:c.length=e.kids.length){X:Sh}(j:aG X):
   (az AP).i 374 [.pv e.pv,.pv (.aq (c.map Ex.pv))] X []=some ([.agg (e.Sz c (.own [] 1))],X,[c.length,0]):=by
 have d:(c.length:Int)=(e.kids.length:Int):=by omega
 have a:=Az (c:=c) (n:=e.kids.length) (by omega);have f:c.length*152<=140737488355328:=by omega
 have hK:(c.map Ex.pv).take e.kids.length=c.map Ex.pv:=zaf (by simp;omega);rw[hK]at a;have h:=j.norm;have g:=j.shift;rw[aM g374];by_cases b:c=[]
 .subst b;have h0:e.kids.length=0:=by simp at hc;omega
  simp (disch:=omega) [g374,g374L0e,g374B0,hA,ID,ae,h0,h,g,Ex.Sz]
 .simp(disch:=omega)[g374,g374L0e,g374B0,hA,d,a,ae,b,f,h,g,Ex.Sz]
def c374a{e:Ex}(t:e.kids.length<=1000)(v:e.aB.length<=1000)(hA:e.aB≠[]){c:List Ex}(hc:c.length=e.kids.length+e.aB.length){X:Sh}(m:aG X):
   (az AP).i 374 [.pv e.pv,.pv (.aq (c.map Ex.pv))] X []=some ([.agg (e.Sz (c.take e.kids.length) (.aP X.length 14 e.aB.length true))],X++[some (aI Ar.cells (cN e.aB (c.drop e.kids.length)))],[(c.take e.kids.length).length]):=by
 have d:(c.length:Int)=(e.kids.length:Int)+e.aB.length:=by omega
 have g:=Az (c:=c) (n:=e.kids.length) (by omega);have a:(c.take e.kids.length).length=e.kids.length:=by simp;omega
 have q:e.kids.length*152<=140737488355328:=by omega
 have k:e.aB.length*200<=140737488355328:=by omega
 have hz:e.kids.length=0<->c.take e.kids.length=[]:=by rw[<-zaR,a]
 rw[<-zbr]at g;have hw:((e.kids.length:Int)+e.aB.length).toNat=e.kids.length+e.aB.length:=by omega
 have h:=PE (e:=e) (c:=c) (K:=c.take e.kids.length) (B:=X.length) v hc t (SA:=fun as=>X++[some (aI Ar.cells as)]) (fun _=>by simp) (fun _ _=>by simp) (fun as=>m.app (aG.one aN)) _ 0 rfl (by omega) e.aB rfl;simp only[za3,zaj,zaE,zba]at h;have hm:=Ay (l:=e.aB);have b:(aI Ar.cells (cN e.aB (c.drop e.kids.length))).length=e.aB.length*14:=by rw[a_ dZ,gO]
 have p:=(m.app (aG.one (aN (f:=Ar.cells) (l:=e.aB)))).norm;have j:=(m.app (aG.one (aN (f:=Ar.cells) (l:=cN e.aB (c.drop e.kids.length))))).norm;have s:=m.norm;have r:=m.shift;have g1:∀u,(X++[u])[X.length]?=some u:=fun u=>by simp
 generalize cN e.aB (c.drop e.kids.length)=R at*;generalize aI Ar.cells R=w at*;generalize hK:c.take e.kids.length=K at*;rw[g374L0e]at h;generalize aI Ar.cells e.aB=T at*;simp[Sy,zO,p]at h;rw[aM g374];by_cases o:K=[]
 .subst o;have h0:=hz.2 rfl;simp[h0]at h d;simp(disch:=omega)[-getElem?_pos,g374,hA,d,ID,ae,h0,k,hm,p,j,s,r,g374L0e,h,b,Ex.Sz,g1]
 .simp only[a]at h;simp(disch:=omega)[-getElem?_pos,g374,hA,d,g,ae,o,a,q,k,hm,p,j,s,r,g374L0e,h,b,Ex.Sz,g1]
def Zo{e:Ex}{b m:Nat}(hm:m<=2000){SS:List Ex->Sh}(h1:∀c,(SS c)[b]?=some (some (aI Ex.cells c)))(h2:∀c c',(SS c).set b (some (aI Ex.cells c'))=SS c')(h3:∀c,aG (SS c)):
   ∀(n i:Nat),m-i=n->i<=m->∀c:List Ex,c.length=m->(∀x∈c.drop i,(az AP).p 558 [x.pv]=some [x.strip.pv])->
   cl AP g558L0 ⟨[(1,.au 1 0),(2,.au 2 0),(3,.aP b 11 m true),(4,.pv (vI i))],[(1,e.cl),(2,zO)],SS c,[0,0,0]⟩=
     some (.exit 0,⟨[(1,.au 1 0),(2,.au 2 0),(3,.aP b 11 m true),(4,.pv (vI m)),(12,.pv (.bool false))],[(1,e.cl),(2,zO)],SS (c.take i++(c.drop i).map Ex.strip),[0,0,0]⟩)
 |0,i,hn,hi,c,u,hc=>by
  have:i=m:=by omega
  subst this;have s:=(h3 c).norm;rw[jb (l:=c) (by omega),zaf (by omega),zaJ,zax];generalize SS c=S at*;rw[g558L0e];simp[g558B0,zO,s]
 |n+1,i,hn,hi,c,u,hc=>by
  have hi:i<m:=(by omega);obtain⟨x,hx⟩:=aQ (l:=c) (i:=i) (by omega);have k:=hc x (by rw[aR hx];simp)
  have j:=Zo (e:=e) hm h1 h2 h3 n (i+1) (by omega) (by omega) (c.set i x.strip) (by simpa using u) (by
   rw[za7 (by omega)];intro y hy;exact hc y (by rw[aR hx];exact zcc _ hy))
  have a:=gU bo hx (y:=x.strip) (o:=0) (vs:=x.strip.cells) (by rw[bo.len];omega) (by
   have h1:=bo.len x;have h2:=bo.len x.strip;simp[h1,h2])
  rw[Ex.hU,zba]at a;have d:=jE bo hx (o:=0) (k:=11) (by omega)
  have ht:(((x.cells.drop 0).take 11).map AV.pv)=x.cl:=by
   rw[zaj,zaf (by rw[bo.len];omega),Ex.hU]
  rw[ht,zba]at d
  have f:c.take i++(c.drop i).map Ex.strip=(c.set i x.strip).take (i+1)++((c.set i x.strip).drop (i+1)).map Ex.strip:=by
   have h1:(c.set i x.strip).take (i+1)=c.take i++[x.strip]:=by
    rw[zaw,zan (by omega),zaV,zaf (by simp;omega)];have:i+1-(c.take i).length=1:=by simp;omega
    rw[this];rfl
   rw[h1,za7 (by omega),aR hx];simp
  rw[f];generalize (c.set i x.strip).take (i+1)++((c.set i x.strip).drop (i+1)).map Ex.strip=R at j⊢;have r:=h1 c;have q:=h2 c (c.set i x.strip);have s:=(h3 c).norm;have g:=(h3 (c.set i x.strip)).norm;have v:bW (aI Ex.cells c)=false:=bw aN;have h:(aI Ex.cells c).length=m*11:=by rw[a_ bo,u]
  have t:i*11+11<=m*11:=(by omega);clear hc h1 h2 h3 f;generalize SS (c.set i x.strip)=A at*;generalize SS c=S at*;generalize SS R=z at*;generalize aI Ex.cells (c.set i x.strip)=w at*;generalize aI Ex.cells c=T at*;generalize x.strip=y at*;rw[g558L0e]at j⊢;simp at k;simp[zO,g]at j a d⊢;simp(disch:=omega)[-getElem?_pos,g558B0,s,hi,r,v,h,t,d,a,q,k,ae];rw[g558L0e];simp[g,j]
def Ex.XT(e:Ex)(K:List Ex)(A:AV):List AV:=[.pv (vI e.kind),.pv (vI 0),.pv (.str e.name),.pv (vI e.num),.own (K.map Ex.pv) 3,A,.pv (vI e.ty.kind),.pv (.str e.ty.name),.pv (vI e.ty.id),.pv (vI e.ty.home),.pv (.aq (e.ty.args.map Ty.pv))]
def Ui{e:Ex}{K:List Ex}{B N:Nat}(hN:N<=1000)(t:e.aB.length=N){SA:List Ar->Sh}(h1:∀c,(SA c)[B]?=some (some (aI Ar.cells c)))(h2:∀c c',(SA c).set B (some (aI Ar.cells c'))=SA c')(h3:∀c,aG (SA c)):
   ∀(n i:Nat),N-i=n->i<=N->∀as:List Ar,as.length=N->
   cl AP g558L1 ⟨[(2,.au 2 0),(5,.au 5 0),(6,.pv (vI i))],[(2,zO),(5,e.XT K (.aP B 14 N true))],SA as,[0,0,0,K.length]⟩=
     some (.exit 2,⟨[(2,.au 2 0),(5,.au 5 0),(6,.pv (vI N)),(31,.pv (.bool false))],[(2,zO),(5,e.XT K (.aP B 14 N true))],SA (as.take i++(as.drop i).map Ar.p0),[0,0,0,K.length]⟩)
 |0,i,hn,hi,as,s=>by
  have:i=N:=by omega
  subst this;have m:=(h3 as).norm;rw[jb (l:=as) (by omega),zaf (by omega),zaJ,zax];generalize SA as=S at*;rw[g558L1e];simp[g558B1,Ex.XT,zO,m]
 |n+1,i,hn,hi,as,s=>by
  have hi:i<N:=(by omega);obtain⟨a,hx⟩:=aQ (l:=as) (i:=i) (by omega);have h:=Ui (e:=e) (K:=K) hN t h1 h2 h3 n (i+1) (by omega) (by omega) (as.set i a.p0) (by simpa using s);have b:=lQ dZ hx (y:=a.p0) (o:=0) (p:=vI 0) (by omega) (by simp[Ar.cells,Ar.p0])
  have d:as.take i++(as.drop i).map Ar.p0=(as.set i a.p0).take (i+1)++((as.set i a.p0).drop (i+1)).map Ar.p0:=by
   have h1:(as.set i a.p0).take (i+1)=as.take i++[a.p0]:=by
    rw[zaw,zan (by omega),zaV,zaf (by simp;omega)];have:i+1-(as.take i).length=1:=by simp;omega
    rw[this];rfl
   rw[h1,za7 (by omega),aR hx];simp
  rw[d];generalize (as.set i a.p0).take (i+1)++((as.set i a.p0).drop (i+1)).map Ar.p0=R at h⊢;have k:=h1 as;have j:=h2 as (as.set i a.p0);have m:=(h3 as).norm;have f:=(h3 (as.set i a.p0)).norm;have u:bW (aI Ar.cells as)=false:=bw aN;have g:(aI Ar.cells as).length=N*14:=by rw[a_ dZ,s]
  have q:i*14+1<=N*14:=(by omega);have r:i<e.aB.length:=(by omega);clear h1 h2 h3 d;generalize SA (as.set i a.p0)=x at*;generalize SA as=S at*;generalize SA R=w at*;generalize aI Ar.cells (as.set i a.p0)=v at*;generalize aI Ar.cells as=T at*;rw[g558L1e]at h⊢;simp[Ex.XT,zO,f]at h b;simp(disch:=omega)[-getElem?_pos,g558B1,Ex.XT,zO,m,hi,r,k,u,g,q,b,j,ae];rw[g558L1e];simp[f,h]
abbrev pM:List (List UInt8):=varNames
inductive fC (ds:List Dt):Nat->Ex->Prop
 |var {n:Nat} {s:List UInt8}:s∈pM->fC ds n ⟨1,0,s,0,[],[],bF⟩
 |int {n:Nat} {m:Int}:0<=m->m<4->fC ds n ⟨3,0,[],m,[],[],bF⟩
 |cv {n:Nat} {d:Dt} {c:cd}:d∈ds->c∈d.cons->fC ds n ⟨2,0,c.name,0,[],[],bF⟩
 |gone {n:Nat}:fC ds n ⟨2,0,[71,111,110,101],0,[],[],bF⟩
 |hole {n:Nat}:fC ds n ⟨10,0,[],0,[],[],bF⟩
 |lam {n:Nat} {s:List UInt8} {a:Ex}:s∈pM->fC ds n a->fC ds (n+1) ⟨4,0,s,0,[a],[],bF⟩
 |app {n:Nat} {a b:Ex}:fC ds n a->fC ds n b->fC ds (n+1) ⟨5,0,[],0,[a,b],[],bF⟩
 |rY {n:Nat} {k:Int} {s:List UInt8} {a b:Ex}:k=6\/k=7->s∈pM->fC ds n a->fC ds n b->fC ds (n+1) ⟨k,0,s,0,[a,b],[],bF⟩
 |Mp {n:Nat} {a:Ex} {t:Ty}:fC ds n a->gN (·∈ds) [] 2 t->fC ds (n+1) ⟨9,0,[],0,[a],[],t⟩
 |held {n:Nat} {a:Ex}:fC ds n a->fC ds (n+1) ⟨11,0,[],0,[a],[],bF⟩
 |up {n:Nat} {a:Ex}:fC ds n a->fC ds (n+1) a
 |mT {n:Nat} {d:Dt} {a:Ex} {as:List Ar}:d∈ds->fC ds n a->as.length=d.cons.length->(∀x∈as,fC ds n x.body)->(∀x∈as,x.pos=0/\∀v∈x.vars,v∈pM)->
     (∀(i:Nat)(c:cd)(x:Ar),d.cons[i]?=some c->as[i]?=some x->x.cv=c.name/\x.vars.length=c.fields.length)->fC ds (n+1) ⟨8,0,[],0,[a],as,bF⟩
def D8(d:Dt):Prop:=d.params.length<=8/\0<d.cons.length/\d.cons.length<=8/\∀c∈d.cons,c.fields.length<=8
def nK:∀d∈bf,D8 d:=by
 intro d hd;simp[bf]at hd;rcases hd with rfl|rfl|rfl|rfl|rfl|rfl|rfl<;>simp[D8]
structure IsC(e:Ex)(C:List AV):Prop where
 len:C.length=11
 leaf:C.all aY=true
 gr:∀sh,cz sh C=some e.cells
 flat:bI.eL C=true
 tV:gv C=true
def ic(f:Bool)(l:List PV):AV:=if f then .dr l else .pv (.aq l)
def et(a fa b:Bool)(e:Ex):List AV:=[.pv (vI e.kind),.pv (vI e.pos),.pv (.str e.name),.pv (vI e.num),ic a (e.kids.map Ex.pv),ic fa (e.aB.map Ar.pv),.pv (vI e.ty.kind),.pv (.str e.ty.name),.pv (vI e.ty.id),.pv (vI e.ty.home),ic b (e.ty.args.map Ty.pv)]
def d3(a fa b:Bool)(e:Ex):IsC e (et a fa b e):=by
 refine⟨rfl,?_,?_,?_,?_⟩
 .cases a<;>cases fa<;>cases b<;>rfl
 .intro sh;rw[Ex.aX];cases a<;>cases fa<;>cases b<;>simp[et,ic]
 .cases a<;>cases fa<;>cases b<;>simp[et,ic]
 .cases a<;>cases fa<;>cases b<;>simp[et,ic]
def m6:List AV:=[.pv (vI 0),.pv (vI 0),.pv (.str []),.pv (vI 0),.own [] 0,.own [] 1,.pv (vI 0),.pv (.str []),.pv (vI 0),.pv (vI 0),.own [] 2]
def uj(d:Dt):List AV:=[.pv (vI d.pos),.pv (.str d.name),.pv (.aq (d.params.map .str)),.pv (.aq (d.cons.map cd.pv))]
def SB(a:Ex)(as:List Ar):List AV:=[.pv (vI 8),.pv (vI 0),.pv (.str []),.pv (vI 0),.own [a.pv] 3,.own (as.map Ar.pv) 4,.pv (vI 0),.pv (.str []),.pv (vI 0),.pv (vI 0),.own [] 5]
def Zp(c:cd)(vs:List bj):List AV:=[.pv (vI 0),.pv (.str c.name),.own (vs.map .str) 6,.pv (vI 0),.pv (vI 0),.pv (.str []),.pv (vI 0),.own [] 7,.own [] 8,.pv (vI 0),.pv (.str []),.pv (vI 0),.pv (vI 0),.own [] 9]
def Ho(ds:List Dt)(dep:Nat)(d:Dt)(as:List Ar):Prop:=
 (∀x∈as,fC ds dep x.body)/\(∀x∈as,x.pos=0/\∀v∈x.vars,v∈pM)/\(∀(i:Nat)(c:cd)(x:Ar),d.cons[i]?=some c->as[i]?=some x->x.cv=c.name/\x.vars.length=c.fields.length)
def jn:bF.Ok:=cW rfl
def Hp(cs:List cd)(s:bj):Option Nat:=bS (fun c=>decide (c.name=s)) cs
def ix:List Dt->bj->Nat->Option (Nat×Nat)
 |[],_,_=>none
 |d::r,s,i=>match Hp d.cons s with
  |some k=>some (i,k)
  |none=>ix r s (i+1)
def rF:Option (Nat×Nat)->List PV
 |some (i,k)=>[vI i,vI k,.bool true]
 |none=>[vI 0,vI 0,.bool false]
theorem Uj{ds:List Dt}{s:bj}{i:Nat}{cs:List cd}(hS:Sm cs):∀(n k:Nat),cs.length-k=n->k<=cs.length->
   cl AP g190L1 ⟨[(1,.pv (.str s)),(7,.pv (vI i)),(11,.pv (.aq (ds.map Dt.pv))),(12,.pv (vI ds.length)),(13,.pv (vI i)),(19,.pv (.aq (cs.map cd.pv))),(20,.pv (vI cs.length)),(21,.pv (vI k))],[],[],[]⟩=
     match bS (fun c=>decide (c.name=s)) (cs.drop k)with
     |some j=>some (.ret,⟨[(4,.pv (vI i)),(5,.pv (vI (k+j:Nat))),(6,.pv (.bool true))],[],[],[]⟩)
     |none=>some (.exit 2,⟨[(1,.pv (.str s)),(7,.pv (vI i)),(11,.pv (.aq (ds.map Dt.pv))),(12,.pv (vI ds.length)),(13,.pv (vI i)),(19,.pv (.aq (cs.map cd.pv))),(20,.pv (vI cs.length)),(21,.pv (vI cs.length)),(22,.pv (.bool false))],[],[],[]⟩)
 |0,k,hn,a=>by
  have:k=cs.length:=by omega
  subst this;rw[g190L1e];simp[g190B1,bS]
 |n+1,k,hn,a=>by
  have a:k<cs.length:=(by omega);obtain⟨x,hx⟩:=aQ a;unfold Sm at hS;have b:=Uj (ds:=ds) (s:=s) (i:=i) hS n (k+1) (by omega) (by omega);rw[g190L1e]at b⊢;rw[aR hx];simp at b;by_cases e:x.name=s
  .simp(disch:=omega)[-getElem?_pos,g190B1,hx,a,e,bS]
  .simp(disch:=omega)[-getElem?_pos,g190B1,hx,a,e,bS,ae];rw[g190L1e];simp[b];cases bS (fun c=>decide (c.name=s)) (cs.drop (k+1))with
   |none=>rfl
   |some j=>simp;omega
def Zq{ds:List Dt}(hS:Sm ds)(hc:∀d∈ds,Sm d.cons)(s:bj):∀(n i:Nat),ds.length-i=n->i<=ds.length->
   cl AP g190L0 ⟨[(1,.pv (.str s)),(11,.pv (.aq (ds.map Dt.pv))),(12,.pv (vI ds.length)),(13,.pv (vI i))],[],[],[]⟩=
     match ix (ds.drop i) s i with
     |some q=>some (.ret,⟨[(4,.pv (vI q.1)),(5,.pv (vI q.2)),(6,.pv (.bool true))],[],[],[]⟩)
     |none=>some (.exit 0,⟨[(1,.pv (.str s)),(11,.pv (.aq (ds.map Dt.pv))),(12,.pv (vI ds.length)),(13,.pv (vI ds.length)),(14,.pv (.bool false))],[],[],[]⟩)
 |0,i,hn,hi=>by
  have:i=ds.length:=by omega
  subst this;rw[g190L0e];simp[g190B0,ix]
 |n+1,i,hn,hi=>by
  have hi:i<ds.length:=(by omega);obtain⟨d,hd⟩:=aQ hi;unfold Sm at hS;have a:=Zq hS hc s n (i+1) (by omega) (by omega);have h:=Uj (ds:=ds) (s:=s) (i:=i) (hc d (aK hd)) _ 0 rfl (by omega);rw[g190L1e]at h;rw[g190L0e]at a⊢;rw[aR hd];simp at a h;cases e:bS (fun c=>decide (c.name=s)) d.cons with
  |some k=>
   rw[e]at h;simp at h;simp(disch:=omega)[-getElem?_pos,g190B0,hd,hi,ix,Hp,e,g190L1e,h]
  |none=>
   rw[e]at h;simp at h;simp(disch:=omega)[-getElem?_pos,g190B0,hd,hi,ix,Hp,e,g190L1e,h,ae];rw[g190L0e];simp[a]
def c190{ds:List Dt}(hS:Sm ds)(hc:∀d∈ds,Sm d.cons){s:bj}:(az AP).p 190 [.aq (ds.map Dt.pv),.str s]=some (rF (ix ds s 0)):=by
 have h:=Zq hS hc s _ 0 rfl (by omega);rw[aw g190];rw[g190L0e]at h;simp at h;cases e:ix ds s 0 with
 |none=>rw[e]at h;simp at h;simp[g190,g190L0e,h,rF]
 |some q=>rw[e]at h;simp at h;simp[g190,g190L0e,h,rF]
theorem Uk{ds:List Dt}{s:bj}{i:Nat}{d:Dt}(hd:ds[i]?=some d)(hS:Sm d.cons):∀(n k:Nat),d.cons.length-k=n->k<=d.cons.length->
   cl AP g191L1 ⟨[(0,.pv (.aq (ds.map Dt.pv))),(1,.pv (.str s)),(7,.pv (vI i)),(8,.pv (vI k))],[],[],[]⟩=
     match bS (fun c=>decide (c.name=s)) (d.cons.drop k)with
     |some j=>some (.ret,⟨[(4,.pv (vI i)),(5,.pv (vI (k+j:Nat))),(6,.pv (.bool true))],[],[],[]⟩)
     |none=>some (.exit 2,⟨[(0,.pv (.aq (ds.map Dt.pv))),(1,.pv (.str s)),(7,.pv (vI i)),(8,.pv (vI d.cons.length)),(22,.pv (.bool false))],[],[],[]⟩)
 |0,k,hn,a=>by
  have:k=d.cons.length:=by omega
  subst this;rw[g191L1e];simp[-getElem?_pos,g191B1,bS,hd]
 |n+1,k,hn,a=>by
  have a:k<d.cons.length:=(by omega);obtain⟨x,hx⟩:=aQ a;unfold Sm at hS;have b:=Uk (s:=s) hd hS n (k+1) (by omega) (by omega);rw[g191L1e]at b⊢;rw[aR hx];simp at b;by_cases e:x.name=s
  .simp(disch:=omega)[-getElem?_pos,g191B1,hd,hx,a,e,bS]
  .simp(disch:=omega)[-getElem?_pos,g191B1,hd,hx,a,e,bS,ae];rw[g191L1e];simp[b];cases bS (fun c=>decide (c.name=s)) (d.cons.drop (k+1))with
   |none=>rfl
   |some j=>simp;omega
def Zr{ds:List Dt}(hS:Sm ds)(hc:∀d∈ds,Sm d.cons)(s:bj):∀(n i:Nat),ds.length-i=n->i<=ds.length->
   cl AP g191L0 ⟨[(0,.pv (.aq (ds.map Dt.pv))),(1,.pv (.str s)),(7,.pv (vI i))],[],[],[]⟩=
     match ix (ds.drop i) s i with
     |some q=>some (.ret,⟨[(4,.pv (vI q.1)),(5,.pv (vI q.2)),(6,.pv (.bool true))],[],[],[]⟩)
     |none=>some (.exit 0,⟨[(0,.pv (.aq (ds.map Dt.pv))),(1,.pv (.str s)),(7,.pv (vI ds.length)),(12,.pv (.bool false))],[],[],[]⟩)
 |0,i,hn,hi=>by
  have:i=ds.length:=by omega
  subst this;rw[g191L0e];simp[g191B0,ix]
 |n+1,i,hn,hi=>by
  have hi:i<ds.length:=(by omega);obtain⟨d,hd⟩:=aQ hi;unfold Sm at hS;have a:=Zr hS hc s n (i+1) (by omega) (by omega);have h:=Uk (s:=s) hd (hc d (aK hd)) _ 0 rfl (by omega);rw[g191L1e]at h;rw[g191L0e]at a⊢;rw[aR hd];simp at a h;cases e:bS (fun c=>decide (c.name=s)) d.cons with
  |some k=>
   rw[e]at h;simp at h;simp(disch:=omega)[-getElem?_pos,g191B0,hd,hi,ix,Hp,e,g191L1e,h]
  |none=>
   rw[e]at h;simp at h;simp(disch:=omega)[-getElem?_pos,g191B0,hd,hi,ix,Hp,e,g191L1e,h,ae];rw[g191L0e];simp[a]
def c191{ds:List Dt}(hS:Sm ds)(hc:∀d∈ds,Sm d.cons){s:bj}:(az AP).p 191 [.aq (ds.map Dt.pv),.str s]=some (rF (ix ds s 0)):=by
 have h:=Zr hS hc s _ 0 rfl (by omega);rw[aw g191];rw[g191L0e]at h;simp at h;cases e:ix ds s 0 with
 |none=>rw[e]at h;simp at h;simp[g191,g191L0e,h,rF]
 |some q=>rw[e]at h;simp at h;simp[g191,g191L0e,h,rF]
def SD{cs:List cd}{s:bj}{k:Nat}(h:Hp cs s=some k):∃c,cs[k]?=some c/\c.name=s:=by
 unfold Hp at h;induction cs generalizing k with
 |nil=>simp[bS]at h
 |cons a r b=>
  simp only[bS]at h;split at h
  .rename_i e;cases h;exact⟨a,rfl,by simpa using e⟩
  .simp only[zac]at h;obtain⟨j,hj,rfl⟩:=h;obtain⟨c,h1,h2⟩:=b hj;exact⟨c,by simpa using h1,h2⟩
def uk{s:bj}:∀{ds:List Dt}{n:Nat}{q:Nat×Nat},ix ds s n=some q->n<=q.1/\∃d c,ds[q.1-n]?=some d/\d.cons[q.2]?=some c/\c.name=s
 |[],n,q,h=>by simp[ix]at h
 |d::r,n,q,h=>by
  simp only[ix]at h;split at h
  .rename_i k e;cases h;obtain⟨c,h1,h2⟩:=SD e;exact⟨zas _,d,c,by simp,h1,h2⟩
  .obtain⟨h1,a,c,h2,h3,h4⟩:=uk h;refine⟨by omega,a,c,?_,h3,h4⟩;rw[show q.1-n=(q.1-(n+1))+1 from by omega];simpa using h2
def iE(d:Dt)(as:List Ar):Bool:=decide (d.cons.map cd.name=as.map cX.cv)
def oW(ds:List Dt)(as:List Ar):Option Nat:=bS (fun d=>iE d as) ds
def oX:Option Nat->List PV
 |some i=>[vI i,.bool true]
 |none=>[vI 0,.bool false]
def SE:XN cd.pv (fun c:cd=>[vI c.pos,.str c.name,.aq (c.fields.map Ty.pv)]) 3:=⟨fun _=>rfl,fun _=>rfl,fun _=>by simp⟩
def WB:XN Ar.pv Ar.cells 14:=⟨fun _=>rfl,fun x=>dZ.len x,fun x=>by simp[Ar.cells,Ex.aX]⟩
def wz:∀{cs:List cd}{as:List Ar},mZ (fun(c:cd)(a:Ar)=>decide (c.name=a.cv)) cs as=decide (cs.map cd.name=as.map cX.cv)
 |[],[]=>by simp[mZ]
 |c::cs,a::as=>by simp only[mZ,wz (cs:=cs) (as:=as),zal,zbH,Bool.decide_and]
 |[],_::_=>by simp[mZ]
 |_::_,[]=>by simp[mZ]
def WC{sh:Sh}(b:aG sh){cs:List cd}:Pg (.fn 419 []) sh (fun c:cd=>[vI c.pos,.str c.name,.aq (c.fields.map Ty.pv)]) Ar.cells (fun(c:cd)(a:Ar)=>decide (c.name=a.cv)) cs:=by
 intro x _ y
 have c:(az AP).i 419 [.pv x.pv,.pv (Ar.pv y)] sh []=some ([.pv (.bool (decide (x.name=y.cv)))],sh,[]):=by
  rw[aM g419];by_cases e:x.name=y.cv<;>simp[g419,b.norm,e]
 simp at c;simp[Ar.cells,Ex.aX,b.norm,b.shift,c]
def c418{sh:Sh}(a:aG sh){cs:List cd}(hS:Sm cs){as:List Ar}:(az AP).i 418 [.pv (.aq (cs.map cd.pv)),.pv (.aq (as.map Ar.pv)),.fn 419 []] sh []=some ([.pv (.bool (decide (cs.map cd.name=as.map cX.cv)))],sh,[]):=by
 rw[<-wz];exact cEq SE WB (z1:=[vI 0,.str [],.aq []]) (z2:=[vI 0,.str [],.aq [],vI 0,vI 0,.str [],vI 0,.aq [],.aq [],vI 0,.str [],vI 0,vI 0,.aq []]) rfl rfl (m:=418) rfl hS a rfl (WC a)
def WD{sh:Sh}(a:aG sh){as:List Ar}{b:Nat}(e:sh[b]?=some (some [.pv (.aq (as.map Ar.pv))])){ds:List Dt}(hc:∀d∈ds,Sm d.cons):Ai (.fn 417 [.aV b 0]) sh Dt.pv (fun d=>iE d as) ds:=by
 intro d hd;have k:=c418 a (hc d hd) (as:=as)
 have c:(az AP).i 417 [.pv d.pv,.aV b 0] sh []=some ([.pv (.bool (iE d as))],sh,[]):=by
  rw[aM g417];simp[-getElem?_pos,g417,a.norm,a.shift,e,k,iE]
 simp at c;simp[a.norm,a.shift,c]
def c407{ds:List Dt}(hS:Sm ds)(hc:∀d∈ds,Sm d.cons){as:List Ar}:(az AP).p 407 [.aq (ds.map Dt.pv),.aq (as.map Ar.pv)]=some (oX (oW ds as)):=by
 have a:aG [some [AV.pv (.aq (as.map Ar.pv))]]:=aG.one (by intro v hv;simp at hv;exact⟨_,hv⟩);have k:=YQ Ub (k:=416) rfl hS a (g:=417) (cap:=[.aV 0 0]) rfl (WD a (b:=0) rfl hc);rw[aw g407];unfold oW;cases e:bS (fun d=>iE d as) ds with
 |none=>rw[e]at k;simp[lr]at k;simp[g407,k,oX]
 |some i=>rw[e]at k;simp[lr]at k;simp[g407,k,oX]
abbrev D9:=Int×Int
def fP(f:D9):PV:=.agg [vI f.1,vI f.2]
@[simp] theorem OR(f:D9):fP f=.agg [vI f.1,vI f.2]:=rfl
def c365{a b:Int}:(az AP).p 365 [vI a,vI b]=some [fP (a,b)]:=by
 rw[aw g365];simp[g365]
def findF(ds:List Dt):List Ar->Option D9
 |[]=>none
 |a::r=>match ix ds a.cv 0 with
  |none=>some (9,a.pos)
  |some _=>findF ds r
noncomputable def lU:List bj->List bj->Bool
 |_,[]=>false
 |p,x::r=>decide (x∈p)|| lU (p++[x]) r
noncomputable def Dp:List cd->List Ar->D9
 |c::cs,a::as=>if a.vars.length≠c.fields.length then(8,a.pos)else if lU [] a.vars=true then(6,a.pos)else Dp cs as
 |_,_=>(0,0)
noncomputable def oY(ds:List Dt)(e:Ex):D9:=match findF ds e.aB with
 |some f=>f
 |none=>match oW ds e.aB with
  |none=>(10,e.pos)
  |some i=>match ds[i]? with
   |some d=>Dp d.cons e.aB
   |none=>(0,0)
def Ul{ds:List Dt}{i:Nat}{d:Dt}(hd:ds[i]?=some d){as:List Ar}(hS:Sm as):∀(n k:Nat),as.length-k=n->k<=as.length->∀s:Bool,(s=true->as.length=d.cons.length)->∃j:Int,
   cl AP g390L1 ⟨[(0,.pv (.aq (ds.map Dt.pv))),(1,.pv (.aq (as.map Ar.pv))),(6,.pv (vI i)),(7,.pv (.bool s)),(8,.pv (vI k))],[],[],[]⟩=
     some (.exit 2,⟨[(0,.pv (.aq (ds.map Dt.pv))),(1,.pv (.aq (as.map Ar.pv))),(6,.pv (vI i)),(7,.pv (.bool (s && decide ((d.cons.drop k).map cd.name=(as.drop k).map cX.cv)))),(8,.pv (vI j)),(30,.pv (.bool false))],[],[],[]⟩)
 |0,k,hn,f,s,hs=>by
  have:k=as.length:=by omega
  subst this;refine⟨as.length,?_⟩;rw[g390L1e];cases s with
  |false=>simp[g390B1]
  |true=>simp[g390B1,hs rfl]
 |n+1,k,hn,f,s,hs=>by
  have f:k<as.length:=(by omega);unfold Sm at hS;have h:=(zaa.1 hd).1;cases s with
  |false=>
   refine⟨k,?_⟩;rw[g390L1e];simp[g390B1]
  |true=>
   have hl:=hs rfl;obtain⟨a,l⟩:=aQ f;obtain⟨c,hc⟩:=aQ (hl ▸ f);have g:k<d.cons.length:=(by omega);obtain⟨j,b⟩:=Ul hd hS n (k+1) (by omega) (by omega) (decide (a.cv=c.name)) (fun _=>hl);refine⟨j,?_⟩;rw[aR l,aR hc]
   have key:(true && decide ((c::d.cons.drop (k+1)).map cd.name=(a::as.drop (k+1)).map cX.cv))=(decide (a.cv=c.name) && decide ((d.cons.drop (k+1)).map cd.name=(as.drop (k+1)).map cX.cv)):=by
    rw[za0];simp[eq_comm (a:=c.name)]
   rw[key];generalize (decide (a.cv=c.name) && decide ((d.cons.drop (k+1)).map cd.name=(as.drop (k+1)).map cX.cv))=r at b⊢;rw[g390L1e]at b⊢;simp at b;by_cases e:a.cv=c.name
   .simp[e]at b;simp(disch:=omega)[-getElem?_pos,g390B1,f,g,h,l,hc,hd,ae,e];rw[g390L1e];simp[b]
   .simp[e]at b;have m:(a.cv == c.name)=false:=by simpa using e
    simp (disch:=omega) [-getElem?_pos,g390B1,f,g,h,l,hc,hd,ae,m];rw[g390L1e];simp[b]
theorem Zs{ds:List Dt}(hS:Sm ds){as:List Ar}(hA:Sm as):∀(n i:Nat),ds.length-i=n->i<=ds.length->
   cl AP g390L0 ⟨[(0,.pv (.aq (ds.map Dt.pv))),(1,.pv (.aq (as.map Ar.pv))),(6,.pv (vI i))],[],[],[]⟩=
     match bS (fun d=>iE d as) (ds.drop i)with
     |some k=>some (.ret,⟨[(4,.pv (vI (i+k:Nat))),(5,.pv (.bool true))],[],[],[]⟩)
     |none=>some (.exit 0,⟨[(0,.pv (.aq (ds.map Dt.pv))),(1,.pv (.aq (as.map Ar.pv))),(6,.pv (vI ds.length)),(12,.pv (.bool false))],[],[],[]⟩)
 |0,i,hn,hi=>by
  have:i=ds.length:=by omega
  subst this;rw[g390L0e];simp[g390B0,bS]
 |n+1,i,hn,hi=>by
  have hi:i<ds.length:=(by omega);obtain⟨d,hd⟩:=aQ hi;have a:=Zs hS hA n (i+1) (by omega) (by omega);obtain⟨j,h⟩:=Ul hd hA _ 0 rfl (by omega) (decide (as.length=d.cons.length)) (by simp);unfold Sm at hS
  have key:(decide (as.length=d.cons.length) && decide (d.cons.map cd.name=as.map cX.cv))=iE d as:=by
   unfold iE;by_cases e:d.cons.map cd.name=as.map cX.cv
   .have:=zbm List.length e;simp at this;simp[e,this]
   .simp[e]
  rw[zaj,zaj,key]at h;rw[g390L1e]at h;rw[g390L0e]at a⊢;rw[aR hd];simp only[bS];simp at a;by_cases e:iE d as=true
  .rw[zan e];rw[e]at h;have hl:as.length=d.cons.length:=by simp[iE]at e;simpa using(zbm List.length e).symm
   simp[hl]at h;simp(disch:=omega)[-getElem?_pos,g390B0,hi,hd,hl,g390L1e,h]
  .rw[zai e];have e:iE d as=false:=by simpa using e
   rw[e]at h;by_cases hl:as.length=d.cons.length
   .simp[hl]at h;simp(disch:=omega)[-getElem?_pos,g390B0,hi,hd,hl,g390L1e,h,ae];rw[g390L0e];simp[a];cases bS (fun d=>iE d as) (ds.drop (i+1))with
    |none=>rfl
    |some k=>simp;omega
   .have b:((as.length:Int)== (d.cons.length:Int))=false:=(by rw[beq_eq_false_iff_ne];omega);simp[hl]at h;simp(disch:=omega)[-getElem?_pos,g390B0,hi,hd,b,g390L1e,h,ae];rw[g390L0e];simp[a];cases bS (fun d=>iE d as) (ds.drop (i+1))with
    |none=>rfl
    |some k=>simp;omega
def c390{ds:List Dt}(hS:Sm ds){as:List Ar}(hA:Sm as):(az AP).p 390 [.aq (ds.map Dt.pv),.aq (as.map Ar.pv)]=some (oX (oW ds as)):=by
 have h:=Zs hS hA _ 0 rfl (by omega);simp at h;rw[aw g390];unfold oW;cases e:bS (fun d=>iE d as) ds with
 |none=>rw[e]at h;simp at h;simp[g390,h,oX]
 |some i=>rw[e]at h;simp at h;simp[g390,h,oX]
abbrev m2(f:D9):List AV:=[.pv (vI f.1),.pv (vI f.2)]
def Um{ds:List Dt}(hS:Sm ds)(hc:∀d∈ds,Sm d.cons){e:Ex}(hA:e.aB.length<=1000):∀(n i:Nat),e.aB.length-i=n->i<=e.aB.length->
   cl AP g379L0 ⟨[(0,.pv (.aq (ds.map Dt.pv))),(3,.au 3 0),(4,.au 4 0),(5,.pv (vI i))],[(3,e.cl),(4,m2 (0,0))],[],[]⟩=
     match findF ds (e.aB.drop i)with
     |some f=>some (.ret,⟨[(4,.au 4 0)],[(4,m2 f)],[],[]⟩)
     |none=>some (.exit 0,⟨[(0,.pv (.aq (ds.map Dt.pv))),(3,.au 3 0),(4,.au 4 0),(5,.pv (vI e.aB.length)),(18,.pv (.bool false))],[(3,e.cl),(4,m2 (0,0))],[],[]⟩)
 |0,i,hn,hi=>by
  have:i=e.aB.length:=by omega
  subst this;rw[g379L0e];simp[g379B0,findF]
 |n+1,i,hn,hi=>by
  have hi:i<e.aB.length:=(by omega);obtain⟨a,g⟩:=aQ hi;have c:=Um hS hc hA n (i+1) (by omega) (by omega);have k:=c191 hS hc (s:=a.cv);have k2:=c365 (a:=9) (b:=a.pos);simp at k2;rw[g379L0e]at c⊢;rw[aR g];simp only[findF];simp at c;cases q:ix ds a.cv 0 with
  |none=>
   rw[q]at k;simp[rF]at k;simp(disch:=omega)[-getElem?_pos,g379B0,hi,g,k,k2]
  |some r=>
   rw[q]at k;simp[rF]at k;simp(disch:=omega)[-getElem?_pos,g379B0,hi,g,k,ae];rw[g379L0e];simp[c]
def Un{ds:List Dt}{e:Ex}{i9 i:Nat}{a:Ar}(j:e.aB[i]?=some a)(hv:a.vars.length<=1000):∀(n k:Nat),a.vars.length-k=n->k<=a.vars.length->
   cl AP g379L2 ⟨[(0,.pv (.aq (ds.map Dt.pv))),(3,.au 3 0),(4,.au 4 0),(9,.pv (vI i9)),(11,.pv (vI i)),(12,.pv (.aq (a.vars.map .str))),(13,.pv (vI k))],[(3,e.cl),(4,m2 (0,0))],[],[]⟩=
     if lU (a.vars.take k) (a.vars.drop k)=true then some (.ret,⟨[(4,.au 4 0)],[(4,m2 (6,a.pos))],[],[]⟩)
     else some (.exit 4,⟨[(0,.pv (.aq (ds.map Dt.pv))),(3,.au 3 0),(4,.au 4 0),(9,.pv (vI i9)),(11,.pv (vI i)),(12,.pv (.aq (a.vars.map .str))),(13,.pv (vI a.vars.length)),(90,.pv (.bool false))],[(3,e.cl),(4,m2 (0,0))],[],[]⟩)
 |0,k,hn,f=>by
  have:k=a.vars.length:=by omega
  subst this;rw[g379L2e];simp[g379B2,lU]
 |n+1,k,hn,f=>by
  have f:k<a.vars.length:=(by omega);have g:=(zaa.1 j).1;obtain⟨x,hx⟩:=aQ f;have d:=Un (ds:=ds) (i9:=i9) j hv n (k+1) (by omega) (by omega);have k1:=c364 (s:=a.vars.take k) (by unfold Sm;simp;omega) (y:=x);have k2:=c365 (a:=6) (b:=a.pos);have c:=Sx (sz:=1) (l:=a.vars.map PV.str) (k:=.i64) (h:=k) (by omega) (by simp;omega);simp at k2 c;rw[zbr]at k1;rw[zaU,hx]at d;simp only[zcA]at d;rw[g379L2e]at d⊢;rw[aR hx];simp at d;by_cases q:x∈a.vars.take k
  .have m:lU (a.vars.take k) (x::a.vars.drop (k+1))=true:=(by simp[lU,q]);rw[m];rw[za2 q]at k1;simp(disch:=omega)[-getElem?_pos,g379B2,f,g,j,hx,c,k1,k2]
  .have m:lU (a.vars.take k) (x::a.vars.drop (k+1))=lU (a.vars.take k++[x]) (a.vars.drop (k+1)):=(by simp[lU,q]);rw[m];rw[zaY q]at k1;simp(disch:=omega)[-getElem?_pos,g379B2,f,g,j,hx,c,k1,ae];rw[g379L2e];simp[d]
   try (by_cases o:lU (a.vars.take k++[x]) (a.vars.drop (k+1))=true<;>simp[o])
def Uo{ds:List Dt}{e:Ex}{i9:Nat}{d:Dt}(hd:ds[i9]?=some d)(hA:e.aB.length<=1000)(hv:∀a∈e.aB,a.vars.length<=1000)(hl:e.aB.length=d.cons.length):∀(n i:Nat),e.aB.length-i=n->i<=e.aB.length->
   cl AP g379L1 ⟨[(0,.pv (.aq (ds.map Dt.pv))),(3,.au 3 0),(4,.au 4 0),(9,.pv (vI i9)),(11,.pv (vI i))],[(3,e.cl),(4,m2 (0,0))],[],[]⟩=
     if (Dp (d.cons.drop i) (e.aB.drop i)).1≠0 then some (.ret,⟨[(4,.au 4 0)],[(4,m2 (Dp (d.cons.drop i) (e.aB.drop i)))],[],[]⟩)
     else some (.exit 2,⟨[(0,.pv (.aq (ds.map Dt.pv))),(3,.au 3 0),(4,.au 4 0),(9,.pv (vI i9)),(11,.pv (vI e.aB.length)),(58,.pv (.bool false))],[(3,e.cl),(4,m2 (0,0))],[],[]⟩)
 |0,i,hn,hi=>by
  have:i=e.aB.length:=by omega
  subst this;rw[g379L1e,jb (l:=d.cons) (by omega),jb (l:=e.aB) (by omega)];simp[g379B1,Dp]
 |n+1,i,hn,hi=>by
  have hi:i<e.aB.length:=(by omega);have f:i<d.cons.length:=(by omega);have g:=(zaa.1 hd).1;obtain⟨a,j⟩:=aQ hi;obtain⟨c,hc⟩:=aQ f;have m:=Uo hd hA hv hl n (i+1) (by omega) (by omega);have h:=Un (ds:=ds) (i9:=i9) j (hv a (aK j)) _ 0 rfl (by omega);have k2:=c365 (a:=8) (b:=a.pos);simp at k2;rw[za3,zaj]at h;rw[g379L2e]at h;rw[g379L1e]at m⊢;rw[aR j,aR hc];simp only[Dp];simp at m h;by_cases q:a.vars.length=c.fields.length
  .by_cases k:lU [] a.vars=true
   .simp[k,q]at h;simp(disch:=omega)[-getElem?_pos,g379B1,hi,f,g,j,hc,hd,q,k,g379L2e,h]
   .simp[k,q]at h;simp(disch:=omega)[-getElem?_pos,g379B1,hi,f,g,j,hc,hd,q,k,g379L2e,h,ae];rw[g379L1e];simp[m]
  .have o:¬(a.vars.length:Int)=c.fields.length:=(by omega);simp(disch:=omega)[-getElem?_pos,g379B1,hi,f,g,j,hc,hd,q,o,k2]
def Dq{ds:List Dt}{as:List Ar}{i:Nat}(h:oW ds as=some i):∃d,ds[i]?=some d/\as.length=d.cons.length:=by
 unfold oW at h
 have key:∀{l:List Dt}{k:Nat},bS (fun d=>iE d as) l=some k->∃d,l[k]?=some d/\iE d as=true:=by
  intro l;induction l with
  |nil=>intro k h;simp[bS]at h
  |cons x r a=>
   intro k h;simp only[bS]at h;split at h
   .rename_i e;cases h;exact⟨x,rfl,e⟩
   .cases h':bS (fun d=>iE d as) r with
    |none=>rw[h']at h;simp at h
    |some k'=>rw[h']at h;simp at h;subst h;simpa using a h'
 obtain⟨d,h1,h2⟩:=key h;refine⟨d,h1,?_⟩;unfold iE at h2;have:=zbm List.length (zcW h2);simpa using this.symm
def qN:∀{cs:List cd}{as:List Ar},(Dp cs as).1=0->Dp cs as=(0,0)
 |[],_,_=>by simp[Dp]
 |_::_,[],_=>by simp[Dp]
 |c::cs,a::as,h=>by
  simp only[Dp]at h⊢;split at h
  .simp at h
  .rename_i h1;rw[zai h1];split at h
   .simp at h
   .rename_i h2;rw[zai h2];exact qN h
def c379{ds:List Dt}(hS:Sm ds)(hc:∀d∈ds,Sm d.cons){e:Ex}(j:e.Ok):(az AP).p 379 [.aq (ds.map Dt.pv),e.pv]=some [fP (oY ds e)]:=by
 have hA:=j.a;have h:=Um hS hc hA _ 0 rfl (by omega);rw[aw g379];unfold oY;rw[zaj]at h;cases q:findF ds e.aB with
 |some f=>
  rw[q]at h;simp at h;simp[g379,h]
 |none=>
  rw[q]at h;simp at h;have k:=c390 hS (as:=e.aB) (by unfold Sm;omega);cases c:oW ds e.aB with
  |none=>
   rw[c]at k;have k2:=c365 (a:=10) (b:=e.pos);simp[oX]at k k2;simp[g379,h,k,k2]
  |some i=>
   rw[c]at k;simp[oX]at k;obtain⟨d,hd,hl⟩:=Dq c;have h2:=Uo hd hA j.v hl _ 0 rfl (by omega);rw[zaj,zaj]at h2;simp only[hd];by_cases g:(Dp d.cons e.aB).1=0
   .have:=qN g;rw[this]at h2⊢;simp at h2;simp[g379,h,k,h2]
   .simp[g]at h2;simp[g379,h,k,h2]
def Up{ds:List Dt}(hS:Sm ds)(hc:∀d∈ds,Sm d.cons){e:Ex}(hA:e.aB.length<=1000):∀(n i:Nat),e.aB.length-i=n->i<=e.aB.length->
   cl AP g415L0 ⟨[(0,.pv (.aq (ds.map Dt.pv))),(3,.au 3 0),(4,.au 4 0),(17,.pv (.aq (e.aB.map Ar.pv))),(18,.pv (vI e.aB.length)),(19,.pv (vI i))],[(3,e.cl),(4,m2 (0,0))],[],[]⟩=
     match findF ds (e.aB.drop i)with
     |some f=>some (.ret,⟨[(4,.au 4 0)],[(4,m2 f)],[],[]⟩)
     |none=>some (.exit 0,⟨[(0,.pv (.aq (ds.map Dt.pv))),(3,.au 3 0),(4,.au 4 0),(17,.pv (.aq (e.aB.map Ar.pv))),(18,.pv (vI e.aB.length)),(19,.pv (vI e.aB.length)),(20,.pv (.bool false))],[(3,e.cl),(4,m2 (0,0))],[],[]⟩)
 |0,i,hn,hi=>by
  have:i=e.aB.length:=by omega
  subst this;rw[g415L0e];simp[g415B0,findF]
 |n+1,i,hn,hi=>by
  have hi:i<e.aB.length:=(by omega);obtain⟨a,c⟩:=aQ hi;have b:=Up hS hc hA n (i+1) (by omega) (by omega);have k:=c190 hS hc (s:=a.cv);rw[g415L0e]at b⊢;rw[aR c];simp only[findF];simp at b;cases q:ix ds a.cv 0 with
  |none=>
   rw[q]at k;simp[rF]at k;simp(disch:=omega)[-getElem?_pos,g415B0,hi,c,k]
  |some r=>
   rw[q]at k;simp[rF]at k;simp(disch:=omega)[-getElem?_pos,g415B0,hi,c,k,ae];rw[g415L0e];simp[b]
@[simp] def Ar.cl(a:Ar):List AV:=.pv (vI a.pos)::.pv (.str a.cv)::.pv (.aq (a.vars.map .str))::a.body.cl
def Uq{ds:List Dt}{Ip i:Nat}{as:List Ar}{a:Ar}(hv:a.vars.length<=1000):∀(n k:Nat),a.vars.length-k=n->k<=a.vars.length->
   cl AP g415L2 ⟨[(0,.pv (.aq (ds.map Dt.pv))),(4,.au 4 0),(10,.pv (vI Ip)),(13,.au 13 0),(50,.pv (.aq (as.map Ar.pv))),(51,.pv (vI as.length)),(52,.pv (vI i)),(75,.pv (.aq (a.vars.map .str))),(76,.pv (vI a.vars.length)),(77,.pv (vI k))],[(4,m2 (0,0)),(13,Ar.cl a)],[],[]⟩=
     if lU (a.vars.take k) (a.vars.drop k)=true then some (.ret,⟨[(4,.au 4 0)],[(4,m2 (6,a.pos))],[],[]⟩)
     else some (.exit 4,⟨[(0,.pv (.aq (ds.map Dt.pv))),(4,.au 4 0),(10,.pv (vI Ip)),(13,.au 13 0),(50,.pv (.aq (as.map Ar.pv))),(51,.pv (vI as.length)),(52,.pv (vI i)),(75,.pv (.aq (a.vars.map .str))),(76,.pv (vI a.vars.length)),(77,.pv (vI a.vars.length)),(78,.pv (.bool false))],[(4,m2 (0,0)),(13,Ar.cl a)],[],[]⟩)
 |0,k,hn,d=>by
  have:k=a.vars.length:=by omega
  subst this;rw[g415L2e];simp[g415B2,lU]
 |n+1,k,hn,d=>by
  have d:k<a.vars.length:=(by omega);obtain⟨x,hx⟩:=aQ d;have c:=Uq (ds:=ds) (Ip:=Ip) (i:=i) (as:=as) hv n (k+1) (by omega) (by omega);have k1:=c214 (s:=a.vars.take k) (by unfold Sm;simp;omega) (y:=x);have b:=Sx (sz:=1) (l:=a.vars.map PV.str) (k:=.i64) (h:=k) (by omega) (by simp;omega);simp at b;rw[zbr]at k1;rw[zaU,hx]at c;simp only[zcA]at c;rw[g415L2e]at c⊢;rw[aR hx];simp at c;by_cases q:x∈a.vars.take k
  .have e:lU (a.vars.take k) (x::a.vars.drop (k+1))=true:=(by simp[lU,q]);rw[e];rw[za2 q]at k1;simp(disch:=omega)[-getElem?_pos,g415B2,d,hx,b,k1]
  .have e:lU (a.vars.take k) (x::a.vars.drop (k+1))=lU (a.vars.take k++[x]) (a.vars.drop (k+1)):=(by simp[lU,q]);rw[e];rw[zaY q]at k1;simp(disch:=omega)[-getElem?_pos,g415B2,d,hx,b,k1,ae];rw[g415L2e];simp[c]<;>(by_cases f:lU (a.vars.take k++[x]) (a.vars.drop (k+1))=true<;>simp[f])
def Ur{ds:List Dt}{Ip:Nat}{d:Dt}(hd:ds[Ip]?=some d){as:List Ar}(hA:as.length<=1000)(hv:∀a∈as,a.vars.length<=1000)(hl:as.length=d.cons.length):∀(n i:Nat),as.length-i=n->i<=as.length->
   cl AP g415L1 ⟨[(0,.pv (.aq (ds.map Dt.pv))),(4,.au 4 0),(10,.pv (vI Ip)),(50,.pv (.aq (as.map Ar.pv))),(51,.pv (vI as.length)),(52,.pv (vI i))],[(4,m2 (0,0))],[],[]⟩=
     if (Dp (d.cons.drop i) (as.drop i)).1≠0 then some (.ret,⟨[(4,.au 4 0)],[(4,m2 (Dp (d.cons.drop i) (as.drop i)))],[],[]⟩)
     else some (.exit 2,⟨[(0,.pv (.aq (ds.map Dt.pv))),(4,.au 4 0),(10,.pv (vI Ip)),(50,.pv (.aq (as.map Ar.pv))),(51,.pv (vI as.length)),(52,.pv (vI as.length)),(53,.pv (.bool false))],[(4,m2 (0,0))],[],[]⟩)
 |0,i,hn,hi=>by
  have:i=as.length:=by omega
  subst this;rw[g415L1e,jb (l:=d.cons) (by omega),jb (l:=as) (by omega)];simp[g415B1,Dp]
 |n+1,i,hn,hi=>by
  have hi:i<as.length:=(by omega);have b:i<d.cons.length:=(by omega);have e:=(zaa.1 hd).1;obtain⟨a,f⟩:=aQ hi;obtain⟨c,hc⟩:=aQ b;have j:=Ur hd hA hv hl n (i+1) (by omega) (by omega);have h:=Uq (ds:=ds) (Ip:=Ip) (i:=i) (as:=as) (hv a (aK f)) _ 0 rfl (by omega);rw[za3,zaj]at h;rw[g415L2e]at h;rw[g415L1e]at j⊢;rw[aR f,aR hc];simp only[Dp];simp at j h;by_cases q:a.vars.length=c.fields.length
  .by_cases g:lU [] a.vars=true
   .simp[g,q]at h;simp(disch:=omega)[-getElem?_pos,g415B1,hi,b,e,f,hc,hd,q,g,g415L2e,h]
   .simp[g,q]at h;simp(disch:=omega)[-getElem?_pos,g415B1,hi,b,e,f,hc,hd,q,g,g415L2e,h,ae];rw[g415L1e];simp[j]
  .have k:¬(a.vars.length:Int)=c.fields.length:=(by omega);simp(disch:=omega)[-getElem?_pos,g415B1,hi,b,e,f,hc,hd,q,k]
def c415{ds:List Dt}(hS:Sm ds)(hc:∀d∈ds,Sm d.cons){e:Ex}(g:e.Ok):(az AP).p 415 [.aq (ds.map Dt.pv),e.pv]=some [fP (oY ds e)]:=by
 have hA:=g.a;have h:=Up hS hc hA _ 0 rfl (by omega);rw[aw g415];unfold oY;rw[zaj]at h;cases q:findF ds e.aB with
 |some f=>
  rw[q]at h;simp at h;simp[g415,h]
 |none=>
  rw[q]at h;simp at h;have k:=c407 hS hc (as:=e.aB);cases b:oW ds e.aB with
  |none=>
   rw[b]at k;simp[oX]at k;simp[g415,h,k]
  |some i=>
   rw[b]at k;simp[oX]at k;obtain⟨d,hd,hl⟩:=Dq b;have h2:=Ur hd hA g.v hl _ 0 rfl (by omega);rw[zaj,zaj]at h2;simp only[hd];by_cases c:(Dp d.cons e.aB).1=0
   .have:=qN c;rw[this]at h2⊢;simp at h2;simp[g415,h,k,h2]
   .simp[c]at h2;simp[g415,h,k,h2]
def c409{a b:List bj}(h:a.length+b.length<=1000000000000):(az AP).p 409 [.aq (a.map .str),.aq (b.map .str)]=some [.aq ((a++b).map .str)]:=by
 rw[aw g409];have h1:a.length*16<=140737488355328:=by omega
 have h2:(a.length+b.length)*16<=140737488355328:=by omega
 have h3:b.length*16<=140737488355328:=by omega
 by_cases d:a=[]
 .subst d;by_cases c:b=[]
  .subst c;simp[g409]
  .simp[g409,c,h3]
 .by_cases c:b=[]
  .subst c;simp[g409,d,h1]
  .simp[g409,d,c,h1,h2]
inductive Ex.IF (P:Ex->Prop):Ex->Prop
 |mk {e:Ex}:P e->(∀x∈e.ch,Ex.IF P x)->Ex.IF P e
def Ex.IF.h{P:Ex->Prop}{e:Ex}(h:e.IF P):P e:=by cases h;assumption
def Ex.IF.c{P:Ex->Prop}{e:Ex}(h:e.IF P):∀x∈e.ch,x.IF P:=by cases h;assumption
inductive Ex.oZ:Nat->Ex->Prop
 |mk {n:Nat} {e:Ex}:(∀x∈e.ch,Ex.oZ n x)->Ex.oZ (n+1) e
def Ex.oZ.c{n:Nat}{e:Ex}(h:Ex.oZ (n+1) e):∀x∈e.ch,Ex.oZ n x:=by cases h;assumption
noncomputable def eS(ds:List Dt)(a:List bj)(e:Ex):D9:=
 if e.kind=1 then(if e.name∈a then(0,0)else(9,e.pos))
 else if e.kind=2 then(if(ix ds e.name 0).isSome then(0,0)else(9,e.pos))
 else if e.kind=8 then oY ds e
 else if e.kind=9 then(if e.ty.formed ds []=0 then(0,0)else(e.ty.formed ds [],e.pos))
 else (0,0)
def r5(f:Nat->Ex->D9):Nat->List Ex->D9
 |_,[]=>(0,0)
 |i,x::r=>if(f i x).1≠0 then f i x else r5 f (i+1) r
theorem yt{f g:Nat->Ex->D9}:∀{l:List Ex}{i:Nat},(∀i,∀x∈l,f i x=g i x)->r5 f i l=r5 g i l
 |[],_,_=>rfl
 |x::r,i,h=>by
  simp only[r5];rw[h i x (by simp),yt (l:=r) fun i y hy=>h i y (by simp[hy])]
def Ex.SF{e x:Ex}(h:x∈e.ch):SizeOf.sizeOf x<SizeOf.sizeOf e:=by
 rw[Ex.ch,zaz,zat]at h;cases e;rcases h with h|⟨a,b,rfl⟩
 .have:=_root_.List.sizeOf_lt_of_mem h;simp at*;omega
 .have:=_root_.List.sizeOf_lt_of_mem b;have:=cX.rW a;simp at*;omega
open Classical in
noncomputable def Ex.aI(ds:List Dt)(e:Ex)(a:List bj):D9:=
 if (eS ds a e).1≠0 then eS ds a e
 else r5 (fun i x=>if b:x∈e.ch then Ex.aI ds x (a++dv e i)else(0,0)) 0 e.ch
termination_by e
decreasing_by exact Ex.SF b
def Ex.Hq(ds:List Dt)(e:Ex)(a:List bj):e.aI ds a=if(eS ds a e).1≠0 then eS ds a e else r5 (fun i x=>x.aI ds (a++dv e i)) 0 e.ch:=by
 rw[Ex.aI];split
 .rfl
 .exact yt fun i x hx=>by rw[dif_pos hx]
theorem wA{ds:List Dt}{e:Ex}(h:(oY ds e).1=0):oY ds e=(0,0):=by
 unfold oY at h⊢
 have hf:∀{as:List Ar}{f:D9},findF ds as=some f->f.1=9:=by
  intro as;induction as with
  |nil=>intro f h;simp[findF]at h
  |cons a r g=>
   intro f h;simp only[findF]at h;split at h
   .cases h;rfl
   .exact g h
 cases q:findF ds e.aB with
 |some f=>rw[q]at h;simp only at h;rw[hf q]at h;cases h
 |none=>
  rw[q]at h;simp only at h⊢;cases b:oW ds e.aB with
  |none=>rw[b]at h;simp at h
  |some i=>
   rw[b]at h;simp only at h⊢;cases c:ds[i]? with
   |none=>rfl
   |some d=>rw[c]at h;exact qN h
def Hr{ds:List Dt}{a:List bj}{e:Ex}(h:(eS ds a e).1=0):eS ds a e=(0,0):=by
 unfold eS at h⊢;split
 .rename_i h1;rw[zan h1]at h;split
  .rfl
  .rename_i h2;rw[zai h2]at h;cases h
 .rename_i h1;rw[zai h1]at h;split
  .rename_i h2;rw[zan h2]at h;split
   .rfl
   .rename_i h3;rw[zai h3]at h;cases h
  .rename_i h2;rw[zai h2]at h;split
   .rename_i h3;rw[zan h3]at h;exact wA h
   .rename_i h3;rw[zai h3]at h;split
    .rename_i h4;rw[zan h4]at h;split
     .rfl
     .rename_i h5;rw[zai h5]at h;exact absurd h h5
    .rfl
theorem Dr{f:Nat->Ex->D9}(hf:∀i x,(f i x).1=0->f i x=(0,0)):∀{l:List Ex}{i:Nat},(r5 f i l).1=0->r5 f i l=(0,0)
 |[],_,_=>rfl
 |x::r,i,h=>by
  simp only[r5]at h⊢;split
  .rename_i h1;rw[zan h1]at h;exact absurd h h1
  .rename_i h1;rw[zai h1]at h;exact Dr hf h
def Du{ds:List Dt}:∀{e:Ex}{a:List bj},(e.aI ds a).1=0->e.aI ds a=(0,0):=by
 intro e;refine Ex.recC (p:=fun e=>∀{a:List bj},(e.aI ds a).1=0->e.aI ds a=(0,0)) ?_ e;intro e c a h;rw[Ex.Hq]at h⊢;split
 .rename_i h1;rw[zan h1]at h;exact absurd h h1
 .rename_i h1;rw[zai h1]at h
  have key:∀{l:List Ex}{i:Nat},(∀x∈l,x∈e.ch)->(r5 (fun i x=>x.aI ds (a++dv e i)) i l).1=0->r5 (fun i x=>x.aI ds (a++dv e i)) i l=(0,0):=by
   intro l;induction l with
   |nil=>intro i _ _;rfl
   |cons x r b=>
    intro i hl h;simp only[r5]at h⊢;split
    .rename_i h1;rw[zan h1]at h;exact absurd h h1
    .rename_i h1;rw[zai h1]at h;exact b (fun y hy=>hl y (by simp[hy])) h
  exact key (fun x hx=>hx) h
structure r_(e:Ex):Prop where
 ok:e.Ok
 one:e.One
 cw:e.IF fun x=>x.ty.Cw
def r_.c{e x:Ex}(h:r_ e)(hx:x∈e.ch):r_ x:=⟨h.ok.c x hx,h.one.c x hx,h.cw.c x hx⟩
def Zt{ds:List Dt}{c:List bj}{e:Ex}(d:r_ e)(hn:c.length<=900000000)
   (f:∀i,∀x∈e.ch,(az AP).p 405 [.aq (ds.map Dt.pv),.aq ((c++dv e i).map .str),x.pv]=some [fP (x.aI ds (c++dv e i))]):∀(n i:Nat),e.ch.length-i=n->i<=e.ch.length->
   cl AP g405L0 ⟨[(0,.pv (.aq (ds.map Dt.pv))),(1,.pv (.aq (c.map .str))),(5,.au 5 0),(6,.au 6 0),(64,.pv (.aq (e.ch.map Ex.pv))),(65,.pv (vI e.ch.length)),(66,.pv (vI i))],[(5,e.cl),(6,m2 (0,0))],[],[]⟩=
     if (r5 (fun i x=>x.aI ds (c++dv e i)) i (e.ch.drop i)).1≠0 then some (.ret,⟨[(6,.au 6 0)],[(6,m2 (r5 (fun i x=>x.aI ds (c++dv e i)) i (e.ch.drop i)))],[],[]⟩)
     else some (.exit 1,⟨[(0,.pv (.aq (ds.map Dt.pv))),(1,.pv (.aq (c.map .str))),(5,.au 5 0),(6,.au 6 0),(64,.pv (.aq (e.ch.map Ex.pv))),(65,.pv (vI e.ch.length)),(66,.pv (vI e.ch.length)),(67,.pv (.bool false))],[(5,e.cl),(6,m2 (0,0))],[],[]⟩)
 |0,i,m,hi=>by
  have:i=e.ch.length:=by omega
  subst this;rw[zaO];generalize e.ch=C;rw[g405L0e];simp[g405B0,r5]
 |n+1,i,m,hi=>by
  have hi:i<e.ch.length:=(by omega);obtain⟨x,hx⟩:=aQ hi;have g:=Ex.cM (e:=e);have l:=d.ok.k;have j:=d.ok.a;have hr:=Zt d hn f n (i+1) (by omega) (by omega);have k1:=c411 hi d.one.h d.ok;have o:=ku d.ok (i:=i);have k2:=c409 (a:=c) (b:=dv e i) (by omega);have k3:=f i x (aK hx);rw[aR hx];simp only[r5];generalize hN:c++dv e i=N at*;generalize hF:x.aI ds N=F at*;generalize r:r5 (fun i x=>x.aI ds (c++dv e i)) (i+1) (e.ch.drop (i+1))=G at*;clear f;generalize dv e i=B at*;generalize e.ch=C at*;rw[g405L0e]at hr⊢;simp at k1 k2 k3 hr;by_cases q:F.1=0
  .simp(disch:=omega)[-getElem?_pos,g405B0,hi,hx,k1,k2,k3,q,ae];rw[g405L0e];simp[hr]
  .simp(disch:=omega)[-getElem?_pos,g405B0,hi,hx,k1,k2,k3,q]
def c405{ds:List Dt}(hS:Sm ds)(hc:∀d∈ds,Sm d.cons):∀(n:Nat){e:Ex},r_ e->e.oZ n->∀a:List bj,a.length+1000*n<=900000000->(az AP).p 405 [.aq (ds.map Dt.pv),.aq (a.map .str),e.pv]=some [fP (e.aI ds a)]
 |0,e,_,z,_,_=>by cases z
 |n+1,e,j,z,a,hl=>by
  have D:∀i,∀x∈e.ch,(az AP).p 405 [.aq (ds.map Dt.pv),.aq ((a++dv e i).map .str),x.pv]=some [fP (x.aI ds (a++dv e i))]:=fun i x hx=>
   c405 hS hc n (j.c hx) (z.c x hx) _ (by have:=ku j.ok (i:=i);simp;omega)
  have h:=Zt j (by omega) D _ 0 rfl (by omega);have k1:=c414 j.ok;rw[zaj]at h;rw[Ex.Hq];have hz:=Dr (f:=fun i x=>x.aI ds (a++dv e i)) (fun i x h=>Du h) (l:=e.ch) (i:=0);clear D;have k2:=c214 (s:=a) (by unfold Sm;omega) (y:=e.name);have k3:=c190 hS hc (s:=e.name);have k4:=c415 hS hc j.ok;have k5:=c185 hS (l:=[]) (by simp[Sm]) j.ok.t;generalize r5 (fun i x=>x.aI ds (a++dv e i)) 0 e.ch=G at*;generalize e.ch=C at*;rw[aw g405];simp at k1 k2 k3 k4 k5
  have b:(G=(0,0)/\G.1=0)\/(¬G.1=0):=by
   by_cases q:G.1=0
   .exact .inl ⟨hz q,q⟩
   .exact .inr q
  clear hz;generalize A:oY ds e=Q at*;generalize hT:e.ty.formed ds []=T at*;by_cases o:e.kind=1
  .simp only[o]at k1;by_cases v:e.name∈a
   .rcases b with⟨rfl,b⟩|b<;>simp[b,o]at h<;>simp[v]at k2<;>simp[g405,eS,o,v,k1,k2,h,b]
   .simp[v]at k2;simp[g405,eS,o,v,k2]
  .by_cases m:e.kind=2
   .simp only[m]at k1;cases u:ix ds e.name 0 with
    |none=>
     rw[u]at k3;simp[rF]at k3;simp[g405,eS,m,u,k3]
    |some r=>
     rw[u]at k3;simp[rF]at k3;rcases b with⟨rfl,b⟩|b<;>simp[b,m]at h<;>simp[g405,eS,m,u,k1,k3,h,b]
   .by_cases g:e.kind=8
    .simp only[g]at k1;by_cases w:Q.1=0
     .have:Q=(0,0):=by rw[<-A]at w⊢;exact wA w
      subst this;rcases b with⟨rfl,b⟩|b<;>simp[b,g]at h<;>simp[g]at k4<;>simp[g405,eS,g,A,k1,k4,h,b]
     .simp[g]at k4;simp[g405,eS,g,A,k4,w]
    .by_cases k:e.kind=9
     .simp only[k]at k1;by_cases B:T=0
      .subst B;rcases b with⟨rfl,b⟩|b<;>simp[b,k]at h<;>simp[g405,eS,k,hT,k1,k5,h,b]
      .simp[g405,eS,k,hT,k5,B]
     .rcases b with⟨rfl,b⟩|b<;>simp[b]at h<;>simp[g405,eS,o,m,g,k,k1,h,b]
def qO(b:Nat):List AV:=[.pv (vI 0),.pv (vI 0),.pv (.str []),.pv (vI 0),.own [] b,.own [] (b+1),.pv (vI 0),.pv (.str []),.pv (vI 0),.pv (vI 0),.own [] (b+2)]
theorem nM:∀{as:List Ar}{xs:List Ex},xs.length=as.length->(cN as xs).map cX.body=xs
 |[],[],_=>rfl
 |[],_::_,h=>by simp at h
 |_::_,[],h=>by simp at h
 |a::as,x::xs,h=>by simp only[cN,zal,nM (as:=as) (xs:=xs) (by simpa using h)]
theorem AB:∀{as:List Ar}{xs:List Ex},(cN as xs).map (fun a=>(a.cv,a.vars))=as.map (fun a=>(a.cv,a.vars))
 |[],xs=>by cases xs<;>rfl
 |a::as,[]=>rfl
 |a::as,x::xs=>by simp only[cN,zal,AB (as:=as) (xs:=xs)]
def sa{e:Ex}{c:List Ex}(h:c.length=e.kids.length+e.aB.length):(e.lS c).ch=c:=by
 unfold Ex.lS;rw[zan h];simp only[Ex.ch];rw[nM (by simp;omega),zbS]
theorem yu{sz n:Nat}{ag:Bool}:Rt sz n ag none=none:=rfl
theorem Dv{cs:List AV}:zD cs none=.agg cs:=rfl
theorem IG{o:Option (List PV)}:qy none o=none:=rfl
theorem II{p:PV}:qy (some p) none=none:=rfl
def c145j{e:Ex}{X:Sh}:(az AP).i 145 [.pv e.pv] X []=(az AP).i 145 [.agg (e.QY (.pv (.aq (e.aB.map Ar.pv))))] X []:=by
 rw[aM g145,aM g145];simp[g145]
def c145z{e:Ex}(b:e.Ok):∃k,(az AP).i 145 [.pv e.pv] [] []=some (if e.ch=[]then([.own [] 0],[],[0])else([.aP k 11 e.ch.length true],nn k++[some (aI Ex.cells e.ch)],[])):=by
 obtain⟨k,c⟩:=c145i (A:=.pv (.aq (e.aB.map Ar.pv))) b.k b.a (X:=[]) (by intro cs h;simp at h) (.inl rfl);have d:=c145j (e:=e) (X:=[]);refine⟨k,?_⟩;rw[d,c];simp
def c558(e:Ex):e.Ok->(az AP).p 558 [e.pv]=some [e.strip.pv]:=by
 refine Ex.recC (p:=fun e=>e.Ok->(az AP).p 558 [e.pv]=some [e.strip.pv]) ?_ e;intro e r q;have t:=q.k;have F:=q.a;obtain⟨k,c1⟩:=c145z q;have hl:=Ex.cM (e:=e);have⟨t1,t2⟩:=Dn e;rw[Ex.eo];rw[aw g558];by_cases hc:e.ch=[]
 .have h0:e.kids=[]/\e.aB=[]:=by have:=hc;simpa[Ex.ch]using this
  have c2:=c374n (e:=e) t h0.2 (c:=[]) (by simp[h0.1]) (X:=[]) lT;rw[hc,zan rfl]at c1;simp[Ex.Sz,h0.1,h0.2]at c1 c2;simp[g558,h0.1,h0.2,c1,g558L0e,g558B0,c2,g558L1e,g558B1]
 .have d:∀c,(nn k++[some (aI Ex.cells c)])[k]?=some (some (aI Ex.cells c)):=fun c=>by simp
  have l1:=Zo (e:=e) (b:=k) (m:=e.ch.length) (by omega) (SS:=fun c=>nn k++[some (aI Ex.cells c)]) d (fun c c'=>by simp) (fun c=>(bn k).app (aG.one aN)) _ 0 rfl (by omega) e.ch rfl (fun x hx=>r x (by simpa using hx) (q.c x (by simpa using hx)));rw[zaj,za3,zaE]at l1;have f:aG (nn k++[none]):=(bn k).app (bn 1);have u:(nn k++[none]).length=k+1:=(by simp);have j:=mE (l:=e.ch.map Ex.strip);have b1:(aI Ex.cells (e.ch.map Ex.strip)).length=e.ch.length*11:=(by rw[a_ bo,zak]);have s1:(nn k++[some (aI Ex.cells (e.ch.map Ex.strip))]).set k none=nn k++[none]:=(by simp);have A:=d (e.ch.map Ex.strip);have E:∀aH ts,bg aH ts (nn k++[some (aI Ex.cells (e.ch.map Ex.strip))])=(nn k++[some (aI Ex.cells (e.ch.map Ex.strip))],aH,ts):=((bn k).app (aG.one aN)).norm;have o:∀aH ts,bg aH ts (nn k++[some (aI Ex.cells e.ch)])=(nn k++[some (aI Ex.cells e.ch)],aH,ts):=((bn k).app (aG.one aN)).norm;have i:∀n,dU n (nn k++[some (aI Ex.cells e.ch)])=nn k++[some (aI Ex.cells e.ch)]:=((bn k).app (aG.one aN)).shift;have g:∀n,dU n (nn k++[none])=nn k++[none]:=f.shift;have h:∀aH ts,bg aH ts (nn k++[none])=(nn k++[none],aH,ts):=f.norm;rw[zai hc]at c1;rw[zak]at j
  try dsimp only at l1
  by_cases hA:e.aB=[]
  .have s:e.ch.length=e.kids.length:=(by rw[hl,hA];simp);have c2:=c374n (e:=e) t hA (c:=e.ch.map Ex.strip) (by rw[zak];exact s) f;rw[zaf (by rw[zak];omega)]at t1;rw[<-t1,hA];clear r d f t1 t2;generalize e.ch.map Ex.strip=C at*;generalize nn k++[some (aI Ex.cells C)]=J at*;generalize nn k++[some (aI Ex.cells e.ch)]=L at*;generalize nn k++[none]=X at*;generalize aI Ex.cells C=I at*;rw[g558L0e]at l1;simp[hA]at c1;simp at j;simp[zO,o,hA]at l1;simp[Ex.Sz,hA]at c2;simp(config:={maxSteps:=1000000}) (disch:=omega) [-getElem?_pos,g558,hc,c1,i,g,h,o,E,g558L0e,l1,s1,A,j,b1,c2,g558L1e,g558B1,hA]
  .have c2:=c374a (e:=e) t F hA (c:=e.ch.map Ex.strip) (by rw[zak];exact hl) f;rw[u,t1]at c2
   have l2:=Ui (e:=e) (K:=e.kids.map Ex.strip) (B:=k+1) F rfl (SA:=fun as=>nn k++[none]++[some (aI Ar.cells as)]) (fun c=>by simp)
     (fun c c'=>by simp) (fun c=>f.app (aG.one aN)) _ 0 rfl (by omega) (cN e.aB ((e.ch.map Ex.strip).drop e.kids.length)) gO
   rw[zaj,za3,zaE,t2]at l2;have z:=wx (l:=e.aB.map fun a=>(⟨0,a.cv,a.vars,a.body.strip⟩:Ar));have b3:(aI Ar.cells (e.aB.map fun a=>(⟨0,a.cv,a.vars,a.body.strip⟩:Ar))).length=e.aB.length*14:=by rw[a_ dZ,zak]
   have D:∀aH ts,bg aH ts (nn k++[none]++[some (aI Ar.cells (cN e.aB ((e.ch.map Ex.strip).drop e.kids.length)))])=(nn k++[none]++[some (aI Ar.cells (cN e.aB ((e.ch.map Ex.strip).drop e.kids.length)))],aH,ts):=(f.app (aG.one aN)).norm;have w:∀n,dU n (nn k++[none]++[some (aI Ar.cells (cN e.aB ((e.ch.map Ex.strip).drop e.kids.length)))])=nn k++[none]++[some (aI Ar.cells (cN e.aB ((e.ch.map Ex.strip).drop e.kids.length)))]:=(f.app (aG.one aN)).shift;have y:(nn k++[none]++[some (aI Ar.cells (e.aB.map fun a=>(⟨0,a.cv,a.vars,a.body.strip⟩:Ar)))])[k+1]?=some (some (aI Ar.cells (e.aB.map fun a=>(⟨0,a.cv,a.vars,a.body.strip⟩:Ar)))):=(by simp);rw[zak]at z
   try dsimp only at l2
   clear r d f t1 t2;generalize cN e.aB ((e.ch.map Ex.strip).drop e.kids.length)=M at*;generalize (e.aB.map fun a=>(⟨0,a.cv,a.vars,a.body.strip⟩:Ar))=G at*;generalize v:e.kids.map Ex.strip=K at*;have H:K.length=e.kids.length:=by rw[<-v,zak]
   generalize e.ch.map Ex.strip=C at*;generalize nn k++[some (aI Ex.cells C)]=J at*;generalize nn k++[some (aI Ex.cells e.ch)]=L at*;generalize nn k++[none]++[some (aI Ar.cells G)]=O at*;generalize nn k++[none]++[some (aI Ar.cells M)]=P at*;generalize nn k++[none]=X at*;generalize aI Ex.cells C=I at*;generalize aI Ar.cells G=N at*;rw[g558L0e]at l1;rw[g558L1e]at l2;simp at c1 j z;simp[zO,Ex.XT,o,D]at l1 l2;simp[Ex.Sz]at c2;simp(config:={maxSteps:=1000000}) (disch:=omega) [-getElem?_pos,g558,hc,c1,i,g,w,h,o,E,D,g558L0e,l1,s1,A,j,b1,c2,g558L1e,l2,y,z,b3]
structure Sl where
 bd:Bool
 ty:Ty
 home:Int
 base:Bool
def Sl.pv(x:Sl):PV:=.agg [.bool x.bd,vI x.ty.kind,.str x.ty.name,vI x.ty.id,vI x.ty.home,.aq (x.ty.args.map Ty.pv),vI x.home,.bool x.base]
@[simp] theorem Sl.kS(x:Sl):x.pv=.agg [.bool x.bd,.int .i64 x.ty.kind,.str x.ty.name,.int .i64 x.ty.id,.int .i64 x.ty.home,.aq (x.ty.args.map Ty.pv),.int .i64 x.home,.bool x.base]:=rfl
structure Ch where
 id:Int
 aH:Sl
 nw:Bool
def Ch.pv(x:Ch):PV:=.agg [vI x.id,.bool x.aH.bd,vI x.aH.ty.kind,.str x.aH.ty.name,vI x.aH.ty.id,vI x.aH.ty.home,.aq (x.aH.ty.args.map Ty.pv),vI x.aH.home,.bool x.aH.base,.bool x.nw]
@[simp] theorem Ch.kS(x:Ch):x.pv=.agg [.int .i64 x.id,.bool x.aH.bd,.int .i64 x.aH.ty.kind,.str x.aH.ty.name,.int .i64 x.aH.ty.id,.int .i64 x.aH.ty.home,.aq (x.aH.ty.args.map Ty.pv),.int .i64 x.aH.home,.bool x.aH.base,.bool x.nw]:=rfl
structure dS where
 sl:List Sl
 tr:List Ch
def dS.pv(s:dS):PV:=.agg [.aq (s.sl.map Sl.pv),.aq (s.tr.map Ch.pv)]
@[simp] theorem dS.kS(s:dS):s.pv=.agg [.aq (s.sl.map Sl.pv),.aq (s.tr.map Ch.pv)]:=rfl
structure dS.Ok(s:dS)(n m:Nat):Prop where
 sl:s.sl.length<=n
 tr:s.tr.length<=m
 ty:∀x∈s.sl,x.ty.Ok
def Us:El Sl.pv 8 true:=⟨fun _=>rfl,fun _=>rfl⟩
def PH:El Ch.pv 10 true:=⟨fun _=>rfl,fun _=>rfl⟩
def d7(s:List Sl)(t:Ty):Option Sl:=if t.kind=1/\0<=t.id then(match s[t.id.toNat]? with|some x=>if x.bd then some x else none|none=>none)else none
def eD{s:List Sl}{t:Ty}{x:Sl}(h:d7 s t=some x):t.kind=1/\∃i:Nat,t.id=i/\s[i]?=some x/\x.bd=true:=by
 unfold d7 at h;split at h
 .rename_i q;refine⟨q.1,t.id.toNat,by omega,?_⟩;split at h
  .rename_i y hy;split at h
   .rename_i a;cases h;exact⟨hy,a⟩
   .cases h
  .cases h
 .cases h
def c392{s:dS}{t:Ty}:(az AP).p 392 [s.pv,t.pv]=some [.bool (d7 s.sl t).isSome]:=by
 rw[aw g392];unfold d7;by_cases k:t.kind=1
 .by_cases h0:0<=t.id
  .obtain⟨i,hi⟩:∃i:Nat,t.id=i:=⟨t.id.toNat,by omega⟩;by_cases hl:i<s.sl.length
   .obtain⟨x,hx⟩:=aQ hl;simp(disch:=omega)[-getElem?_pos,g392,k,hi,hl,hx];cases x.bd<;>rfl
   .have hx:s.sl[i]?=none:=(by simp;omega);simp(disch:=omega)[-getElem?_pos,g392,k,hi,hl,hx]
  .simp(disch:=omega)[g392,k,h0]
 .simp(disch:=omega)[g392,k]
def wk(s:List Sl):Nat->Ty->Ty
 |0,t=>t
 |n+1,t=>match d7 s t with|some x=>wk s n x.ty|none=>t
def o5{s:List Sl}(hs:∀x∈s,x.ty.Ok):∀{n:Nat}{t:Ty},t.Ok->(wk s n t).Ok
 |0,t,h=>h
 |n+1,t,h=>by
  unfold wk;split
  .rename_i x hx;obtain⟨_,i,_,hi,_⟩:=eD hx;exact o5 hs (hs x (aK hi))
  .exact h
def tC(t:Ty):List AV:=[.pv (vI t.kind),.pv (.str t.name),.pv (vI t.id),.pv (vI t.home),.pv (.aq (t.args.map Ty.pv))]
def sC(s:dS):List AV:=[.pv (.aq (s.sl.map Sl.pv)),.pv (.aq (s.tr.map Ch.pv))]
def zC(k:Nat):List AV:=[.pv (vI 0),.pv (.str []),.pv (vI 0),.pv (vI 0),.own [] k]
def Zu{s:dS}(hs:Sm s.sl):∀(n i:Nat),s.sl.length+1-i=n->i<=s.sl.length+1->∀t:Ty,∃(b:Nat),
   cl AP g386L0 ⟨[(2,.au 2 0),(3,.au 3 0),(4,.au 4 0),(5,.pv (vI i))],[(2,sC s),(3,tC t),(4,zC 0)],[],[0]⟩=
     some (.exit 0,⟨[(2,.au 2 0),(3,.au 3 0),(4,.au 4 0),(5,.pv (vI b)),(15,.pv (.bool false))],[(2,sC s),(3,tC (wk s.sl n t)),(4,zC 0)],[],[0]⟩)
 |0,i,hn,hi,t=>by
  refine⟨i,?_⟩;have h1:¬(i:Int)<=s.sl.length:=by omega
  rw[g386L0e];simp[g386B0,sC,tC,zC,wk,h1]
 |n+1,i,hn,hi,t=>by
  have h1:(i:Int)<=s.sl.length:=(by omega);have k:=c392 (s:=s) (t:=t);unfold Sm at hs;rw[g386L0e];cases a:d7 s.sl t with
  |none=>
   refine⟨i,?_⟩;rw[a]at k;simp at k;simp[g386B0,sC,tC,zC,wk,h1,a,k]
  |some x=>
   obtain⟨_,j,hj,hx,_⟩:=eD a;obtain⟨b,e⟩:=Zu hs n (i+1) (by omega) (by omega) x.ty;refine⟨b,?_⟩;rw[a]at k;have hl:j<s.sl.length:=by obtain⟨h,_⟩:=zaa.1 hx;exact h
   rw[g386L0e]at e;simp[hj]at k;simp[sC,tC,zC]at e;simp(disch:=omega)[-getElem?_pos,g386B0,sC,tC,zC,wk,h1,a,k,hj,hx,hl,ae];rw[g386L0e];simp[e]
def c386{s:dS}(hs:Sm s.sl){t:Ty}:(az AP).p 386 [s.pv,t.pv]=some [(wk s.sl (s.sl.length+1) t).pv]:=by
 obtain⟨a,h⟩:=Zu hs _ 0 rfl (by omega) t;rw[aw g386];rw[g386L0e]at h;simp[sC,tC,zC]at h;simp[g386,g386L0e,h]
def eT(s:List Sl)(t:Ty):Ty:=wk s (s.length+1) t
inductive Tr (s:List Sl):Ty->Nat->Prop
 |mk {t:Ty} (ns:List Nat):ns.length=(eT s t).args.length->(∀(i:Nat) a n,(eT s t).args[i]?=some a->ns[i]?=some n->Tr s a n)->Tr s t (ns.sum+1)
def Mv(s:List Sl)(l:List Ty)(ns:List Nat):Prop:=ns.length=l.length/\∀(i:Nat) a n,l[i]?=some a->ns[i]?=some n->Tr s a n
def Mv.nil{s:List Sl}:Mv s [] []:=⟨rfl,by intro i a n h;simp at h⟩
def Mv.snoc{s:List Sl}{l:List Ty}{ns:List Nat}(h:Mv s l ns){a:Ty}{n:Nat}(d:Tr s a n):Mv s (l++[a]) (ns++[n]):=by
 refine⟨by simp[h.1],?_⟩;intro i b m c hm;have hl:=h.1;by_cases hi:i<l.length
 .rw[zar hi]at c;rw[zar (by omega)]at hm;exact h.2 i b m c hm
 .rw[zaB (by omega)]at c;rw[zaB (by omega),hl]at hm;by_cases e:i-l.length=0
  .rw[e]at c hm;simp at c hm;rw[<-c,<-hm];exact d
  .have h1:1<=i-l.length:=(by omega);have:([a]:List Ty)[i-l.length]?=none:=(by simp;omega);rw[this]at c;cases c
def Tr.inv{s:List Sl}{t:Ty}{r:Nat}(h:Tr s t r):∃ns,Mv s (eT s t).args ns/\r=ns.sum+1:=by
 cases h with
 |mk ns h1 h2=>exact⟨ns,⟨h1,h2⟩,rfl⟩
def AD:∀{ns:List Nat}{i n:Nat},ns[i]?=some n->n<=ns.sum
 |a::r,0,n,h=>by simp at h;subst h;simp
 |a::r,i+1,n,h=>by simp at h;have:=AD h;simp;omega
def Zv{s:dS}(hs:Sm s.sl)(A:∀x∈s.sl,x.ty.Ok){m:Nat}(hm:m<1000000)(y:∀m':Nat,m'<m->∀t,t.Ok->∃r:Nat,(az AP).p 371 [s.pv,t.pv,vI m']=some [vI r]/\1<=r/\r<=m'+1/\(r<=m'->Tr s.sl t r)/\∀r0,Tr s.sl t r0->r0<=m'->r=r0)
   {x:Ty} (hx:x.Ok):∀(k i n:Nat),x.args.length-i=k->i<=x.args.length->1<=n->n<=m+1->(n<=m->∃ns,Mv s.sl (x.args.take i) ns/\n=ns.sum+1)->(∀ns,Mv s.sl x.args ns->ns.sum+1<=m->n=(ns.take i).sum+1)->∃l n':Nat,
   cl AP g371L0 ⟨[(2,.pv (vI m)),(3,.au 3 0),(4,.au 4 0),(7,.pv (vI n)),(8,.pv (vI i))],[(3,sC s),(4,tC x)],[],[]⟩=
     some (.exit 0,⟨[(2,.pv (vI m)),(3,.au 3 0),(4,.au 4 0),(7,.pv (vI n')),(8,.pv (vI l)),(21,.pv (.bool false))],[(3,sC s),(4,tC x)],[],[]⟩)/\1<=n'/\n'<=m+1/\(n'<=m->∃ns,Mv s.sl x.args ns/\n'=ns.sum+1)/\∀ns,Mv s.sl x.args ns->ns.sum+1<=m->n'=ns.sum+1
 |0,i,n,z,hi,h1,h2,h3,h4=>by
  have:i=x.args.length:=by omega
  subst this;refine⟨x.args.length,n,?_,h1,h2,by simpa using h3,fun ns q h=>by have:=h4 ns q h;rwa [<-q.1,zbo]at this⟩;rw[g371L0e];simp[g371B0,sC,tC]
 |k+1,i,n,z,hi,h1,h2,h3,h4=>by
  have hi:i<x.args.length:=(by omega);obtain⟨a,g⟩:=aQ hi;have o:=hx.sm;unfold Sm at o;by_cases hn:n<=m
  .have C:m-n<m:=by clear h3;omega
   obtain⟨r,e,r1,r2,r3,r4⟩:=y (m-n) C a (hx.d6 a (aK g))
   have g6:∀ns,Mv s.sl x.args ns->ns.sum+1<=m->n+r=(ns.take (i+1)).sum+1:=by
    intro ns q h;have f:=h4 ns q h;have u:i<ns.length:=by rw[q.1];exact hi
    obtain⟨w,hw⟩:=aQ u;have j:(ns.take (i+1)).sum=(ns.take i).sum+w:=by rw[zaU,hw,zb9];simp
    have d:(ns.take (i+1)).sum<=ns.sum:=by
     have:=zbS (i+1) ns;rw[<-this,zb9,this];omega
    have:=r4 w (q.2 i a w g hw) (by clear h3 r3 h4 r4;omega);rw[j,f,this];omega
   have c:((m:Int)-n)=((m-n:Nat):Int):=by clear h3 r3;omega
   have g5:n+r<=m->∃ns,Mv s.sl (x.args.take (i+1)) ns/\n+r=ns.sum+1:=by
    intro h;obtain⟨ns,q,e2⟩:=h3 hn;refine⟨ns++[r],?_,by rw[zb9,e2];simp;omega⟩;rw[zaU,g];have hr:r<=m-n:=by clear h3;omega
    exact q.snoc (r3 hr)
   clear h3 h4 r4;have g1:x.args.length-(i+1)=k:=by clear g5 g6 r3;omega
   have g2:1<=n+r:=by clear g5 g6 r3;omega
   have B:n+r<=m+1:=by clear g5 g6 r3;omega
   obtain⟨l,n',v,f,j,d⟩:=Zv hs A hm y hx k (i+1) (n+r) g1 hi g2 B g5 g6;refine⟨l,n',?_,f,j,d⟩;have b:(n:Int)<=m:=by clear g5 g6 d r3;omega
   rw[g371L0e]at v ⊢;simp at e;simp[sC,tC]at v;simp(disch:=omega)[-getElem?_pos,g371B0,sC,tC,hi,g,b,ae,c,e];rw[g371L0e];simp[v]
  .refine⟨i,n,?_,h1,h2,fun h=>absurd h hn,fun ns q h=>absurd (by
    have f:=h4 ns q h
    have d:(ns.take i).sum<=ns.sum:=by
     have:=zbS i ns;rw[<-this,zb9,this];omega
    clear h3;omega) hn⟩
   clear h3 h4;have b:¬(n:Int)<=m:=by omega
   rw[g371L0e];simp(disch:=omega)[-getElem?_pos,g371B0,sC,tC,hi,b]
def c371{s:dS}(hs:Sm s.sl)(g:∀x∈s.sl,x.ty.Ok)(m:Nat)(hm:m<1000000):∀t:Ty,t.Ok->∃r:Nat,(az AP).p 371 [s.pv,t.pv,vI m]=some [vI r]/\1<=r/\r<=m+1/\(r<=m->Tr s.sl t r)/\∀r0,Tr s.sl t r0->r0<=m->r=r0:=by
 induction m using Nat.strongRecOn with
 |ind m i=>
  intro t ht;have k:=c386 hs (t:=t);have hw:(wk s.sl (s.sl.length+1) t).Ok:=o5 g ht;obtain⟨o,n',e,n,l,d,c⟩:=Zv hs g hm (fun m' h t ht=>i m' h (by omega) t ht) hw _ 0 1 rfl (by omega) (by omega) (by omega) (fun _=>⟨[],by simpa using Mv.nil,rfl⟩) (fun _ _ _=>by simp);refine⟨min n' (m+1),?_,by clear d c;omega,by clear d c;omega,?_,fun r0 h0 hr=>?_⟩
  rotate_left
  rotate_left
  .obtain⟨ns,hT,e0⟩:=h0.inv;have:=c ns hT (by rw[<-e0];exact hr);clear d c;omega
  .rw[aw g371];rw[g371L0e]at e;have f:min (n':Int) ((m:Int)+1)=((min n' (m+1):Nat):Int):=by clear d c;omega
   generalize wk s.sl (s.sl.length+1) t=x at*;simp at k;simp[sC,tC]at e;simp(disch:=omega)[g371,k,g371L0e,e,ae,f];omega
  .intro h;have j:n'<=m:=by clear d c;omega
   obtain⟨ns,a,b⟩:=d j;have:min n' (m+1)=ns.sum+1:=by omega
   rw[this];exact .mk ns a.1 a.2
def uC(x:Ty)(acc:List Ty)(k:Nat):List AV:=[.pv (vI x.kind),.pv (.str x.name),.pv (vI x.id),.pv (vI x.home),.own (acc.map Ty.pv) k]
def Zw{s:dS}{P:Ty->Ty->Prop}{x:Ty}(hx:x.Ok){ns:List Nat}(h:ns.length=x.args.length)(z:∀(i:Nat) a n,x.args[i]?=some a->ns[i]?=some n->∃u:Ty,(az AP).p 373 [s.pv,a.pv]=some [u.pv]/\u.Ok/\u.nodes.length=n/\P a u):∀(k i:Nat),x.args.length-i=k->i<=x.args.length->∀acc:List Ty,acc.length=i->(∀u∈acc,u.Ok)->(acc.flatMap Ty.nodes).length=(ns.take i).sum->(∀(j:Nat) a b,x.args[j]?=some a->acc[j]?=some b->P a b)->∃f:List Ty,
   cl AP g373L0 ⟨[(2,.au 2 0),(3,.au 3 0),(4,.au 4 0),(5,.au 5 0),(6,.pv (vI i))],[(2,sC s),(3,tC x),(4,zC 0),(5,uC x acc 1)],[],[0,acc.length]⟩=
     some (.exit 0,⟨[(2,.au 2 0),(3,.au 3 0),(4,.au 4 0),(5,.au 5 0),(6,.pv (vI x.args.length)),(16,.pv (.bool false))],[(2,sC s),(3,tC x),(4,zC 0),(5,uC x f 1)],[],[0,f.length]⟩)/\f.length=x.args.length/\(∀u∈f,u.Ok)/\(f.flatMap Ty.nodes).length=ns.sum/\∀(j:Nat) a b,x.args[j]?=some a->f[j]?=some b->P a b
 |0,i,A,hi,acc,w,hu,hc,hp=>by
  have:i=x.args.length:=by omega
  subst this;refine⟨acc,?_,w,hu,by rw[hc,<-h,zbo],hp⟩;rw[g373L0e];simp[g373B0,sC,tC,zC,uC]
 |k+1,i,A,hi,acc,w,hu,hc,hp=>by
  have hi:i<x.args.length:=(by omega);obtain⟨a,g⟩:=aQ hi;obtain⟨n,hn⟩:=aQ (l:=ns) (i:=i) (by omega);have o:=hx.sm;unfold Sm at o;obtain⟨u,e,B,t,r⟩:=z i a n g hn
  obtain⟨f,v,h1,h2,h3,h4⟩:=Zw hx h z k (i+1) (by omega) (by omega) (acc++[u]) (by simp;omega) (by
   intro y hy;simp at hy;rcases hy with hy|rfl
   .exact hu y hy
   .exact B) (by rw[zaU,hn,zbL,zad,hc];simp[t]) (by
   intro j b c m d;by_cases q:j<acc.length
   .rw[zar q]at d;exact hp j b c m d
   .rw[zaB (by omega)]at d
    have hj:j-acc.length=0:=by
     have:=(zaa.1 d).1;simp at this;omega
    rw[hj]at d;simp at d;have:j=i:=by omega
    subst this;rw[g]at m;cases m;subst d;exact r)
  clear hp;refine⟨f,?_,h1,h2,h3,h4⟩;have m:(acc.length+1)*64<=140737488355328:=by omega
  rw[g373L0e]at v ⊢;simp at e;simp[sC,tC,zC,uC]at v;simp(disch:=omega)[-getElem?_pos,g373B0,sC,tC,zC,uC,hi,g,ae,e,m];rw[g373L0e];simp[v]
inductive PI (s:List Sl):Ty->Ty->Prop
 |mk {t u:Ty}:u.kind=(eT s t).kind->u.name=(eT s t).name->u.id=(eT s t).id->u.home=(eT s t).home->u.args.length=(eT s t).args.length->(∀(i:Nat) a b,(eT s t).args[i]?=some a->u.args[i]?=some b->PI s a b)->PI s t u
def c373{s:dS}(hs:Sm s.sl)(g:∀x∈s.sl,x.ty.Ok)(r:Nat):∀t:Ty,Tr s.sl t r->t.Ok->∃u:Ty,(az AP).p 373 [s.pv,t.pv]=some [u.pv]/\u.Ok/\u.nodes.length=r/\PI s.sl t u:=by
 induction r using Nat.strongRecOn with
 |ind r f=>
  intro t ht c;have k:=c386 hs (t:=t);have hw:(wk s.sl (s.sl.length+1) t).Ok:=o5 g c;obtain⟨ns,hn,hr⟩:=ht.inv;unfold eT at hn
  obtain⟨d,e,h1,h2,h3,h4⟩:=Zw (s:=s) (P:=PI s.sl) hw hn.1 (fun i a n hi b=>by
   have:=AD b;exact f n (by omega) a (hn.2 i a n hi b) (hw.d6 a (aK hi))) _ 0 rfl (by omega) [] rfl (by simp) rfl (by simp)
  refine⟨⟨(wk s.sl (s.sl.length+1) t).kind,(wk s.sl (s.sl.length+1) t).name,(wk s.sl (s.sl.length+1) t).id,(wk s.sl (s.sl.length+1) t).home,d⟩,?_,⟨by have:=hw.sm;unfold Sm at*;simp only;omega,h2⟩,by rw[Ty.aL];simp only[zae];omega,.mk rfl rfl rfl rfl h1 h4⟩;rw[aw g373];rw[g373L0e]at e;generalize wk s.sl (s.sl.length+1) t=x at*;simp at k;simp[sC,tC,zC,uC]at e;simp[g373,k,g373L0e,e]
def c355{s:dS}(hs:Sm s.sl)(b:∀x∈s.sl,x.ty.Ok){m:Nat}(hm:m<1000000){t:Ty}(ht:t.Ok):∃r:Nat,(az AP).p 355 [s.pv,t.pv,vI m]=some [vI r]/\1<=r/\r<=m+1/\(r<=m->Tr s.sl t r):=by
 obtain⟨r,e,h,h2,h3,_⟩:=c371 hs b m hm t ht;refine⟨r,?_,h,h2,h3⟩;rw[aw g355];simp at e;have a:max (m:Int) 0=m:=by omega
 simp[g355,a,e]
def c355y{s:dS}(hs:Sm s.sl)(b:∀x∈s.sl,x.ty.Ok){m:Nat}(hm:m<1000000){t:Ty}(ht:t.Ok){r:Nat}(hT:Tr s.sl t r)(hr:r<=m):(az AP).p 355 [s.pv,t.pv,vI m]=some [vI r]:=by
 obtain⟨c,e,_,_,_,h⟩:=c371 hs b m hm t ht;rw[h r hT hr]at e;rw[aw g355];simp at e;have a:max (m:Int) 0=m:=by omega
 simp[g355,a,e]
def c358y{s:dS}(hs:Sm s.sl)(b:∀x∈s.sl,x.ty.Ok){t:Ty}(ht:t.Ok){r:Nat}(hT:Tr s.sl t r)(hr:r<=4000):∃u:Ty,(az AP).p 358 [s.pv,t.pv]=some [u.pv,.bool true]/\u.Ok/\u.nodes.length=r/\PI s.sl t u:=by
 have e:=c355y hs b (m:=4000) (by omega) ht hT hr;obtain⟨u,e2,h⟩:=c373 hs b r t hT ht;refine⟨u,?_,h⟩;simp at e e2;have a:¬(4000:Int)<r:=by omega
 rw[aw g358];simp[g358,e,a,e2]
def c358{s:dS}(hs:Sm s.sl)(c:∀x∈s.sl,x.ty.Ok){t:Ty}(ht:t.Ok):∃(u:Ty)(b:Bool),(az AP).p 358 [s.pv,t.pv]=some [u.pv,.bool b]/\u.Ok/\u.nodes.length<=4000:=by
 obtain⟨r,e,h1,h2,h3⟩:=c355 hs c (m:=4000) (by omega) ht;simp at e;by_cases hr:r<=4000
 .obtain⟨u,e2,hu,d,_⟩:=c373 hs c r t (h3 hr) ht;refine⟨u,true,?_,hu,by omega⟩;simp at e2;have a:¬(4000:Int)<r:=by omega
  rw[aw g358];simp[g358,e,a,e2]
 .refine⟨bF,false,?_,cW rfl,by rw[Ty.aL];simp[bF]⟩;have a:(4000:Int)<r:=by omega
  rw[aw g358];simp[g358,e,a,bF]
def c388:(az AP).p 388 []=some [(dS.mk [] []).pv]:=by
 rw[aw g388];simp[g388]
def cO(s:dS)(home:Int)(b:Bool):dS:=⟨s.sl++[⟨false,bF,home,b⟩],s.tr++[⟨s.sl.length,⟨false,bF,0,false⟩,true⟩]⟩
def c381{s:dS}{n m:Nat}(hs:s.Ok n m)(hn:n<=1000000)(hm:m<=1300000000000)(home:Int)(b:Bool):(az AP).p 381 [s.pv,vI home,.bool b]=some [(cO s home b).pv,(bO s.sl.length).pv]:=by
 have k:=c63 (n:=s.sl.length);have h1:=hs.sl;have h2:=hs.tr;have b1:s.sl.length*88<=140737488355328:=by omega
 have b2:(s.sl.length+1)*88<=140737488355328:=by omega
 have b3:s.tr.length*104<=140737488355328:=by omega
 have a:(s.tr.length+1)*104<=140737488355328:=by omega
 have e1:=Us.head s.sl;have e2:=PH.head s.tr;simp at k e1 e2;rw[aw g381];simp(disch:=omega)[g381,cO,bF,bO,k,b1,b2,b3,a,e1,e2]
 (repeat' split)<;>simp_all
def Sl.cells(x:Sl):List PV:=[.bool x.bd,vI x.ty.kind,.str x.ty.name,vI x.ty.id,vI x.ty.home,.aq (x.ty.args.map Ty.pv),vI x.home,.bool x.base]
def pN:Row Sl.cells 8:=⟨by omega,fun _=>rfl⟩
def WE{l:List Sl}:((eX (aI Sl.cells l)).bind (d9 8 true l.length)).map PV.aq=some (.aq (l.map Sl.pv)):=oD pN
def WG{l:List Sl}:((l.map Sl.pv).flatMap aZ).map AV.pv=aI Sl.cells l:=oE pN
def fJ(s:dS)(i:Nat)(o x:Sl):dS:=⟨s.sl.set i x,s.tr++[⟨i,o,false⟩]⟩
def c393{s:dS}{n m:Nat}(hs:s.Ok n m)(hn:n<=1000000)(hm:m<=1300000000000){i:Nat}{o:Sl}(hi:s.sl[i]?=some o)(x:Sl):(az AP).p 393 [s.pv,vI i,x.pv]=some [(fJ s i o x).pv,.bool true]:=by
 have h1:=hs.sl;have h2:=hs.tr;have hl:i<s.sl.length:=by obtain⟨h,_⟩:=zaa.1 hi;exact h
 have b1:s.sl.length*88<=140737488355328:=by omega
 have b3:s.tr.length*104<=140737488355328:=by omega
 have w:(s.tr.length+1)*104<=140737488355328:=by omega
 have r:¬s.sl.length<=i:=by omega
 have f:i*8+8<=s.sl.length*8:=by omega
 have hf:∀S:Sh,gr S (.au 8 0)=none:=fun _=>rfl;have e1:=Us.head s.sl
 have e2:=PH.head s.tr;have j:¬s.sl=[]:=by intro h;rw[h]at hl;simp at hl
 have d:=WG (l:=s.sl);have v:bW (aI Sl.cells s.sl)=false:=bw aN;have t:bW (aI Sl.cells (s.sl.set i x))=false:=bw aN;have e:(aI Sl.cells s.sl).length=s.sl.length*8:=a_ pN;have c:(aI Sl.cells (s.sl.set i x)).length=s.sl.length*8:=by rw[a_ pN];simp
 have q:=Wp pN hl (o:=0) (k:=8) (by omega)
 have a:=gU pN hi (y:=x) (o:=0) (vs:=x.cells) (by rw[pN.len];omega) (by
  simp[Sl.cells])
 have u:∀aH ts,bg aH ts [some (aI Sl.cells s.sl)]=([some (aI Sl.cells s.sl)],aH,ts):=(aG.one aN).norm;have g:∀aH ts,bg aH ts [some (aI Sl.cells (s.sl.set i x))]=([some (aI Sl.cells (s.sl.set i x))],aH,ts):=(aG.one aN).norm;have b:=WE (l:=s.sl.set i x);rw[zaN]at b;simp only[zba]at a q;generalize aI Sl.cells (s.sl.set i x)=z at*;generalize aI Sl.cells s.sl=T at*;simp[Sl.cells]at a;simp at b d e1 e2;rw[aw g393];simp(disch:=omega)[-getElem?_pos,g393,hi,hl,b1,b3,w,e1,e2,j,d,v,t,e,c,a,u,g,b,fJ,r,f,hf]
def c194g{t:Ty}(ht:t.Ok):∃(a b:Ty)(c:Bool),(az AP).p 194 [t.pv]=some [a.pv,b.pv,.bool c]/\a.Ok/\b.Ok/\(c=true->t=⟨4,[45,62],t.id,t.home,[a,b]⟩):=by
 by_cases h:t.kind=4/\t.name=[45,62]/\t.args.length=2
 .obtain⟨h1,h2,h3⟩:=h
  match e:t.args,h3 with
  |[a,b],_=>
   refine⟨a,b,true,?_,ht.d6 a (by simp[e]),ht.d6 b (by simp[e]),?_⟩
   .rw[aw g194];simp[g194,h1,h2,e]
   .intro _;cases t;simp at h1 h2 e⊢;simp[h1,h2,e]
 .refine⟨bF,bF,false,?_,cW rfl,cW rfl,by simp⟩;rw[aw g194];by_cases h1:t.kind=4
  .by_cases h2:t.name=[45,62]
   .have h3:¬(t.args.length:Int)=2:=by
     intro q;exact h ⟨h1,h2,by omega⟩
    simp[g194,h1,h2,h3,bF]
   .simp[g194,h1,h2,bF]
  .simp[g194,h1,bF]
def L59{S:List Ty}{l:List Ty}(hS:Sm l)(d:∀t∈l,t.Ok)(c:∀x∈l.flatMap (Ty.fm 3),x∈S):∀(n i:Nat),l.length-i=n->i<=l.length->∀out,gM S out->
   cl AP g59L0 ⟨[(0,.pv (.aq (l.map Ty.pv))),(3,.own (out.map Ty.pv) 0),(4,.pv (vI i))],[],[],[out.length]⟩=
     some (.exit 0,⟨[(0,.pv (.aq (l.map Ty.pv))),(3,.own ((((l.drop i).flatMap (Ty.fm 3)).foldl iw out).map Ty.pv) 0),(4,.pv (vI l.length)),(8,.pv (.bool false))],[],[],[(((l.drop i).flatMap (Ty.fm 3)).foldl iw out).length]⟩)
 |0,i,hn,hi,out,hc=>by
  have:i=l.length:=by omega
  subst this;rw[g59L0e];simp[g59B0]
 |n+1,i,hn,hi,out,hc=>by
  have hi:i<l.length:=(by omega);obtain⟨x,hx⟩:=aQ hi;unfold Sm at hS;have a:∀y∈x.fm 3,y∈S:=fun y hy=>c y (by simp only[zaC];exact⟨x,aK hx,hy⟩)
  have k:=c99 (kd:=3) (d x (aK hx)) a out hc;have b:=L59 hS d c n (i+1) (by omega) (by omega) _ (hc.fold a);rw[g59L0e]at b⊢;rw[aR hx];simp at k b;simp(disch:=omega)[-getElem?_pos,g59B0,hx,hi,k,ae];rw[g59L0e];simp[b]
def c59{S:List Ty}(hf:S.length<1099511627776)(a:∀x∈S,x.Ok){l:List Ty}(hS:Sm l)(c:∀t∈l,t.Ok)(b:∀x∈l.flatMap (Ty.fm 3),x∈S):∃r:List Ty,(az AP).p 59 [.aq (l.map Ty.pv)]=some [.aq (r.map Ty.pv)]/\Sm r/\∀x∈r,x∈S:=by
 have c0:gM S []:=⟨by simp,by simp,hf,a⟩;have h:=L59 hS c b _ 0 rfl (by omega) [] c0;have hc:=c0.fold b;refine⟨_,?_,hc.len,hc.sub⟩;rw[aw g59];rw[g59L0e]at h;simp at h;simp[g59,g59L0e,h]
def o7(s:List Sl)(t:Ty):Bool:=decide (t.kind=1/\0<=t.id/\t.id<s.length)
def c396{s:dS}{t:Ty}:(az AP).p 396 [s.pv,t.pv]=some [.bool (o7 s.sl t)]:=by
 rw[aw g396];by_cases h1:t.kind=1
 .by_cases h2:0<=t.id
  .by_cases h3:t.id<s.sl.length
   .simp[g396,o7,h1,h2,h3]
   .simp[g396,o7,h1,h2,h3]
  .simp[g396,o7,h1,h2]
 .simp[g396,o7,h1]
inductive gI:Ty->Int->Prop
 |var {t:Ty}:t.kind=1->gI t t.id
 |arg {t a:Ty} {v:Int}:t.kind≠1->a∈t.args->gI a v->gI t v
def Edge(s:List Sl)(i v:Int):Prop:=∃(k:Nat)(x:Sl),i=k/\s[k]?=some x/\x.bd=true/\gI x.ty v
inductive IJ (s:List Sl):Int->Int->Prop
 |refl (i:Int):IJ s i i
 |step {i j k:Int}:Edge s i j->IJ s j k->IJ s i k
def Hs(s:List Sl):Prop:=∃a:Int->Nat,∀i v,Edge s i v->a v<a i
def Hs.of{s s':List Sl}(h:Hs s)(b:∀i v,Edge s' i v->Edge s i v):Hs s':=by
 obtain⟨a,hr⟩:=h;exact⟨a,fun i v e=>hr i v (b i v e)⟩
def gI.bound(d:Int->Nat)(t:Ty):∃M,∀v,gI t v->d v<M:=by
 refine Ty.cD (p:=fun t=>∃M,∀v,gI t v->d v<M) ?_ t;intro t g;by_cases k:t.kind=1
 .refine⟨d t.id+1,?_⟩;intro v h;cases h with
  |var _=>omega
  |arg q _ _=>exact absurd k q
 .have key:∀l:List Ty,(∀a∈l,∃M,∀v,gI a v->d v<M)->∃M,∀a∈l,∀v,gI a v->d v<M:=by
   intro l;induction l with
   |nil=>intro _;exact⟨0,by simp⟩
   |cons a r e=>
    intro h;obtain⟨M,f⟩:=h a (by simp);obtain⟨N,hN⟩:=e fun b c=>h b (by simp[c]);refine⟨M+N,?_⟩;intro b c v hv;simp at c;rcases c with rfl|c
    .have:=f v hv;omega
    .have:=hN b c v hv;omega
  obtain⟨M,f⟩:=key t.args g;refine⟨M,?_⟩;intro v h;cases h with
  |var q=>exact absurd q k
  |arg _ i h=>exact f _ i v h
def Dw{s:List Sl}{k:Nat}{x:Sl}{i v:Int}(h:Edge (s.set k x) i v):(i=k/\x.bd=true/\gI x.ty v)\/(i≠k/\Edge s i v):=by
 obtain⟨j,y,rfl,hy,b,a⟩:=h;rw[zaA]at hy;by_cases e:k=j
 .subst e;by_cases hl:k<s.length
  .simp[hl]at hy;subst hy;exact .inl ⟨rfl,b,a⟩
  .simp[hl]at hy
 .simp[e]at hy;exact .inr ⟨by omega,j,y,rfl,hy,b,a⟩
def Dx{s:List Sl}{k:Nat}{o x:Sl}(h:Hs s)(c:s[k]?=some o)(d:x.bd=o.bd)(ht:x.ty=o.ty):Hs (s.set k x):=by
 refine h.of ?_;intro i v e;rcases Dw e with⟨rfl,b,a⟩|⟨_,e⟩
 .exact⟨k,o,rfl,c,by rw[<-d];exact b,by rw[<-ht];exact a⟩
 .exact e
def Dy{s:List Sl}{k:Nat}{x:Sl}(h:Hs s)(hn:∀v,gI x.ty v->¬IJ s v k):Hs (s.set k x):=by
 classical
 obtain⟨a,hr⟩:=h;obtain⟨M,d⟩:=gI.bound a x.ty;refine⟨fun j=>if IJ s j k then a j+M else a j,?_⟩;intro i v e;show(if IJ s v k then a v+M else a v)<(if IJ s i k then a i+M else a i);rcases Dw e with⟨rfl,b,c⟩|⟨_,e⟩
 .have h1:=d v c;rw[zai (hn v c),zan (.refl _)];omega
 .have h1:=hr i v e;by_cases q:IJ s v k
  .rw[zan q,zan (.step e q)];omega
  .rw[zai q];split<;>omega
def PJ{s:List Sl}{x:Sl}(h:Hs s)(a:x.bd=false):Hs (s++[x]):=by
 refine h.of ?_
 rintro i v ⟨k,y,rfl,hy,b,o⟩
 by_cases hl:k<s.length
 .rw[zar hl]at hy;exact⟨k,y,rfl,hy,b,o⟩
 .rw[zaB (by omega)]at hy;by_cases e:k-s.length=0
  .rw[e]at hy;simp at hy;subst hy;rw[a]at b;cases b
  .have:([x]:List Sl)[k-s.length]?=none:=by simp;omega
   rw[this]at hy;cases hy
def ub(s:List Sl):Nat:=s.countP fun x=>!x.bd
def um:∀{s:List Sl}{k:Nat}{o x:Sl},s[k]?=some o->x.bd=o.bd->ub (s.set k x)=ub s
 |[],k,o,x,h,_=>by simp at h
 |a::r,0,o,x,h,b=>by simp at h;subst h;simp[ub,zcG,b]
 |a::r,k+1,o,x,h,b=>by
  simp at h;have:=um h b;simp only[ub]at this;simp[ub,zcG,this]
def AE:∀{s:List Sl}{k:Nat}{o x:Sl},s[k]?=some o->o.bd=false->x.bd=true->ub (s.set k x)+1=ub s
 |[],k,o,x,h,_,_=>by simp at h
 |a::r,0,o,x,h,b,hx=>by simp at h;subst h;simp[ub,zcG,b,hx]
 |a::r,k+1,o,x,h,b,hx=>by
  simp at h;have:=AE h b hx;simp only[ub]at this;simp[ub,zcG];omega
def bT(dn:List Bool):List AV:=dn.map fun b=>.pv (.bool b)
def fX(s:dS)(T:List AV)(n:Nat)(out:List Int):Sh:=[some T,some [.pv (.aq (s.sl.map Sl.pv)),.pv (.aq (s.tr.map Ch.pv)),.own (out.map vI) 0,.aP 0 1 n false]]
structure Ut(T:List AV):Prop where
 norm:∀aH ts,br aH ts T=(T,aH,ts)
 mp:bW T=false
 sh:∀k,T.map (cY k)=T
def Zx{s:dS}{S out:List Int}{t:Ty}(a:t.kind=1)(d:d7 s.sl t=none)(hc:lO S out){T:List AV}(hT:Ut T){n:Nat}:
   (az AP).i 387 [.aV 1 0,.pv t.pv] (fX s T n out) [out.length]=some ([],fX s T n (if t.id∈out then out else out++[t.id]),[(if t.id∈out then out else out++[t.id]).length]):=by
 have k1:=c392 (s:=s) (t:=t);have hl:=hc.len;have k2:=c95 hl (y:=t.id);unfold Sm at hl;have b:(out.length+1)*8<=140737488355328:=by omega
 have c:bl 1 (out.map vI)=true:=lq.head out;have hn:=hT.norm;rw[d]at k1;simp[a]at k1;rw[aM g387];by_cases e2:t.id∈out
 .rw[za2 e2]at k2;simp[g387,fX,a,k1,k2,e2,hn]
 .rw[zaY e2]at k2;simp[g387,fX,a,k1,k2,e2,hn,b,c]
def Zy{s:dS}{out:List Int}{t:Ty}{x:Sl}{i:Nat}(hi:t.id=i)(e:t.kind=1)(hx:s.sl[i]?=some x)(g:d7 s.sl t=some x){T:List AV}(hT:Ut T){n:Nat}(hn:T.length=n)(d:i<n)(hd:T[i]?=some (.pv (.bool true))):
   (az AP).i 387 [.aV 1 0,.pv t.pv] (fX s T n out) [out.length]=some ([],fX s T n out,[out.length]):=by
 have k1:=c392 (s:=s) (t:=t);have a:=hT.norm;have b:=hT.mp;have f:=hT.sh;have c:i+1<=T.length:=by omega
 rw[g]at k1;simp[e,hi]at k1;rw[aM g387];simp(disch:=omega)[-getElem?_pos,g387,fX,e,hi,k1,a,d,hd,b,c,cm]
def Zz{s:dS}{out out':List Int}{t:Ty}{x:Sl}{i:Nat}(hi:t.id=i)(p:t.kind=1)(hx:s.sl[i]?=some x)(q:d7 s.sl t=some x){T T1 T2:List AV}(hT:Ut T)(g:Ut T1)(f:Ut T2){n:Nat}(hn:T.length=n)(o:i<n)(hd:T[i]?=some (.pv (.bool false)))
   (hs:aS T i [.pv (.bool true)]=T1) (e:(az AP).i 387 [.aV 1 0,.pv x.ty.pv] (fX s T1 n out) [out.length]=some ([],fX s T2 n out',[out'.length])):
   (az AP).i 387 [.aV 1 0,.pv t.pv] (fX s T n out) [out.length]=some ([],fX s T2 n out',[out'.length]):=by
 have k1:=c392 (s:=s) (t:=t);have k:=hT.norm;have d:=g.norm;have c:=f.norm;have b:=g.sh;have a:=f.sh;have l:=hT.mp;have j:=hT.sh;have hl:i<s.sl.length:=by obtain⟨h,_⟩:=zaa.1 hx;exact h
 have m:i+1<=T.length:=by omega
 rw[q]at k1;simp[p,hi]at k1;simp[fX]at e;simp at hs;rw[aM g387];simp(disch:=omega)[-getElem?_pos,g387,fX,p,hi,k1,k,d,c,o,hd,hx,hl,l,hs,m,e,cm,j,b,a]
def WH(s:dS)(n:Nat)(t:Ty)(T:List AV)(out:List Int)(a:List AV)(out':List Int):Prop:=(az AP).i 387 [.aV 1 0,.pv t.pv] (fX s T n out) [out.length]=some ([],fX s a n out',[out'.length])
def ZA{s:dS}{n:Nat}{t:Ty}(ht:t.Ok)(J:Nat->List AV->List Int->Prop)(d:∀i T out,J i T out->Ut T)
   (o:∀i a,t.args[i]?=some a->∀T out,J i T out->∃c out',WH s n a T out c out'/\J (i+1) c out'):∀(k i:Nat),t.args.length-i=k->i<=t.args.length->∀T out,J i T out->∃c out',
   cl AP g387L0 ⟨[(0,.aV 1 0),(3,.au 3 0),(4,.pv (vI i))],[(3,tC t)],fX s T n out,[out.length]⟩=
     some (.exit 1,⟨[(0,.aV 1 0),(3,.au 3 0),(4,.pv (vI t.args.length)),(68,.pv (.bool false))],[(3,tC t)],fX s c n out',[out'.length]⟩)/\J t.args.length c out'
 |0,i,p,hi,T,out,h=>by
  have:i=t.args.length:=by omega
  subst this;refine⟨T,out,?_,h⟩;have hn:=(d _ _ _ h).norm;rw[g387L0e];simp[g387B0,tC,fX,hn]
 |k+1,i,p,hi,T,out,h=>by
  have hi:i<t.args.length:=(by omega);obtain⟨a,m⟩:=aQ hi;have g:=ht.sm;unfold Sm at g;obtain⟨q,f,e,h1⟩:=o i a m T out h;obtain⟨c,out',l,h2⟩:=ZA ht J d o k (i+1) (by omega) (by omega) q f h1;refine⟨c,out',?_,h2⟩;have hn:=(d _ _ _ h).norm;have b:=(d _ _ _ h1).norm;have hs:=(d _ _ _ h).sh;have j:=(d _ _ _ h1).sh;unfold WH at e;rw[g387L0e]at l ⊢;simp[fX]at e;simp[tC,fX,b]at l;simp(disch:=omega)[-getElem?_pos,g387B0,tC,fX,hi,m,hn,b,hs,j,ae,e];rw[g387L0e];simp[l,b]
def ZB{s:dS}{n:Nat}{t:Ty}(ht:t.Ok)(g:t.kind≠1)(J:Nat->List AV->List Int->Prop)(c:∀i T out,J i T out->Ut T)
   (j:∀i a,t.args[i]?=some a->∀T out,J i T out->∃b out',WH s n a T out b out'/\J (i+1) b out') {T:List AV} {out:List Int} (h:J 0 T out):∃b out',WH s n t T out b out'/\J t.args.length b out':=by
 obtain⟨b,out',e,h1⟩:=ZA (s:=s) (n:=n) ht J c j _ 0 rfl (by omega) T out h;refine⟨b,out',?_,h1⟩;have hn:=(c _ _ _ h).norm;have f:=(c _ _ _ h1).norm;have d:=(c _ _ _ h1).sh;unfold WH;rw[aM g387];rw[g387L0e]at e;simp[tC,fX,hn]at e;simp[g387,fX,g,hn,f,d,g387L0e,e]
def pO(s:List Sl)(v:Int):Prop:=∃(k:Nat)(x:Sl),v=k/\s[k]?=some x/\x.bd=true
def ky{s:List Sl}{t:Ty}(a:t.kind=1)(h:d7 s t=none):¬pO s t.id:=by
 rintro⟨k,x,e,hx,b⟩
 unfold d7 at h;have:0<=t.id:=by omega
 rw[zan ⟨a,this⟩]at h;have hn:t.id.toNat=k:=by omega
 rw[hn,hx]at h;simp[b]at h
def PK{s:List Sl}{i v:Int}(h:Edge s i v):pO s i:=by
 obtain⟨k,x,e,hx,a,_⟩:=h;exact⟨k,x,e,hx,a⟩
theorem wB{s:List Sl}{i v:Int}(h:IJ s i v)(a:¬pO s i):v=i:=by
 cases h with
 |refl=>rfl
 |step e _=>exact absurd (PK e) a
theorem kV{t:Ty}{w:Int}(a:t.kind=1)(h:gI t w):w=t.id:=by
 cases h with
 |var _=>rfl
 |arg q _ _=>exact absurd a q
def WI{s:List Sl}{a:Int->Nat}(hr:∀i v,Edge s i v->a v<a i){i v:Int}(h:IJ s i v):a v<=a i:=by
 induction h with
 |refl=>omega
 |step e _ b=>have:=hr _ _ e;omega
def SG(s:List Sl)(j:Int)(out:List Int):Prop:=∀v,IJ s j v->¬pO s v->v∈out
def RT(s:List Sl)(t:Ty)(v:Int):Prop:=∃w,gI t w/\IJ s w v
def SG.mono{s:List Sl}{j:Int}{out out':List Int}(h:SG s j out)(a:∀v∈out,v∈out'):SG s j out':=fun v hv b=>a v (h v hv b)
def PL{dn:List Bool}:∀v∈bT dn,∃p,v=AV.pv p:=by
 intro v hv;simp only[bT,zat]at hv;obtain⟨b,_,rfl⟩:=hv;exact⟨_,rfl⟩
def kz{dn:List Bool}:Ut (bT dn):=⟨fun _ _=>nF PL,bw PL,fun _=>rU PL⟩
def WJ{dn:List Bool}{i:Nat}(hi:i<dn.length)(b:Bool):aS (bT dn) i [.pv (.bool b)]=bT (dn.set i b):=by
 have:(bT dn).length=dn.length:=by simp[bT]
 simp only[aS,bT,zae,zao,zbi];rw[<-zbr,<-zcu,zaw,zan hi];simp
def PM{dn:List Bool}{i j:Nat}(h:dn[j]?=some true):(dn.set i true)[j]?=some true:=by
 rw[zaA];have hj:j<dn.length:=by obtain⟨h,_⟩:=zaa.1 h;exact h
 by_cases e:i=j
 .subst e;simp[hj]
 .simp[e,h]
def Dz{dn:List Bool}{i j:Nat}(h:(dn.set i true)[j]?=some true):i=j\/dn[j]?=some true:=by
 rw[zaA]at h;by_cases e:i=j
 .exact .inl e
 .simp[e]at h;exact .inr h
structure ZC(s:dS)(S:List Int)(t:Ty)(dn:List Bool)(out:List Int)(dn':List Bool)(out':List Int):Prop where
 wu:WH s s.sl.length t (bT dn) out (bT dn') out'
 len:dn'.length=s.sl.length
 Mw:lO S out'
 sub:∀v∈out,v∈out'
 mono:∀j:Nat,dn[j]?=some true->dn'[j]?=some true
 all:∀v,RT s.sl t v->¬pO s.sl v->v∈out'
 new:∀j:Nat,dn'[j]?=some true->dn[j]?=some true\/SG s.sl j out'
 own:∀v∈out',v∈out\/(RT s.sl t v/\¬pO s.sl v)
structure Jst(s:dS)(S:List Int)(t:Ty)(dn:List Bool)(out:List Int)(i:Nat)(dn':List Bool)(out':List Int):Prop where
 len:dn'.length=s.sl.length
 Mw:lO S out'
 sub:∀v∈out,v∈out'
 mono:∀j:Nat,dn[j]?=some true->dn'[j]?=some true
 all:∀a∈t.args.take i,∀v,RT s.sl a v->¬pO s.sl v->v∈out'
 new:∀j:Nat,dn'[j]?=some true->dn[j]?=some true\/SG s.sl j out'
 own:∀v∈out',v∈out\/((∃a∈t.args.take i,RT s.sl a v)/\¬pO s.sl v)
def PG{s:dS}{S:List Int}{u:Int->Nat}(hr:∀i v,Edge s.sl i v->u v<u i)(J:∀x∈s.sl,x.ty.Ok)(hS:∀x∈s.sl,∀w,gI x.ty w->w∈S)(N:Nat):
   ∀t:Ty,t.Ok->(∀w,gI t w->u w<N)->(∀w,gI t w->w∈S)->∀(dn:List Bool)(out:List Int),dn.length=s.sl.length->lO S out->(∀j:Nat,dn[j]?=some true->RT s.sl t j->SG s.sl j out)->
     ∃dn' out',ZC s S t dn out dn' out':=by
 induction N using Nat.strongRecOn with
 |ind N L=>
  intro t
  refine Ty.cD (p:=fun t=>t.Ok->(∀w,gI t w->u w<N)->(∀w,gI t w->w∈S)->∀(dn:List Bool)(out:List Int),dn.length=s.sl.length->lO S out->(∀j:Nat,dn[j]?=some true->RT s.sl t j->SG s.sl j out)->
    ∃dn' out',ZC s S t dn out dn' out') ?_ t
  intro t I ht hN hw dn out hd hc r;by_cases m:t.kind=1
  .have A:gI t t.id:=.var m;cases g:d7 s.sl t with
   |none=>
    have hf:=ky m g;have e:=Zx (n:=s.sl.length) m g hc (kz (dn:=dn))
    have K:(if t.id∈out then out else out++[t.id])=eR out t:=by
     unfold eR;by_cases q:t.id∈out<;>simp[q,m]
    rw[K]at e
    have hs:∀v∈out,v∈eR out t:=by
     intro v hv;unfold eR;split
     .simp[hv]
     .exact hv
    refine⟨dn,eR out t,e,hd,hc.add (fun _=>hw _ A),hs,fun _ h=>h,?_,fun _ h=>.inl h,fun v hv=>?_⟩
    rotate_left
    .unfold eR at hv;split at hv
     .simp only[zaz,zb6]at hv;rcases hv with hv|rfl
      .exact .inl hv
      .exact .inr ⟨⟨t.id,A,.refl _⟩,hf⟩
     .exact .inl hv
    rintro v ⟨w,c,hv⟩ _
    have h1:=kV m c;subst h1;rw[wB hv hf];unfold eR;by_cases q:t.id∈out<;>simp[q,m]
   |some x=>
    obtain⟨_,i,hi,hx,D⟩:=eD g;have hl:i<s.sl.length:=by obtain⟨h,_⟩:=zaa.1 hx;exact h
    have E:(bT dn).length=s.sl.length:=(by simp[bT,hd]);obtain⟨b,C⟩:=aQ (l:=dn) (i:=i) (by omega);have F:(bT dn)[i]?=some (.pv (.bool b)):=(by simp[bT,C]);have Hu:∀w,gI x.ty w->Edge s.sl t.id w:=fun w c=>⟨i,x,hi,hx,D,c⟩
    cases b with
    |true=>
     have e:=Zy (out:=out) hi m hx g (kz (dn:=dn)) E hl F;refine⟨dn,out,e,hd,hc,fun _ h=>h,fun _ h=>h,?_,fun _ h=>.inl h,fun _ h=>.inl h⟩
     rintro v ⟨w,c,hv⟩ f
     have h1:=kV m c;subst h1;have:=r i C ⟨t.id,A,by rw[hi];exact .refl _⟩;rw[hi]at hv;exact this v hv f
    |false=>
     have G:u t.id<N:=hN _ A
     obtain⟨dn',out',P⟩:=L (u t.id) G x.ty (J x (aK hx)) (fun w c=>hr _ _ (Hu w c)) (hS x (aK hx)) (dn.set i true) out (by simp[hd]) hc (by
      intro j hj ⟨w,c,hv⟩;have B:u j<u t.id:=by have:=WI hr hv;have:=hr _ _ (Hu w c);omega
      rcases Dz hj with rfl|hj
      .rw[hi]at B;omega
      .exact r j hj ⟨t.id,A,.step (Hu w c) hv⟩)
     have e:=Zz hi m hx g (kz (dn:=dn)) (kz (dn:=dn.set i true)) (kz (dn:=dn')) E hl F (WJ (by omega) true) P.wu
     have fin:SG s.sl t.id out':=by
      intro v hv f;cases hv with
      |refl=>exact absurd ⟨i,x,hi,hx,D⟩ f
      |step e2 hv=>
       obtain⟨k,y,e3,hy,_,c⟩:=e2;have:k=i:=by omega
       subst this;rw[hx]at hy;cases hy;exact P.all v ⟨_,c,hv⟩ f
     refine⟨dn',out',e,P.len,P.Mw,P.sub,fun j h=>P.mono j (PM h),?_,?_,fun v hv=>(P.own v hv).imp_right fun⟨⟨w,c,hv⟩,g⟩=>⟨⟨t.id,A,.step (Hu w c) hv⟩,g⟩⟩
     .rintro v ⟨w,c,hv⟩ f
      have h1:=kV m c;subst h1;exact fin v hv f
     .intro j hj;rcases P.new j hj with h|h
      .rcases Dz h with rfl|h
       .exact .inr (by rw[<-hi];exact fin)
       .exact .inl h
      .exact .inr h
  .obtain⟨M,out',e,dn',rfl,h⟩:=ZB (s:=s) (n:=s.sl.length) ht m (fun i T o=>∃d,T=bT d/\Jst s S t dn out i d o) (by rintro i T o ⟨d,rfl,_⟩;exact kz) (by
    rintro i a z T o ⟨d,rfl,h⟩
    have hm:=aK z
    obtain⟨H,o',P⟩:=I a hm (ht.d6 a hm) (fun w c=>hN w (.arg m hm c)) (fun w c=>hw w (.arg m hm c)) d o h.len h.Mw (by
     intro j hj ⟨w,c,hv⟩;rcases h.new j hj with hj|hj
     .exact(r j hj ⟨w,.arg m hm c,hv⟩).mono h.sub
     .exact hj)
    refine⟨bT H,o',P.wu,H,rfl,P.len,P.Mw,fun v hv=>P.sub v (h.sub v hv),fun j hj=>P.mono j (h.mono j hj),?_,?_,fun v hv=>?_⟩
    rotate_left
    rotate_left
    .rw[zaU,z];rcases P.own v hv with hv|⟨hv,g⟩
     .exact(h.own v hv).imp_right fun⟨⟨b,g,hr⟩,h2⟩=>⟨⟨b,by simp[g],hr⟩,h2⟩
     .exact .inr ⟨⟨a,by simp,hv⟩,g⟩
    .intro b g v hv f;rw[zaU,z]at g;simp at g;rcases g with g|rfl
     .exact P.sub v (h.all b g v hv f)
     .exact P.all v hv f
    .intro j hj;rcases P.new j hj with hj|hj
     .rcases h.new j hj with hj|hj
      .exact .inl hj
      .exact .inr (hj.mono P.sub)
     .exact .inr hj) ⟨dn,rfl,hd,hc,fun _ h=>h,fun _ h=>h,by simp,fun _ h=>.inl h,fun _ h=>.inl h⟩
   refine⟨dn',out',e,h.len,h.Mw,h.sub,h.mono,?_,h.new,fun v hv=>(h.own v hv).imp_right fun⟨⟨a,z,w,c,hr⟩,g⟩=>⟨⟨w,.arg m (zbd z) c,hr⟩,g⟩⟩
   rintro v ⟨w,c,hv⟩ f
   cases c with
   |var q=>exact absurd q m
   |arg _ z c=>exact h.all _ (by simpa using z) v ⟨w,c,hv⟩ f
def ZD{s:dS}{S:List Int}{b:Int->Nat}(hr:∀i v,Edge s.sl i v->b v<b i)(o:∀x∈s.sl,x.ty.Ok)(hS:∀x∈s.sl,∀w,gI x.ty w->w∈S){l:List Ty}(hl:Sm l)(ht:∀t∈l,t.Ok)(hw:∀t∈l,∀w,gI t w->w∈S):
   ∀(n i:Nat),l.length-i=n->i<=l.length->∀(dn:List Bool)(out:List Int),dn.length=s.sl.length->lO S out->(∀j:Nat,dn[j]?=some true->SG s.sl j out)->(∀v,v∈out<->∃t∈l.take i,RT s.sl t v/\¬pO s.sl v)->∃(dn':List Bool)(out':List Int),
   cl AP g372L0 ⟨[(1,.pv (.aq (l.map Ty.pv))),(5,.aV 1 0),(6,.pv (vI i))],[],fX s (bT dn) s.sl.length out,[out.length]⟩=
     some (.exit 0,⟨[(1,.pv (.aq (l.map Ty.pv))),(5,.aV 1 0),(6,.pv (vI l.length)),(17,.pv (.bool false))],[],fX s (bT dn') s.sl.length out',[out'.length]⟩)/\lO S out'/\∀v,v∈out'<->∃t∈l,RT s.sl t v/\¬pO s.sl v
 |0,i,hn,hi,dn,out,hd,hc,hp,hv=>by
  have:i=l.length:=by omega
  subst this;refine⟨dn,out,?_,hc,by simpa using hv⟩;have p:=(kz (dn:=dn)).norm;rw[g372L0e];simp[g372B0,fX,p]
 |n+1,i,hn,hi,dn,out,hd,hc,hp,hv=>by
  have hi:i<l.length:=(by omega);obtain⟨a,d⟩:=aQ hi;have hm:=aK d;unfold Sm at hl;obtain⟨N,hN⟩:=gI.bound b a;obtain⟨g,o1,P⟩:=PG hr o hS N a (ht a hm) hN (hw a hm) dn out hd hc (fun j hj _=>hp j hj)
  obtain⟨dn',out',f,h1,h2⟩:=ZD hr o hS hl ht hw n (i+1) (by omega) (by omega) g o1 P.len P.Mw (fun j hj=>by
   rcases P.new j hj with h|h
   .exact(hp j h).mono P.sub
   .exact h) (fun v=>by
   rw[zaU,d];constructor
   .intro h;rcases P.own v h with h|h
    .obtain⟨t,h1,h2⟩:=(hv v).1 h;exact⟨t,by simp[h1],h2⟩
    .exact⟨a,by simp,h⟩
   .rintro⟨t,h1,h2⟩
    simp at h1;rcases h1 with h1|rfl
    .exact P.sub v ((hv v).2 ⟨t,h1,h2⟩)
    .exact P.all v h2.1 h2.2)
  refine⟨dn',out',?_,h1,h2⟩;have e:=P.wu;have m:=kz (dn:=dn);have k:=kz (dn:=g);have n0:=m.norm;have c:=k.norm;have s0:=m.sh;have s1:=k.sh;unfold WH at e;generalize bT g=q at*;generalize bT dn=T at*;rw[g372L0e]at f ⊢;simp[fX]at e;simp[fX,c]at f;simp(disch:=omega)[-getElem?_pos,g372B0,fX,hi,d,n0,c,s0,s1,ae,e];rw[g372L0e];simp[f,c]
theorem c372{s:dS}{S:List Int}(hs:s.sl.length<=1000000)(i:Hs s.sl)(k:∀x∈s.sl,x.ty.Ok)(hS:∀x∈s.sl,∀w,gI x.ty w->w∈S)(hf:S.length<1099511627776){l:List Ty}(hl:Sm l)(ht:∀t∈l,t.Ok)(hw:∀t∈l,∀w,gI t w->w∈S):
   ∃out,(az AP).p 372 [s.pv,.aq (l.map Ty.pv)]=some [.aq (out.map vI)]/\lO S out/\∀v,v∈out<->∃t∈l,RT s.sl t v/\¬pO s.sl v:=by
 obtain⟨m,hr⟩:=i
 obtain⟨dn',out,e,hc,hv⟩:=ZD hr k hS hl ht hw _ 0 rfl (by omega) (List.replicate s.sl.length false) [] (by simp) (wi hf) (by
  intro j hj;exfalso;by_cases q:j<s.sl.length
  .simp[List.getElem?_replicate,q]at hj
  .simp[List.getElem?_replicate,q]at hj) (by simp)
 refine⟨out,?_,hc,hv⟩;have h:bT (List.replicate s.sl.length false)=List.replicate s.sl.length (.pv (.bool false)):=by simp[bT]
 have hp:=kz (dn:=List.replicate s.sl.length false);have a:=kz (dn:=dn');rw[h]at e hp;have b1:(s.sl.length:Int)<=9223372036854775807:=by omega
 have b2:(s.sl.length:Int)<=140737488355328:=by omega
 have hn:=hp.norm;have b:=a.norm;have g:=hp.sh;have c:=a.sh;have hm:=hp.mp;generalize bT dn'=o at*
 have d:(List.replicate s.sl.length [AV.pv (.bool false)]).flatten=List.replicate s.sl.length (.pv (.bool false)):=by
  generalize s.sl.length=n;induction n with
  |zero=>rfl
  |succ n f=>rw[zbK,zbY,f,zbK];rfl
 generalize List.replicate s.sl.length (AV.pv (.bool false))=T at*;rw[g372L0e]at e;simp[fX,hn,b]at e;rw[aw g372];simp(disch:=omega)[g372,b1,b2,hn,b,g,c,hm,d,g372L0e,e,ae,yu,IG,II,vJ]
def qP{k:Int}{t:Ty}:(t.fm k).length<=t.nodes.length:=by
 refine Ty.cD (p:=fun t=>(t.fm k).length<=t.nodes.length) ?_ t;intro t d;rw[Ty.nH,Ty.aL];split
 .simp
 .have key:∀l:List Ty,(∀a∈l,(a.fm k).length<=a.nodes.length)->(l.flatMap (Ty.fm k)).length<=(l.flatMap Ty.nodes).length:=by
   intro l;induction l with
   |nil=>intro _;simp
   |cons a r c=>
    intro h;have h1:=h a (by simp);have h2:=c fun b e=>h b (by simp[e])
    simp only[zav,zad];omega
  have:=key t.args d;simp only[zae];omega
def nN{k:Int}{t:Ty}:∀x∈t.fm k,x.args=[]:=by
 refine Ty.cD (p:=fun t=>∀x∈t.fm k,x.args=[]) ?_ t;intro t b x hx;rw[Ty.nH]at hx;split at hx
 .rename_i q;simp at hx;subst hx;exact zaR.1 q.2
 .simp only[zaC]at hx;obtain⟨a,c,hx⟩:=hx;exact b a c x hx
def c59t{u:Ty}(hu:u.Ok)(hn:u.nodes.length<=4000):∃r:List Ty,(az AP).p 59 [.aq [u.pv]]=some [.aq (r.map Ty.pv)]/\Sm r:=by
 have hl:=qP (k:=3) (t:=u);obtain⟨r,e,h,_⟩:=c59 (S:=u.fm 3) (by omega) (fun x hx=>cW (nN x hx)) (l:=[u]) (by simp[Sm]) (by simpa using hu) (by simp);exact⟨r,e,h⟩
mutual
def Ty.pd(ht:Int->Nat):Ty->Nat
 |⟨k,_,i,_,as⟩=>if k=1 then ht i else Ty.MY ht as
def Ty.MY(ht:Int->Nat):List Ty->Nat
 |[]=>0
 |a::r=>max (1+Ty.pd ht a) (Ty.MY ht r)
end
def Ty.gm(ht:Int->Nat)(t:Ty):t.pd ht=if t.kind=1 then ht t.id else Ty.MY ht t.args:=by
 obtain⟨k,n,i,h,as⟩:=t;simp only[Ty.pd]
def kA{ht:Int->Nat}{B:Nat}:∀{l:List Ty},(∀x∈l,1+x.pd ht<=B)->Ty.MY ht l<=B
 |[],_=>by simp[Ty.MY]
 |a::r,h=>by
  have h1:=h a (by simp);have h2:=kA (l:=r) fun x hx=>h x (by simp[hx])
  simp only[Ty.MY];omega
def AF{ht:Int->Nat}:∀{l:List Ty}{x:Ty},x∈l->1+x.pd ht<=Ty.MY ht l
 |a::r,x,h=>by
  simp only[Ty.MY];rcases zau.1 h with rfl|h
  .omega
  .have:=AF (ht:=ht) h;omega
def lB{ht:Int->Nat}{t x:Ty}(a:t.kind≠1)(h:x∈t.args):1+x.pd ht<=t.pd ht:=by
 rw[Ty.gm ht t,zai a];exact AF h
inductive Gr:Ty->Prop
 |mk {t:Ty}:t.kind≠1->(∀x∈t.args,Gr x)->Gr t
def Gr.h{t:Ty}(h:Gr t):t.kind≠1:=by cases h;assumption
def Gr.c{t:Ty}(h:Gr t):∀x∈t.args,Gr x:=by cases h;assumption
def yx(D:Nat)(t:Ty):Prop:=Gr t/\∀ht,t.pd ht<=D
def yx.c{D:Nat}{t:Ty}(h:yx D t):∀x∈t.args,yx D x:=fun x hx=>⟨h.1.c x hx,fun ht=>by have:=lB (ht:=ht) h.1.h hx;have:=h.2 ht;omega⟩
def Ht(ht:Int->Nat)(D:Nat)(s:List Sl):Prop:=∀(i:Nat)(x:Sl),s[i]?=some x->if x.bd=true then x.ty.pd ht<=ht i else D<=ht i
def Ht.aW{ht:Int->Nat}{D:Nat}{s s':List Sl}(h:Ht ht D s)(a:∀(k:Nat) y,s'[k]?=some y->∃x,s[k]?=some x/\y.bd=x.bd/\y.ty=x.ty):Ht ht D s':=fun i y hy=>by
 obtain⟨x,hx,h1,h2⟩:=a i y hy;have:=h i x hx;rw[h1,h2];exact this
def Ht.bind{ht:Int->Nat}{D:Nat}{s:List Sl}(h:Ht ht D s){i:Nat}{x:Sl}(a:x.bd=true)(hp:x.ty.pd ht<=ht i):Ht ht D (s.set i x):=fun k y hy=>by
 rw[zaA]at hy;split at hy
 .rename_i e;subst e;split at hy
  .cases hy
   rw[zan a];exact hp
  .cases hy
 .exact h k y hy
def Ht.set{ht:Int->Nat}{D:Nat}{s:List Sl}(h:Ht ht D s){i:Nat}{o x:Sl}(b:s[i]?=some o)(c:x.bd=o.bd)(a:x.ty=o.ty):Ht ht D (s.set i x):=h.aW fun k y hy=>by
 rw[zaA]at hy;split at hy
 .rename_i e;subst e;split at hy
  .cases hy
   exact⟨o,b,c,a⟩
  .cases hy
 .exact⟨y,hy,rfl,rfl⟩
structure Vp where
 v:Ty->Prop
 d6:∀t,v t->∀x∈t.args,v x
 node:∀(t:Ty)(l:List Ty),v t->l.length=t.args.length->(∀x∈l,v x)->v ⟨t.kind,t.name,t.id,t.home,l⟩
 var:∀i,v (bO i)
 arr:∀a b,v a->v b->v ⟨4,[45,62],0,0,[a,b]⟩
def Vp.all:Vp:=⟨fun _=>True,fun _ _ _ _=>trivial,fun _ _ _ _ _=>trivial,fun _=>trivial,fun _ _ _ _=>trivial⟩
structure Sg where
 ids:List Int
 p:Vp
instance:Membership Int Sg:=⟨fun S w=>w∈S.ids⟩
structure Inv(n M:Nat)(S:Sg)(s:dS):Prop where
 len:s.sl.length=n
 QZ:s.tr.length+(n+2)*ub s.sl<=M
 ok:∀x∈s.sl,x.ty.Ok
 nO:∀x∈s.sl,∀w,gI x.ty w->w∈S
 Ea:Hs s.sl
 wf:∀x∈s.sl,x.ty.Kw
 vn:∀x∈s.sl,x.bd=true->S.p.v x.ty
structure Ext(s s':List Sl):Prop where
 le:s.length<=s'.length
 bd:∀(k:Nat) x,s[k]?=some x->x.bd=true->∃y,s'[k]?=some y/\y.bd=true/\y.ty=x.ty
def Ext.refl(s:List Sl):Ext s s:=⟨zas _,fun _ x h a=>⟨x,h,a,rfl⟩⟩
def Ext.trans{s s' a:List Sl}(h:Ext s s')(h':Ext s' a):Ext s a:=⟨za9 h.le h'.le,fun k x hx c=>by
 obtain⟨y,hy,b,e⟩:=h.bd k x hx c;obtain⟨z,hz,zb,d⟩:=h'.bd k y hy b;exact⟨z,hz,zb,by rw[d,e]⟩⟩
def Ext.set{s:List Sl}{i:Nat}{o x:Sl}(b:s[i]?=some o)(h:o.bd=false\/x.bd=o.bd/\x.ty=o.ty):Ext s (s.set i x):=⟨by simp,fun k y hy a=>by
 rw[zaA];by_cases e:i=k
 .subst e;rw[b]at hy;cases hy;rcases h with h|⟨h1,h2⟩
  .rw[h]at a;cases a
  .have:=(zaa.1 b).1;exact⟨x,by simp[this],by rw[h1,a],h2⟩
 .exact⟨y,by simp[e,hy],a,rfl⟩⟩
def mem_set{α:Type}{l:List α}{k:Nat}{x y:α}(h:y∈l.set k x):y=x\/y∈l:=by
 rcases zaH h with h|h
 .exact .inr h
 .exact .inl h
theorem bP{s:dS}{i:Nat}{o x:Sl}:(fJ s i o x).sl=s.sl.set i x:=rfl
def oG{s:dS}{i:Nat}{o x:Sl}:(fJ s i o x).tr.length=s.tr.length+1:=by simp[fJ]
theorem oH{s:List Sl}{k:Nat}{o:Sl}(a:s[k]?=some o)(h:¬pO s (k:Int)):o.bd=false:=by
 cases e:o.bd with
 |false=>rfl
 |true=>exact absurd ⟨k,o,rfl,a,e⟩ h
def PN{n M:Nat}{S:Sg}{s:dS}(I:Inv n M S s){i j:Nat}{l h l' h':Sl}(hl:s.sl[i]?=some l)(u:s.sl[j]?=some h)(o:i≠j)(fi:¬pO s.sl (i:Int))(A:¬pO s.sl (j:Int))
   (b:l'.bd=l.bd) (a:l'.ty=l.ty) (r:h'.bd=true) (c:h'.ty=bO i) (hi:(i:Int)∈S):
   Inv n M S (fJ (fJ s i l l') j h h')/\ub (fJ (fJ s i l l') j h h').sl<ub s.sl/\Ext s.sl (fJ (fJ s i l l') j h h').sl:=by
 have f:(fJ s i l l').sl[j]?=some h:=by
  rw[bP,zaA,zai o,u]
 have B:=um hl b;have z:=AE f (oH u A) r;rw[bP]at z;have hp:=I.QZ;refine⟨⟨by simp[fJ,I.len],?_,?_,?_,?_,?_,?_⟩,?_,(Ext.set hl (.inr ⟨b,a⟩)).trans (Ext.set f (.inl (oH u A)))⟩
 .rw[oG,oG];simp only[bP];have:(n+2)*ub s.sl=(n+2)*ub ((s.sl.set i l').set j h')+(n+2):=by rw[<-B,<-z,zcM,Nat.mul_one]
  omega
 .intro x hx;simp only[bP]at hx;rcases mem_set hx with rfl|hx
  .rw[c];exact cW rfl
  .rcases mem_set hx with rfl|hx
   .rw[a];exact I.ok l (aK hl)
   .exact I.ok x hx
 .intro x hx w d;simp only[bP]at hx;rcases mem_set hx with rfl|hx
  .rw[c]at d;rw[kV (t:=bO i) rfl d];exact hi
  .rcases mem_set hx with rfl|hx
   .rw[a]at d;exact I.nO l (aK hl) w d
   .exact I.nO x hx w d
 .simp only[bP];refine Dy (Dx I.Ea hl b a) ?_;intro v d hv;rw[c]at d;have e:=kV (t:=bO i) rfl d;have e2:v=(i:Int):=e;subst e2
  have y:¬pO (s.sl.set i l') (i:Int):=by
   rintro⟨k,x,q,hx,g⟩
   have:k=i:=by omega
   subst this;have m:k<s.sl.length:=by obtain⟨h,_⟩:=zaa.1 hl;exact h
   rw[zaA,zan rfl,zan m]at hx;cases hx;rw[b,oH hl fi]at g;cases g
  have:=wB hv y;omega
 .intro x hx;simp only[bP]at hx;rcases mem_set hx with rfl|hx
  .rw[c];exact⟨by simp[bO],by simp[bO],by simp[bO]⟩
  .rcases mem_set hx with rfl|hx
   .rw[a];exact I.wf l (aK hl)
   .exact I.wf x hx
 .intro x hx g;simp only[bP]at hx;rcases mem_set hx with rfl|hx
  .rw[c];exact S.p.var _
  .rcases mem_set hx with rfl|hx
   .rw[a];exact I.vn l (aK hl) (by rw[<-b];exact g)
   .exact I.vn x hx g
 .simp only[bP];omega
def Inv.Q0{n M:Nat}{S:Sg}{s:dS}(I:Inv n M S s):s.Ok n (M+10):=⟨by rw[I.len];omega,by have:=I.QZ;have:0<=(n+2)*ub s.sl:=zby _;omega,I.ok⟩
def Inv.aaQ{n M:Nat}{S:Sg}{s:dS}(I:Inv n M S s){i:Nat}{o x:Sl}(hx:x.ty.Ok):(fJ s i o x).Ok n (M+10):=⟨by rw[bP,zaN,I.len];omega,by rw[oG];have:=I.QZ;have:0<=(n+2)*ub s.sl:=zby _;omega,by
 intro y hy;rw[bP]at hy;rcases mem_set hy with rfl|hy
 .exact hx
 .exact I.ok y hy⟩
def c397{n M:Nat}{S:Sg}{s:dS}(I:Inv n M S s)(hn:n<=1000000)(H:M<=1100000000000){x y:Ty}{i j:Nat}(h:x.id=i)(g:y.id=j)(hi:i<n)(hj:j<n)(fi:¬pO s.sl (i:Int))(D:¬pO s.sl (j:Int))(A:(i:Int)∈S)(w:(j:Int)∈S):
   ∃s',(az AP).p 397 [s.pv,x.pv,y.pv]=some [s'.pv]/\Inv n M S s'/\(s'=s\/ub s'.sl<ub s.sl)/\Ext s.sl s'.sl:=by
 by_cases z:i=j
 .refine⟨s,?_,I,.inl rfl,.refl _⟩;have h2:x.id=y.id:=by rw[h,g,z]
  rw[aw g397];simp[g397,h2]
 .have k:¬(i:Int)=j:=(by omega);obtain⟨a,u⟩:=aQ (l:=s.sl) (i:=min i j) (by rw[I.len];omega);obtain⟨b,v⟩:=aQ (l:=s.sl) (i:=max i j) (by rw[I.len];omega);have t:min i j≠max i j:=by omega
  have fa:¬pO s.sl ((min i j:Nat):Int):=by
   by_cases q:i<=j
   .rw[zcw q];exact fi
   .rw[zc2 (by omega)];exact D
  have E:¬pO s.sl ((max i j:Nat):Int):=by
   by_cases q:i<=j
   .rw[zcr q];exact D
   .rw[zcx (by omega)];exact fi
  have C:((min i j:Nat):Int)∈S:=by
   by_cases q:i<=j
   .rw[zcw q];exact A
   .rw[zc2 (by omega)];exact w
  have d:(if j<i then(j:Int)else(i:Int))=((min i j:Nat):Int):=by split<;>omega
  have e:(if i<j then(j:Int)else(i:Int))=((max i j:Nat):Int):=by split<;>omega
  have m:min i j<s.sl.length:=(by rw[I.len];omega);have r:max i j<s.sl.length:=(by rw[I.len];omega);generalize min i j=p at*;generalize max i j=q at*;have k0:=c63 (n:=p);let f:Sl:=⟨a.bd,a.ty,if b.home<a.home then b.home else a.home,a.base || b.base⟩;let b':Sl:=⟨true,bO p,b.home,b.base⟩;have F:f.ty.Ok:=I.ok a (aK u);have k1:=c393 I.Q0 (by omega) (by omega) u f;have B:(fJ s p a f).sl[q]?=some b:=(by rw[bP,zaA,zai t,v]);have k2:=c393 (I.aaQ (i:=p) (o:=a) F) (by omega) (by omega) B b';obtain⟨J,hu,hx⟩:=PN I (l':=f) (h':=b') u v t fa E rfl rfl rfl rfl C;refine⟨fJ (fJ s p a f) q b b',?_,J,.inr hu,hx⟩;generalize fJ (fJ s p a f) q b b'=G at*;generalize fJ s p a f=s1 at*;simp[f,b',bO]at k0 k1 k2;rw[aw g397];cases c:a.base
  .simp[c]at k1;simp(disch:=omega)[-getElem?_pos,g397,h,g,k,d,e,u,v,m,r,k0,k1,k2,c]
  .simp[c]at k1;simp(disch:=omega)[-getElem?_pos,g397,h,g,k,d,e,u,v,m,r,k0,k1,k2,c]
def zS:List AV:=[.own [] 0,.own [] 1]
def sb(v:Sl):List AV:=[.pv (.bool v.bd),.pv (vI v.ty.kind),.pv (.str v.ty.name),.pv (vI v.ty.id),.pv (vI v.ty.home),.pv (.aq (v.ty.args.map Ty.pv)),.pv (vI v.home),.pv (.bool v.base)]
def PO(s:dS)(q:aF):Option (bh×St):=some (.ret,⟨[(6,.au 6 0),(7,.pv (vI 13))],[(6,sC s)],[],q⟩)
def Uu{s:dS}{i:Nat}{t:Ty}{v:Sl}{out:List Int}{r:List Ty}(hr:Sm r):∀(n k:Nat),r.length-k=n->k<=r.length->
   (∃q,cl AP g398L0 ⟨[(1,.pv (vI i)),(3,.au 3 0),(5,.au 5 0),(6,.au 6 0),(8,.au 8 0),(9,.pv (.aq (out.map vI))),(15,.pv (.aq (r.map Ty.pv))),(16,.pv (vI k))],[(3,sC s),(5,tC t),(6,zS),(8,sb v)],[],[0,0]⟩=PO s q)\/
   cl AP g398L0 ⟨[(1,.pv (vI i)),(3,.au 3 0),(5,.au 5 0),(6,.au 6 0),(8,.au 8 0),(9,.pv (.aq (out.map vI))),(15,.pv (.aq (r.map Ty.pv))),(16,.pv (vI k))],[(3,sC s),(5,tC t),(6,zS),(8,sb v)],[],[0,0]⟩=
     some (.exit 0,⟨[(1,.pv (vI i)),(3,.au 3 0),(5,.au 5 0),(6,.au 6 0),(8,.au 8 0),(9,.pv (.aq (out.map vI))),(15,.pv (.aq (r.map Ty.pv))),(16,.pv (vI r.length)),(57,.pv (.bool false))],[(3,sC s),(5,tC t),(6,zS),(8,sb v)],[],[0,0]⟩)
 |0,k,hn,a=>by
  have:k=r.length:=by omega
  subst this;refine .inr ?_;rw[g398L0e];simp[g398B0,sC,tC,zS,sb]
 |n+1,k,hn,a=>by
  have a:k<r.length:=(by omega);obtain⟨x,hx⟩:=aQ a;unfold Sm at hr;by_cases b:v.home<x.home
  .refine .inl ?_;rw[g398L0e];simp(disch:=omega)[-getElem?_pos,g398B0,sC,tC,zS,sb,PO,hx,a,b]
  .have c:=Uu (s:=s) (i:=i) (t:=t) (v:=v) (out:=out) hr n (k+1) (by omega) (by omega)
   have e1:cl AP g398L0 ⟨[(1,.pv (vI i)),(3,.au 3 0),(5,.au 5 0),(6,.au 6 0),(8,.au 8 0),(9,.pv (.aq (out.map vI))),(15,.pv (.aq (r.map Ty.pv))),(16,.pv (vI k))],[(3,sC s),(5,tC t),(6,zS),(8,sb v)],[],[0,0]⟩=cl AP g398L0 ⟨[(1,.pv (vI i)),(3,.au 3 0),(5,.au 5 0),(6,.au 6 0),(8,.au 8 0),(9,.pv (.aq (out.map vI))),(15,.pv (.aq (r.map Ty.pv))),(16,.pv (vI (k+1:Nat)))],[(3,sC s),(5,tC t),(6,zS),(8,sb v)],[],[0,0]⟩:=by
    conv=>lhs;rw[g398L0e]
    simp (disch:=omega) [-getElem?_pos,g398B0,sC,tC,zS,sb,hx,a,b,ae]
   rw[e1];exact c
def Uv{s:dS}{i:Nat}{t:Ty}{v:Sl}{out:List Int}(hr:Sm out):∀(n k:Nat),out.length-k=n->k<=out.length->
   (∃q,cl AP g398L1 ⟨[(1,.pv (vI i)),(3,.au 3 0),(5,.au 5 0),(6,.au 6 0),(8,.au 8 0),(9,.pv (.aq (out.map vI))),(17,.pv (vI k))],[(3,sC s),(5,tC t),(6,zS),(8,sb v)],[],[0,0]⟩=PO s q)\/
   cl AP g398L1 ⟨[(1,.pv (vI i)),(3,.au 3 0),(5,.au 5 0),(6,.au 6 0),(8,.au 8 0),(9,.pv (.aq (out.map vI))),(17,.pv (vI k))],[(3,sC s),(5,tC t),(6,zS),(8,sb v)],[],[0,0]⟩=
     some (.exit 2,⟨[(1,.pv (vI i)),(3,.au 3 0),(5,.au 5 0),(6,.au 6 0),(8,.au 8 0),(9,.pv (.aq (out.map vI))),(17,.pv (vI out.length)),(72,.pv (.bool false))],[(3,sC s),(5,tC t),(6,zS),(8,sb v)],[],[0,0]⟩)
 |0,k,hn,a=>by
  have:k=out.length:=by omega
  subst this;refine .inr ?_;rw[g398L1e];simp[g398B1,sC,tC,zS,sb]
 |n+1,k,hn,a=>by
  have a:k<out.length:=(by omega);obtain⟨x,hx⟩:=aQ a;unfold Sm at hr;by_cases b:(s.sl.length:Int)<=x/\v.home<0
  .obtain⟨g1,g2⟩:=b;refine .inl ?_;rw[g398L1e];simp(disch:=omega)[-getElem?_pos,g398B1,sC,tC,zS,sb,PO,hx,a,g1,g2]
  .have c:=Uv (s:=s) (i:=i) (t:=t) (v:=v) (out:=out) hr n (k+1) (by omega) (by omega)
   have e1:cl AP g398L1 ⟨[(1,.pv (vI i)),(3,.au 3 0),(5,.au 5 0),(6,.au 6 0),(8,.au 8 0),(9,.pv (.aq (out.map vI))),(17,.pv (vI k))],[(3,sC s),(5,tC t),(6,zS),(8,sb v)],[],[0,0]⟩=cl AP g398L1 ⟨[(1,.pv (vI i)),(3,.au 3 0),(5,.au 5 0),(6,.au 6 0),(8,.au 8 0),(9,.pv (.aq (out.map vI))),(17,.pv (vI (k+1:Nat)))],[(3,sC s),(5,tC t),(6,zS),(8,sb v)],[],[0,0]⟩:=by
    conv=>lhs;rw[g398L1e]
    by_cases g1:(s.sl.length:Int)<=x
    .have g2:¬v.home<0:=fun h=>b ⟨g1,h⟩;simp(disch:=omega)[-getElem?_pos,g398B1,sC,tC,zS,sb,hx,a,g1,g2,ae]
    .simp(disch:=omega)[-getElem?_pos,g398B1,sC,tC,zS,sb,hx,a,g1,ae]
   rw[e1];exact c
structure Kp(s s':dS)(c:Nat):Prop where
 len:s'.sl.length=s.sl.length
 tr:s'.tr.length<=s.tr.length+c
 Eb:∀(k:Nat) o',s'.sl[k]?=some o'->∃o,s.sl[k]?=some o/\o'.bd=o.bd/\o'.ty=o.ty
 ub:ub s'.sl=ub s.sl
def Kp.Hu{s s':dS}{c:Nat}(h:Kp s s' c){i v:Int}(e:Edge s'.sl i v):Edge s.sl i v:=by
 obtain⟨k,x,rfl,hx,d,a⟩:=e;obtain⟨o,b,h1,h2⟩:=h.Eb k x hx;exact⟨k,o,rfl,b,by rw[<-h1];exact d,by rw[<-h2];exact a⟩
def Kp.set{s s':dS}{c:Nat}(h:Kp s s' c){k:Nat}{o x:Sl}(a:s'.sl[k]?=some o)(b:x.bd=o.bd)(ht:x.ty=o.ty):Kp s (fJ s' k o x) (c+1) where
 len:=by rw[bP,zaN,h.len]
 tr:=by rw[oG];have:=h.tr;omega
 Eb:=by
  intro j o' hj;rw[bP,zaA]at hj;by_cases e:k=j
  .subst e;have hl:k<s'.sl.length:=by obtain⟨h,_⟩:=zaa.1 a;exact h
   rw[zan rfl,zan hl]at hj;cases hj;obtain⟨p,h1,h2,h3⟩:=h.Eb k o a;exact⟨p,h1,by rw[b,h2],by rw[ht,h3]⟩
  .rw[zai e]at hj;exact h.Eb j o' hj
 ub:=by rw[bP,um a b,h.ub]
def Kp.ext{s s':dS}{c:Nat}(h:Kp s s' c):Ext s.sl s'.sl:=⟨by rw[h.len];omega,fun k x hx a=>by
 have hl:k<s'.sl.length:=by rw[h.len];exact(zaa.1 hx).1
 obtain⟨y,hy⟩:=aQ hl;obtain⟨o,h1,h2,h3⟩:=h.Eb k y hy;rw[hx]at h1;cases h1;exact⟨y,hy,by rw[h2,a],h3⟩⟩
def Kp.refl{s:dS}:Kp s s 0:=⟨rfl,by omega,fun k o h=>⟨o,h,rfl,rfl⟩,rfl⟩
def Kp.iy{s s':dS}{c d:Nat}(h:Kp s s' c)(hd:c<=d):Kp s s' d:=⟨h.len,by have:=h.tr;omega,h.Eb,h.ub⟩
def pP(n:Nat)(l:List Int):Nat:=(l.filter fun w:Int=>decide (w<(n:Int))).length
def IK{n:Nat}{l:List Int}(hd:l.Nodup)(h0:∀w∈l,0<=w):pP n l<=n:=by
 have h1:(l.filter fun w=>decide (w<(n:Int))).Nodup:=hd.filter _
 have h2:∀x∈(l.filter fun w=>decide (w<(n:Int))),x∈(List.range n).map (fun k:Nat=>(k:Int)):=by
  intro x hx;simp at hx;simp;exact⟨x.toNat,by have:=h0 x hx.1;omega,by have:=h0 x hx.1;omega⟩
 have:=gZ h1 h2;simpa[pP]using this
def Kp.Q0{n M:Nat}{S:Sg}{s s':dS}{c:Nat}(I:Inv n M S s)(h:Kp s s' c)(hc:c<=n):s'.Ok n (M+n+10):=⟨by rw[h.len,I.len];omega,by have:=h.tr;have:=I.QZ;have:0<=(n+2)*Lw.ub s.sl:=zby _;omega,by
 intro x hx;obtain⟨k,b⟩:=zca.1 hx;obtain⟨o,a,_,e⟩:=h.Eb k x b;rw[e];exact I.ok o (aK a)⟩
def IL{N M:Nat}{S:Sg}{s:dS}(I:Inv N M S s)(hN:N<=1000000)(p:M<=1100000000000){i:Nat}{t:Ty}{v:Sl}{out:List Int}(hr:Sm out)(hd:out.Nodup)(h0:∀w∈out,0<=w):∀(n k:Nat),out.length-k=n->k<=out.length->∀s':dS,Kp s s' (pP N (out.take k))->∃d,Kp s d (pP N out)/\
   cl AP g398L2 ⟨[(1,.pv (vI i)),(3,.au 3 0),(5,.au 5 0),(6,.au 6 0),(8,.au 8 0),(9,.pv (.aq (out.map vI))),(18,.pv (vI k))],[(3,sC s'),(5,tC t),(6,zS),(8,sb v)],[],[0,0]⟩=
     some (.exit 4,⟨[(1,.pv (vI i)),(3,.au 3 0),(5,.au 5 0),(6,.au 6 0),(8,.au 8 0),(9,.pv (.aq (out.map vI))),(18,.pv (vI out.length)),(92,.pv (.bool false))],[(3,sC d),(5,tC t),(6,zS),(8,sb v)],[],[0,0]⟩)
 |0,k,hn,f,s',hK=>by
  have:k=out.length:=by omega
  subst this;refine⟨s',by simpa using hK,?_⟩;rw[g398L2e];simp[g398B2,sC,tC,zS,sb]
 |n+1,k,hn,f,s',hK=>by
  have f:k<out.length:=(by omega);obtain⟨x,hx⟩:=aQ f;have u:=h0 x (aK hx);have hl:=hK.len;rw[I.len]at hl;have g:out.take (k+1)=out.take k++[x]:=(by rw[zaU,hx];rfl);have h:pP N (out.take k)<=N:=IK (hd.sublist (List.take_sublist _ _)) (fun w hw=>h0 w (zbd hw));have hs:=hr;unfold Sm at hr;by_cases r:x<(N:Int)
  .obtain⟨j,rfl⟩:∃j:Nat,x=j:=⟨x.toNat,by omega⟩;have hj:j<s'.sl.length:=by omega
   obtain⟨o,l⟩:=aQ hj
   have b:pP N (out.take (k+1))=pP N (out.take k)+1:=by
    rw[g];simp[pP,r]
   by_cases q:v.home<o.home
   .have c:=c393 (hK.Q0 I h) hN (by omega) l ⟨o.bd,o.ty,v.home,o.base⟩;have a:=hK.set (x:=⟨o.bd,o.ty,v.home,o.base⟩) l rfl rfl;rw[<-b]at a;obtain⟨d,h2,e⟩:=IL (i:=i) (t:=t) (v:=v) I hN p hs hd h0 n (k+1) (by omega) (by omega) _ a;refine⟨d,h2,?_⟩;generalize fJ s' j o ⟨o.bd,o.ty,v.home,o.base⟩=s1 at*;rw[g398L2e]at e⊢;simp[sC,tC,zS,sb]at e;simp at c;simp(disch:=omega)[-getElem?_pos,g398B2,sC,tC,zS,sb,hx,f,hj,l,q,c,ae];rw[g398L2e];simp[e]
   .have a:Kp s s' (pP N (out.take (k+1))):=hK.iy (by omega);obtain⟨d,h2,e⟩:=IL (i:=i) (t:=t) (v:=v) I hN p hs hd h0 n (k+1) (by omega) (by omega) s' a;refine⟨d,h2,?_⟩;rw[g398L2e]at e⊢;simp[sC,tC,zS,sb]at e;simp(disch:=omega)[-getElem?_pos,g398B2,sC,tC,zS,sb,hx,f,hj,l,q,ae];rw[g398L2e];simp[e]
  .have b:pP N (out.take (k+1))=pP N (out.take k):=by
    rw[g];simp[pP,r]
   have a:Kp s s' (pP N (out.take (k+1))):=(by rw[b];exact hK);obtain⟨d,h2,e⟩:=IL (i:=i) (t:=t) (v:=v) I hN p hs hd h0 n (k+1) (by omega) (by omega) s' a;refine⟨d,h2,?_⟩;have m:¬x<(s'.sl.length:Int):=(by omega);rw[g398L2e]at e⊢;simp[sC,tC,zS,sb]at e;simp(disch:=omega)[-getElem?_pos,g398B2,sC,tC,zS,sb,hx,f,m,ae];rw[g398L2e];simp[e]
def UR(n M:Nat)(S:Sg)(s s':dS)(P:(Int->Nat)->Nat->Prop)(e:Int):Prop:=e=0->Inv n M S s'/\(s'=s\/ub s'.sl<ub s.sl)/\Ext s.sl s'.sl/\∀ht D,P ht D->Ht ht D s.sl->Ht ht D s'.sl
def DA{n M:Nat}{S:Sg}{s f:dS}(I:Inv n M S s){i:Nat}{v:Sl}{t:Ty}(hv:s.sl[i]?=some v)(fi:¬pO s.sl (i:Int)){c:Nat}(hK:Kp s f c)(hc:c<=n){o:Sl}(u:f.sl[i]?=some o)(ht:t.Ok)(q:t.Kw)(r:S.p.v t)(hw:∀w,gI t w->w∈S)(z:¬RT s.sl t i){x:Sl}(A:x.bd=true)(hx:x.ty=t):
   Inv n M S (fJ f i o x)/\ub (fJ f i o x).sl<ub s.sl/\Ext s.sl (fJ f i o x).sl/\∀ht D,t.pd ht<=ht (i:Int)->Ht ht D s.sl->Ht ht D (fJ f i o x).sl:=by
 have j:o.bd=false:=by
  obtain⟨o2,h1,h2,_⟩:=hK.Eb i o u;rw[hv]at h1;cases h1;rw[h2];exact oH hv fi
 have B:=AE u j A;have hu:=hK.ub;have hp:=I.QZ;have hl:=I.len;refine⟨⟨by rw[bP,zaN,hK.len,I.len],?_,?_,?_,?_,?_,?_⟩,?_,hK.ext.trans (Ext.set u (.inl j)),?_⟩
 .rw[oG,bP];have:(n+2)*ub s.sl=(n+2)*ub (f.sl.set i x)+(n+2):=by rw[<-hu,<-B,zcM,Nat.mul_one]
  have:=hK.tr;omega
 .intro y hy;rw[bP]at hy;rcases mem_set hy with rfl|hy
  .rw[hx];exact ht
  .obtain⟨k,g⟩:=zca.1 hy;obtain⟨p,h1,_,h3⟩:=hK.Eb k y g;rw[h3];exact I.ok p (aK h1)
 .intro y hy w d;rw[bP]at hy;rcases mem_set hy with rfl|hy
  .rw[hx]at d;exact hw w d
  .obtain⟨k,g⟩:=zca.1 hy;obtain⟨p,h1,_,h3⟩:=hK.Eb k y g;rw[h3]at d;exact I.nO p (aK h1) w d
 .rw[bP];refine Dy (I.Ea.of fun a b=>hK.Hu) ?_;intro w l hr;rw[hx]at l;refine z ⟨w,l,?_⟩
  have key:∀{a b:Int},IJ f.sl a b->IJ s.sl a b:=by
   intro a b h;induction h with
   |refl=>exact .refl _
   |step e _ C=>exact .step (hK.Hu e) C
  exact key hr
 .intro y hy;rw[bP]at hy;rcases mem_set hy with rfl|hy
  .rw[hx];exact q
  .obtain⟨k,g⟩:=zca.1 hy;obtain⟨p,h1,_,h3⟩:=hK.Eb k y g;rw[h3];exact I.wf p (aK h1)
 .intro y hy m;rw[bP]at hy;rcases mem_set hy with rfl|hy
  .rw[hx];exact r
  .obtain⟨k,g⟩:=zca.1 hy;obtain⟨p,h1,h2,h3⟩:=hK.Eb k y g;rw[h3];exact I.vn p (aK h1) (by rw[<-h2];exact m)
 .rw[bP];omega
 .intro ht D hp h;rw[bP];refine(h.aW fun k y hy=>?_).bind A (by rw[hx];exact hp);obtain⟨p,h1,h2,h3⟩:=hK.Eb k y hy;exact⟨p,h1,h2,h3⟩
def c398{n M:Nat}{S:Sg}{s:dS}(I:Inv n M S s)(hn:n<=1000000)(Q:M<=1100000000000)(hf:S.ids.length<1099511627776)(K:∀w∈S,0<=w){i:Nat}(hi:i<n)(fi:¬pO s.sl (i:Int)){t:Ty}(ht:t.Ok)(z:t.Kw)(D:S.p.v t)(hw:∀w,gI t w->w∈S):
   ∃s' e,(az AP).p 398 [s.pv,vI i,t.pv]=some [s'.pv,vI e]/\UR n M S s s' (fun ht _=>t.pd ht<=ht (i:Int)) e:=by
 have hl:=I.len;have c:i<s.sl.length:=by omega
 obtain⟨v,hv⟩:=aQ c;obtain⟨out,k1,hc,j⟩:=c372 (S:=S.ids) (by omega) I.Ea I.ok I.nO hf (l:=[t]) (by simp[Sm]) (by simpa using ht) (by intro y hy;simp at hy;subst hy;exact hw);have f:=hc.len;have k2:=c95 f (y:=(i:Int));obtain⟨a,b,ar,k3,_⟩:=c194g ht;have F:Sm s.sl:=by unfold Sm;omega
 obtain⟨u,R,k4,hu,E⟩:=c358 F I.ok ht;obtain⟨r,k5,hr⟩:=c59t hu E;have A:=Uu (s:=s) (i:=i) (t:=t) (v:=v) (out:=out) hr _ 0 rfl (by omega);have B:=Uv (s:=s) (i:=i) (t:=t) (v:=v) (out:=out) f _ 0 rfl (by omega);have h0:∀w∈out,0<=w:=fun w hw=>K w (hc.sub w hw)
 obtain⟨L,hK,C⟩:=IL (i:=i) (t:=t) (v:=v) I hn Q f hc.nodup h0 _ 0 rfl (by omega) s (by simpa[pP]using Kp.refl);have g:pP n out<=n:=IK hc.nodup h0;have H:i<L.sl.length:=by rw[hK.len];exact c
 obtain⟨o,N⟩:=aQ H;let x:Sl:=⟨true,t,v.home,v.base⟩;have k6:=c393 (hK.Q0 I g) hn (by omega) N x;by_cases m:(i:Int)∈out
 .rw[za2 m]at k2;refine⟨s,12,?_,by intro h;cases h⟩;rw[aw g398];simp at k1;simp(disch:=omega)[-getElem?_pos,g398,c,hv,k1,k2]
 .rw[zaY m]at k2;have G:¬RT s.sl t i:=fun h=>m ((j i).2 ⟨t,by simp,h,fi⟩)
  have J:=DA I (x:=x) hv fi hK g N ht z D hw G rfl rfl;generalize fJ L i o x=O at*;simp[x]at k6;simp at k1 k3 k4 k5;rw[g398L0e]at A;rw[g398L1e]at B;rw[g398L2e]at C;simp[sC,tC,zS,sb,PO]at A B C;by_cases k:ar=true/\v.base=true
  .obtain⟨P,d⟩:=k;refine⟨s,14,?_,by intro h;cases h⟩;rw[aw g398];simp(disch:=omega)[-getElem?_pos,g398,c,hv,k1,k2,k3,P,d]
  .rcases A with⟨q,A⟩|A
   .refine⟨s,13,?_,by intro h;cases h⟩;rw[aw g398];cases ar with
    |true=>
     have d:v.base=false:=by cases e:v.base with|false=>rfl|true=>exact absurd ⟨rfl,e⟩ k
     simp[d]at A;simp(disch:=omega)[-getElem?_pos,g398,c,hv,k1,k2,k3,k4,k5,d,g398L0e,A]
    |false=>simp(disch:=omega)[-getElem?_pos,g398,c,hv,k1,k2,k3,k4,k5,g398L0e,A]
   .rcases B with⟨q,B⟩|B
    .refine⟨s,13,?_,by intro h;cases h⟩;rw[aw g398];cases ar with
     |true=>
      have d:v.base=false:=by cases e:v.base with|false=>rfl|true=>exact absurd ⟨rfl,e⟩ k
      simp[d]at A B;simp(disch:=omega)[-getElem?_pos,g398,c,hv,k1,k2,k3,k4,k5,d,g398L0e,A,g398L1e,B]
     |false=>simp(disch:=omega)[-getElem?_pos,g398,c,hv,k1,k2,k3,k4,k5,g398L0e,A,g398L1e,B]
    .refine⟨O,0,?_,fun _=>⟨J.1,.inr J.2.1,J.2.2.1,J.2.2.2⟩⟩;rw[aw g398];cases ar with
     |true=>
      have d:v.base=false:=by cases e:v.base with|false=>rfl|true=>exact absurd ⟨rfl,e⟩ k
      simp[d]at A B C k6;simp(disch:=omega)[-getElem?_pos,g398,c,hv,k1,k2,k3,k4,k5,d,g398L0e,A,g398L1e,B,g398L2e,C,k6]
     |false=>simp(disch:=omega)[-getElem?_pos,g398,c,hv,k1,k2,k3,k4,k5,g398L0e,A,g398L1e,B,g398L2e,C,k6]
def DB{s:List Sl}{d:Int->Nat}(hr:∀i v,Edge s i v->d v<d i):∀(m:Nat)(t:Ty),d7 s (wk s m t)≠none->∃(i:Nat)(l:List Nat),t.kind=1/\t.id=i/\l.length=m/\(i::l).Pairwise (fun a b:Nat=>d (b:Int)<d (a:Int))/\∀a∈i::l,a<s.length
 |0,t,h=>by
  cases c:d7 s t with
  |none=>exact absurd c h
  |some x=>
   obtain⟨k,i,hi,hx,_⟩:=eD c;have hl:i<s.length:=by obtain⟨h,_⟩:=zaa.1 hx;exact h
   exact⟨i,[],k,hi,rfl,by simp,by simpa using hl⟩
 |m+1,t,h=>by
  cases c:d7 s t with
  |none=>
   have:wk s (m+1) t=t:=by simp[wk,c]
   rw[this]at h;exact absurd c h
  |some x=>
   obtain⟨k,i,hi,hx,g⟩:=eD c;have hl:i<s.length:=by obtain⟨h,_⟩:=zaa.1 hx;exact h
   have e:wk s (m+1) t=wk s m x.ty:=(by simp[wk,c]);rw[e]at h;obtain⟨j,l,k2,hj,hn,hp,n⟩:=DB hr m x.ty h;have o:Edge s (i:Int) (j:Int):=⟨i,x,rfl,hx,g,by rw[<-hj];exact .var k2⟩;have f:=hr _ _ o;refine⟨i,j::l,k,hi,by simp[hn],?_,?_⟩
   .rw[List.pairwise_cons];refine⟨?_,hp⟩;intro b c;simp only[zau]at c;rcases c with rfl|c
    .exact f
    .have:=(List.pairwise_cons.1 hp).1 b c;omega
   .intro a hm;simp only[zau]at hm;rcases hm with rfl|hm
    .exact hl
    .exact n a (by simpa using hm)
theorem qQ{s:List Sl}(h:Hs s){t:Ty}:d7 s (eT s t)=none:=by
 obtain⟨f,hr⟩:=h;cases c:d7 s (eT s t)with
 |none=>rfl
 |some x=>
  exfalso;obtain⟨i,l,_,_,hl,hp,d⟩:=DB hr (s.length+1) t (by unfold eT at c;rw[c];simp);have hd:(i::l).Nodup:=hp.imp (fun{a b} h e=>by rw[e]at h;omega);have:=gZ hd (S:=List.range s.length) (fun a h=>by simpa using d a h);simp at this;omega
def mH{s:List Sl}{S:List Int}(hs:∀x∈s,∀w,gI x.ty w->w∈S):∀{m:Nat}{t:Ty},(∀w,gI t w->w∈S)->∀w,gI (wk s m t) w->w∈S
 |0,t,h=>h
 |m+1,t,h=>by
  unfold wk;split
  .rename_i x hx;obtain⟨_,i,_,hi,_⟩:=eD hx;exact mH hs (hs x (aK hi))
  .exact h
def ZE{n M:Nat}{S:Sg}{s:dS}{x y:Ty}(hx:x.Ok)(k:x.args.length=y.args.length)
   (H:∀s',Inv n M S s'->(s'=s\/ub s'.sl<ub s.sl)->∀(i:Nat) a b,x.args[i]?=some a->y.args[i]?=some b->∃d e,(az AP).p 391 [s'.pv,a.pv,b.pv]=some [d.pv,vI e]/\UR n M S s' d (fun _ D=>yx D b) e):
   ∀(m i:Nat),x.args.length-i=m->i<=x.args.length->∀(s':dS)(e:Int),UR n M S s s' (fun _ D=>yx D y) e->∃(d:dS)(e2:Int)(i2:Nat),
   cl AP g391L0 ⟨[(3,.au 3 0),(6,.au 6 0),(8,.au 8 0),(9,.au 9 0),(10,.pv (vI e)),(11,.pv (vI i))],[(3,sC s'),(6,zS),(8,tC x),(9,tC y)],[],[0,0]⟩=
     some (.exit 1,⟨[(3,.au 3 0),(6,.au 6 0),(8,.au 8 0),(9,.au 9 0),(10,.pv (vI e2)),(11,.pv (vI i2)),(109,.pv (.bool false))],[(3,sC d),(6,zS),(8,tC x),(9,tC y)],[],[0,0]⟩)/\UR n M S s d (fun _ D=>yx D y) e2
 |0,i,hm,hi,s',e,h=>by
  have:i=x.args.length:=by omega
  subst this;refine⟨s',e,x.args.length,?_,h⟩;rw[g391L0e];simp[g391B0,sC,tC,zS]
 |m+1,i,hm,hi,s',e,h=>by
  have hi:i<x.args.length:=(by omega);obtain⟨a,v⟩:=aQ hi;have f:i<y.args.length:=(by omega);obtain⟨b,u⟩:=aQ f;have r:=hx.sm;unfold Sm at r;by_cases t:e=0
  .obtain⟨I,hu,o,l⟩:=h t;obtain⟨s1,e1,c,h1⟩:=H s' I hu i a b v u
   have h2:UR n M S s s1 (fun _ D=>yx D y) e1:=fun q=>by
    obtain⟨J,j,z,w⟩:=h1 q;refine⟨J,?_,o.trans z,fun ht D g H=>w ht D (g.c b (aK u)) (l ht D g H)⟩;rcases j with rfl|j
    .exact hu
    .rcases hu with rfl|hu
     .exact .inr j
     .exact .inr (by omega)
   obtain⟨d,e2,i2,eq,h3⟩:=ZE hx k H m (i+1) (by omega) (by omega) s1 e1 h2;refine⟨d,e2,i2,?_,h3⟩;rw[g391L0e]at eq⊢;simp[sC,tC,zS]at eq;simp at c;simp(disch:=omega)[-getElem?_pos,g391B0,sC,tC,zS,hi,f,v,u,t,c,ae];rw[g391L0e];simp[eq]
  .refine⟨s',e,i,?_,h⟩;rw[g391L0e];simp(disch:=omega)[-getElem?_pos,g391B0,sC,tC,zS,hi,t]
def pQ{s:List Sl}{t:Ty}(h:o7 s t=true):t.kind=1/\∃i:Nat,t.id=i/\i<s.length:=by
 simp[o7]at h;exact⟨h.1,t.id.toNat,by omega,by omega⟩
def qR{s:List Sl}(hs:∀x∈s,x.ty.Kw):∀{m:Nat}{t:Ty},t.Kw->(wk s m t).Kw
 |0,t,h=>h
 |m+1,t,h=>by
  unfold wk;split
  .rename_i x hx;obtain⟨_,i,_,hi,_⟩:=eD hx;exact qR hs (hs x (aK hi))
  .exact h
def qS{p:Vp}{s:List Sl}(hs:∀x∈s,x.bd=true->p.v x.ty):∀{m:Nat}{t:Ty},p.v t->p.v (wk s m t)
 |0,t,h=>h
 |m+1,t,h=>by
  unfold wk;split
  .rename_i x hx;obtain⟨_,i,_,hi,a⟩:=eD hx;exact qS hs (hs x (aK hi) a)
  .exact h
def SI{s:List Sl}{t:Ty}(h:¬t.kind=1):eT s t=t:=by
 unfold eT wk d7;simp[h]
def ZF{n M:Nat}{S:Sg}{s:dS}(I:Inv n M S s)(hn:n<=1000000)(L:M<=1100000000000)(hf:S.ids.length<1099511627776)(F:∀w∈S,0<=w){a b:Ty}(ha:a.Ok)(V:b.Ok)(wa:a.Kw)(wb:b.Kw)(va:S.p.v a)(vb:S.p.v b)(oa:∀w,gI a w->w∈S)(ob:∀w,gI b w->w∈S){r1:Nat}(k1:(az AP).p 355 [s.pv,a.pv,vI (200:Nat)]=some [vI r1])
   (H:r1<=200->∀s',Inv n M S s'->(s'=s\/ub s'.sl<ub s.sl)->∀(i:Nat) x y,(eT s.sl a).args[i]?=some x->(eT s.sl b).args[i]?=some y->∃G e,(az AP).p 391 [s'.pv,x.pv,y.pv]=some [G.pv,vI e]/\UR n M S s' G (fun _ D=>yx D y) e):
   ∃s' e,(az AP).p 391 [s.pv,a.pv,b.pv]=some [s'.pv,vI e]/\UR n M S s s' (fun _ D=>yx D b) e:=by
 have hl:=I.len;have A:Sm s.sl:=by unfold Sm;omega
 obtain⟨r2,k2,_,_,_⟩:=c355 A I.ok (m:=200) (by omega) V;have k3:=c386 A (t:=a);have k4:=c386 A (t:=b);have xf:=qQ I.Ea (t:=a);have P:=qQ I.Ea (t:=b);have T:(eT s.sl a).Ok:=o5 I.ok ha;have Y:(eT s.sl b).Ok:=o5 I.ok V;have Q:∀w,gI (eT s.sl a) w->w∈S:=mH (S:=S.ids) I.nO oa;have O:∀w,gI (eT s.sl b) w->w∈S:=mH (S:=S.ids) I.nO ob
 change (az AP).p 386 [s.pv,a.pv]=some [(eT s.sl a).pv]at k3
 change (az AP).p 386 [s.pv,b.pv]=some [(eT s.sl b).pv]at k4
 have Z:(eT s.sl a).Kw:=qR I.wf wa;have W:(eT s.sl b).Kw:=qR I.wf wb;have xv:S.p.v (eT s.sl a):=qS I.vn va;have X:S.p.v (eT s.sl b):=qS I.vn vb;have l:∀D,yx D b->eT s.sl b=b:=fun D g=>SI fun q=>g.1.h q
 generalize eT s.sl a=x at*;generalize eT s.sl b=y at*;have k5:=c396 (s:=s) (t:=x);have k6:=c396 (s:=s) (t:=y);simp at k1 k2 k3 k4;by_cases h1:200<r1
 .refine⟨s,15,?_,by intro h;cases h⟩;have d:(200:Int)<r1:=by omega
  rw[aw g391];simp[g391,k1,d]
 .have d:¬(200:Int)<r1:=(by omega);have H:=H (by omega);by_cases h2:200<r2
  .refine⟨s,15,?_,by intro h;cases h⟩;have f:(200:Int)<r2:=by omega
   rw[aw g391];simp[g391,k1,k2,d,f]
  .have f:¬(200:Int)<r2:=(by omega);cases sx:o7 s.sl x with
   |true=>
    obtain⟨R,i,E,hi⟩:=pQ sx;have fi:¬pO s.sl (i:Int):=by rw[<-E];exact ky R xf
    rw[sx]at k5;cases u:o7 s.sl y with
    |true=>
     obtain⟨B,j,r,hj⟩:=pQ u;have N:¬pO s.sl (j:Int):=by rw[<-r];exact ky B P
     rw[u]at k6;obtain⟨s',c,J⟩:=c397 I hn L E r (by omega) (by omega) fi N (by rw[<-E];exact Q _ (.var R)) (by rw[<-r];exact O _ (.var B));refine⟨s',0,?_,fun _=>⟨J.1,J.2.1,J.2.2,fun ht D g=>absurd B (by rw[l D g];exact g.1.h)⟩⟩;simp at k5 k6 c;rw[aw g391];simp[g391,k1,k2,k3,k4,k5,k6,d,f,c]
    |false=>
     rw[u]at k6;obtain⟨s',e,c,J⟩:=c398 I hn L hf F (by omega) fi Y W X O;refine⟨s',e,?_,fun q=>⟨(J q).1,(J q).2.1,(J q).2.2.1,fun ht D g H=>(J q).2.2.2 ht D ?_ H⟩⟩
     rotate_left
     .have h1:=g.2 ht;rw[l D g];obtain⟨v,hv⟩:=aQ hi;have h2:=H i v hv;rw[oH hv fi]at h2;simp at h2;omega
     simp[E]at k3 k5 k6 c;rw[aw g391];simp[g391,k1,k2,k3,k4,k5,k6,d,f,E,c]
   |false=>
    rw[sx]at k5;cases u:o7 s.sl y with
    |true=>
     obtain⟨B,j,r,hj⟩:=pQ u;have N:¬pO s.sl (j:Int):=by rw[<-r];exact ky B P
     rw[u]at k6;obtain⟨s',e,c,J⟩:=c398 I hn L hf F (by omega) N T Z xv Q;refine⟨s',e,?_,fun q=>⟨(J q).1,(J q).2.1,(J q).2.2.1,fun ht D g=>absurd B (by rw[l D g];exact g.1.h)⟩⟩;simp[r]at k4 k5 k6 c;rw[aw g391];simp[g391,k1,k2,k3,k4,k5,k6,d,f,r,c]
    |false=>
     rw[u]at k6;simp at k5 k6;by_cases q:x.kind=y.kind/\x.name=y.name/\x.id=y.id/\x.home=y.home/\x.args.length=y.args.length
     .obtain⟨k,o,z,C,K⟩:=q;obtain⟨G,e2,i2,eq,U⟩:=ZE T K H _ 0 rfl (by omega) s 0 (fun _=>⟨I,.inl rfl,.refl _,fun _ _ _ h=>h⟩);refine⟨G,e2,?_,fun q=>⟨(U q).1,(U q).2.1,(U q).2.2.1,fun ht D g=>(U q).2.2.2 ht D (by rw[l D g];exact g)⟩⟩;rw[g391L0e]at eq;simp[sC,tC,zS]at eq;rw[aw g391];simp[g391,k1,k2,k3,k4,k5,k6,d,f];simp only[k,o,z,C,K]at*;simp[g391L0e,eq]
     .refine⟨s,11,?_,by intro h;cases h⟩;rw[aw g391];by_cases k:x.kind=y.kind
      .have p1:=eq_true k;by_cases o:x.name=y.name
       .have p2:=eq_true o;by_cases z:x.id=y.id
        .have p3:=eq_true z;by_cases C:x.home=y.home
         .have p4:=eq_true C;have K:¬x.args.length=y.args.length:=fun e=>q ⟨k,o,z,C,e⟩
          have q6:¬(x.args.length:Int)=y.args.length:=(by omega);clear q k o z C;simp[g391,k1,k2,k3,k4,k5,k6,d,f,p1,p2,p3,p4,K,q6]
         .clear q k o z;simp[g391,k1,k2,k3,k4,k5,k6,d,f,p1,p2,p3,C]
        .clear q k o;simp[g391,k1,k2,k3,k4,k5,k6,d,f,p1,p2,z]
       .clear q k;simp[g391,k1,k2,k3,k4,k5,k6,d,f,p1,o]
      .simp[g391,k1,k2,k3,k4,k5,k6,d,f,k]
def uo{S:Sg}{t:Ty}(hw:t.Kw)(h:∀w,gI t w->w∈S):∀z∈t.args,∀w,gI z w->w∈S:=by
 intro z hz w a;by_cases k:t.kind=1
 .rw[hw.var k]at hz;cases hz
 .exact h w (.arg k hz a)
def WK(n M:Nat)(S:Sg)(s:dS):Prop:=∀a b:Ty,a.Ok->b.Ok->a.Kw->b.Kw->S.p.v a->S.p.v b->(∀w,gI a w->w∈S)->(∀w,gI b w->w∈S)->∃c e,(az AP).p 391 [s.pv,a.pv,b.pv]=some [c.pv,vI e]/\UR n M S s c (fun _ D=>yx D b) e
def c391r{n M:Nat}{S:Sg}{s:dS}(I:Inv n M S s)(hn:n<=1000000)(L:M<=1100000000000)(hf:S.ids.length<1099511627776)(k:∀w∈S,0<=w)
   (N:∀s':dS,ub s'.sl<ub s.sl->Inv n M S s'->WK n M S s') (r:Nat):
   ∀a b:Ty,Tr s.sl a r->a.Ok->b.Ok->a.Kw->b.Kw->S.p.v a->S.p.v b->(∀w,gI a w->w∈S)->(∀w,gI b w->w∈S)->∃F e,(az AP).p 391 [s.pv,a.pv,b.pv]=some [F.pv,vI e]/\UR n M S s F (fun _ D=>yx D b) e:=by
 induction r using Nat.strongRecOn with
 |ind r K=>
  intro a b ht j J B wb E C H G;have hl:=I.len;have g:Sm s.sl:=by unfold Sm;omega
  obtain⟨r1,k1,_,_,_⟩:=c355 g I.ok (m:=200) (by omega) j;obtain⟨ns,hT,hr⟩:=ht.inv;have A:(eT s.sl a).Ok:=o5 I.ok j;have t:(eT s.sl b).Ok:=o5 I.ok J;have f:(eT s.sl a).Kw:=qR I.wf B;have d:(eT s.sl b).Kw:=qR I.wf wb;have u:=S.p.d6 _ (qS (m:=s.sl.length+1) I.vn E:S.p.v (eT s.sl a));have o:=S.p.d6 _ (qS (m:=s.sl.length+1) I.vn C:S.p.v (eT s.sl b));have z:=uo f (mH (S:=S.ids) I.nO H:∀w,gI (eT s.sl a) w->w∈S);have q:=uo d (mH (S:=S.ids) I.nO G:∀w,gI (eT s.sl b) w->w∈S);refine ZF I hn L hf k j J B wb E C H G k1 ?_;intro _ s' O hu i x y hx hy;have hi:i<(eT s.sl a).args.length:=by obtain⟨h,_⟩:=zaa.1 hx;exact h
  have mx:=aK hx;have c:=aK hy;rcases hu with rfl|hu
  .obtain⟨m,hm⟩:=aQ (l:=ns) (i:=i) (by rw[hT.1];exact hi);have:=AD hm;exact K m (by omega) x y (hT.2 i x m hx hm) (A.d6 x mx) (t.d6 y c) (f.d6 x mx) (d.d6 y c) (u x mx) (o y c) (z x mx) (q y c)
  .exact N s' hu O x y (A.d6 x mx) (t.d6 y c) (f.d6 x mx) (d.d6 y c) (u x mx) (o y c) (z x mx) (q y c)
def c391{n M:Nat}{S:Sg}(hn:n<=1000000)(K:M<=1100000000000)(hf:S.ids.length<1099511627776)(d:∀w∈S,0<=w)(u:Nat):∀s:dS,ub s.sl=u->Inv n M S s->WK n M S s:=by
 induction u using Nat.strongRecOn with
 |ind u L=>
  intro s hu I a b q J D wb F E H G;have hl:=I.len;have o:Sm s.sl:=by unfold Sm;omega
  have f:∀s':dS,ub s'.sl<ub s.sl->Inv n M S s'->WK n M S s':=fun s' h g=>L _ (by omega) s' rfl g;obtain⟨r1,k1,_,_,ht⟩:=c355 o I.ok (m:=200) (by omega) q;have C:(eT s.sl a).Ok:=o5 I.ok q
  have z:(eT s.sl b).Ok:=o5 I.ok J;have k:(eT s.sl a).Kw:=qR I.wf D;have j:(eT s.sl b).Kw:=qR I.wf wb;have A:=S.p.d6 _ (qS (m:=s.sl.length+1) I.vn F:S.p.v (eT s.sl a));have r:=S.p.d6 _ (qS (m:=s.sl.length+1) I.vn E:S.p.v (eT s.sl b));have B:=uo k (mH (S:=S.ids) I.nO H:∀w,gI (eT s.sl a) w->w∈S);have t:=uo j (mH (S:=S.ids) I.nO G:∀w,gI (eT s.sl b) w->w∈S);refine ZF I hn K hf d q J D wb F E H G k1 ?_;intro e s' g hu i x y hx hy;have hi:i<(eT s.sl a).args.length:=by obtain⟨h,_⟩:=zaa.1 hx;exact h
  have mx:=aK hx;have c:=aK hy;rcases hu with rfl|hu
  .obtain⟨ns,hT,hr⟩:=(ht e).inv;obtain⟨m,hm⟩:=aQ (l:=ns) (i:=i) (by rw[hT.1];exact hi);exact c391r g hn K hf d f m x y (hT.2 i x m hx hm) (C.d6 x mx) (z.d6 y c) (k.d6 x mx) (j.d6 y c) (A x mx) (r y c) (B x mx) (t y c)
  .exact f s' hu g x y (C.d6 x mx) (z.d6 y c) (k.d6 x mx) (j.d6 y c) (A x mx) (r y c) (B x mx) (t y c)
structure Fit(S:Sg)(t:Ty):Prop where
 ok:t.Ok
 wf:t.Kw
 nO:∀w,gI t w->w∈S
 vn:S.p.v t
structure Num(n M:Nat)(S:Sg):Prop where
 n:n<=1000000
 m:M<=1100000000000
 Iw:S.ids.length<1099511627776
 nn:∀w∈S,0<=w
def c385h{n M:Nat}{S:Sg}(N:Num n M S){s:dS}(I:Inv n M S s){a b:Ty}(fa:Fit S a)(f:Fit S b):∃s' e,(az AP).p 385 [s.pv,a.pv,b.pv]=some [s'.pv,vI e]/\Inv n M S s'/\Ext s.sl s'.sl/\∀ht D,yx D b->Ht ht D s.sl->Ht ht D s'.sl:=by
 obtain⟨s',e,c,U⟩:=c391 N.n N.m N.Iw N.nn _ s rfl I a b fa.ok f.ok fa.wf f.wf fa.vn f.vn fa.nO f.nO;simp at c;by_cases d:e=0
 .refine⟨s',0,?_,(U d).1,(U d).2.2.1,(U d).2.2.2⟩;subst d;rw[aw g385];simp[g385,c]
 .refine⟨s,e,?_,I,.refl _,fun _ _ _ h=>h⟩;rw[aw g385];simp[g385,c,d]
def PQ{n M:Nat}{S:Sg}{s:dS}(I:Inv n M S s){i:Nat}{o x:Sl}(a:s.sl[i]?=some o)(c:x.bd=o.bd)(ht:x.ty=o.ty):Inv n (M+1) S (fJ s i o x) where
 len:=by rw[bP,zaN,I.len]
 QZ:=by rw[oG,bP,um a c];have:=I.QZ;omega
 ok:=by
  intro y hy;rw[bP]at hy;rcases mem_set hy with rfl|hy
  .rw[ht];exact I.ok o (aK a)
  .exact I.ok y hy
 nO:=by
  intro y hy;rw[bP]at hy;rcases mem_set hy with rfl|hy
  .rw[ht];exact I.nO o (aK a)
  .exact I.nO y hy
 Ea:=by rw[bP];exact Dx I.Ea a c ht
 wf:=by
  intro y hy;rw[bP]at hy;rcases mem_set hy with rfl|hy
  .rw[ht];exact I.wf o (aK a)
  .exact I.wf y hy
 vn:=by
  intro y hy b;rw[bP]at hy;rcases mem_set hy with rfl|hy
  .rw[ht];exact I.vn o (aK a) (by rw[<-c];exact b)
  .exact I.vn y hy b
def Inv.iy{n M a:Nat}{S S':Sg}{s:dS}(I:Inv n M S s)(h:M<=a)(hS:∀w∈S,w∈S')(hp:S'.p=S.p:=by rfl):Inv n a S' s:=⟨I.len,by have:=I.QZ;omega,I.ok,fun x hx w b=>hS w (I.nO x hx w b),I.Ea,I.wf,by rw[hp];exact I.vn⟩
def c394{n M:Nat}{S:Sg}(N:Num n M S)(hS:∀w∈S,w<n){s:dS}(I:Inv n M S s){t:Ty}(g:Fit S t):∃s',(az AP).p 394 [s.pv,t.pv]=some [s'.pv]/\Inv n (M+1) S s'/\Ext s.sl s'.sl/\∀ht D,Ht ht D s.sl->Ht ht D s'.sl:=by
 have hl:=I.len;have hn:=N.n;have j:=N.m;have d:Sm s.sl:=by unfold Sm;omega
 have k3:=c386 d (t:=t);have f:∀w,gI (wk s.sl (s.sl.length+1) t) w->w∈S:=mH (S:=S.ids) I.nO g.nO;generalize wk s.sl (s.sl.length+1) t=x at*;by_cases k:x.kind=1
 .have e:=f _ (.var k);have h0:=N.nn _ e;have h1:=hS _ e;obtain⟨i,hi⟩:∃i:Nat,x.id=i:=⟨x.id.toNat,by omega⟩;have b:i<s.sl.length:=(by omega);obtain⟨o,a⟩:=aQ b;have c:=c393 I.Q0 hn (by omega) a ⟨o.bd,o.ty,o.home,true⟩;refine⟨_,?_,PQ I a (x:=⟨o.bd,o.ty,o.home,true⟩) rfl rfl,Ext.set a (.inr ⟨rfl,rfl⟩),fun ht D h=>h.set a rfl rfl⟩;generalize fJ s i o ⟨o.bd,o.ty,o.home,true⟩=s1 at*;simp[k,hi]at k3;simp at c;rw[aw g394];simp(disch:=omega)[-getElem?_pos,g394,k3,b,a,c]
 .refine⟨s,?_,I.iy (by omega) (fun _ h=>h),.refl _,fun _ _ h=>h⟩;simp at k3;rw[aw g394];simp[g394,k3,k]
def e8(p:Vp)(n:Nat):Sg:=⟨(List.range n).map fun k:Nat=>(k:Int),p⟩
def eU{p:Vp}{n:Nat}{w:Int}:w∈e8 p n<->0<=w/\w<n:=by
 change w∈(List.range n).map (fun k:Nat=>(k:Int))<->_
 simp only[zat,List.mem_range];constructor
 .rintro⟨k,h,rfl⟩;omega
 .intro h;exact⟨w.toNat,by omega,by omega⟩
def WL{p:Vp}{n M:Nat}(hn:n<=1000000)(a:M<=1100000000000):Num n M (e8 p n):=⟨hn,a,by simp[e8];omega,fun w h=>(eU.1 h).1⟩
def yy{p:Vp}{n M:Nat}{s:dS}(I:Inv n M (e8 p n) s)(home:Int)(b:Bool){d:Nat}(f:M+ub s.sl+n+4<=d):Inv (n+1) d (e8 p (n+1)) (cO s home b) where
 len:=by simp[cO,I.len]
 QZ:=by
  have:=I.QZ;have hu:ub (cO s home b).sl=ub s.sl+1:=by simp[cO,ub,List.countP_append]
  have ht:(cO s home b).tr.length=s.tr.length+1:=(by simp[cO]);rw[hu,ht];have:(n+1+2)*(ub s.sl+1)=(n+2)*ub s.sl+ub s.sl+n+3:=(by rw[zcM,Nat.add_right_comm n 1 2,zaI (n+2) 1];omega);omega
 ok:=by
  intro x hx;simp[cO]at hx;rcases hx with hx|rfl
  .exact I.ok x hx
  .exact cW rfl
 nO:=by
  intro x hx w a;simp[cO]at hx;rcases hx with hx|rfl
  .have:=eU.1 (I.nO x hx w a);exact eU.2 (by omega)
  .cases a with
   |var q=>simp[bF]at q
   |arg _ e _=>simp[bF]at e
 Ea:=PJ I.Ea rfl
 wf:=by
  intro x hx;simp[cO]at hx;rcases hx with hx|rfl
  .exact I.wf x hx
  .exact⟨by simp[bF],by simp[bF],by simp[bF]⟩
 vn:=by
  intro x hx c;simp[cO]at hx;rcases hx with hx|rfl
  .exact I.vn x hx c
  .cases c
mutual
def Ty.kE(l:List bj):Ty->Ty
 |⟨k,n,i,h,as⟩=>if k=5/\0<=pK l n then cL (pK l n)else⟨k,n,i,h,Ty.PR l as⟩
def Ty.PR(l:List bj):List Ty->List Ty
 |[]=>[]
 |a::r=>a.kE l::Ty.PR l r
end
def Ty.DC(l:List bj):∀as:List Ty,Ty.PR l as=as.map (Ty.kE l)
 |[]=>by simp[Ty.PR]
 |a::r=>by simp[Ty.PR,Ty.DC l r]
def Ty.sd(l:List bj)(t:Ty):t.kE l=if t.kind=5/\0<=pK l t.name then cL (pK l t.name)else⟨t.kind,t.name,t.id,t.home,t.args.map (Ty.kE l)⟩:=by
 cases t;simp only[Ty.kE,Ty.DC]
def ZG{l:List bj}{t:Ty}(hS:Sm t.args)(h:∀x∈t.args,(az AP).p 198 [x.pv,.aq (l.map .str)]=some [(x.kE l).pv]):∀(n i:Nat),t.args.length-i=n->i<=t.args.length->∀acc:List Ty,acc=(t.args.take i).map (Ty.kE l)->
   cl AP g198L0 ⟨[(1,.pv (.aq (l.map .str))),(2,.au 2 0),(4,.au 4 0),(6,.au 6 0),(7,.pv (vI i))],
     [(2,Se t),(4,[.pv (vI 0),.pv (.str []),.pv (vI 0),.pv (vI 0),.own [] 0]),(6,[.pv (vI t.kind),.pv (.str t.name),.pv (vI t.id),.pv (vI t.home),.own (acc.map Ty.pv) 1])],[],[0,acc.length]⟩=
     some (.exit 0,⟨[(1,.pv (.aq (l.map .str))),(2,.au 2 0),(4,.au 4 0),(6,.au 6 0),(7,.pv (vI t.args.length)),(26,.pv (.bool false))],
     [(2,Se t),(4,[.pv (vI 0),.pv (.str []),.pv (vI 0),.pv (vI 0),.own [] 0]),(6,[.pv (vI t.kind),.pv (.str t.name),.pv (vI t.id),.pv (vI t.home),.own ((t.args.map (Ty.kE l)).map Ty.pv) 1])],[],[0,t.args.length]⟩)
 |0,i,hn,hi,acc,a=>by
  have:i=t.args.length:=by omega
  subst this;subst a;rw[g198L0e];simp[g198B0]
 |n+1,i,hn,hi,acc,a=>by
  have hi:i<t.args.length:=(by omega);obtain⟨x,hx⟩:=aQ hi;unfold Sm at hS;have c:(acc.length+1)*64<=140737488355328:=by subst a;simp;omega
  have hc:=h x (aK hx);have b:=ZG hS h n (i+1) (by omega) (by omega) (acc++[x.kE l]) (by rw[zaU,hx,a];simp);rw[g198L0e]at b⊢;simp at b hc;simp(disch:=omega)[-getElem?_pos,g198B0,hx,hi,hc,c,ae];rw[g198L0e];simp[b]
def c198{l:List bj}(hl:Sm l){t:Ty}(a:t.Ok)(hC:t.Cw):(az AP).p 198 [t.pv,.aq (l.map .str)]=some [(t.kE l).pv]:=by
 revert a hC
 refine Ty.cD (p:=fun t=>t.Ok->t.Cw->(az AP).p 198 [t.pv,.aq (l.map .str)]=some [(t.kE l).pv]) ?_ t;intro t b a hC;have k1:=c216 hl (y:=t.name);have k2:=c72 (n:=pK l t.name);have h:=ZG a.sm (fun x hx=>b x hx (a.d6 x hx) (hC.d6 x hx)) t.args.length 0 (by omega) (by omega) [] (by simp);rw[aw g198,Ty.sd];rw[g198L0e]at h;simp at k2 h;by_cases e1:t.kind=5
 .have c:=hC.bare (by rw[e1];decide);by_cases e2:0<=pK l t.name
  .simp[g198,k1,e1,e2,k2,cL]
  .simp[g198,k1,e1,e2,c]
 .simp[g198,e1,g198L0e,h]
def fG(out:List bj)(x:bj):List bj:=if x∈out then out else out++[x]
structure kW(S out:List bj):Prop where
 nodup:out.Nodup
 sub:∀x∈out,x∈S
 Iw:S.length<1099511627776
def kW.len{S out:List bj}(h:kW S out):Sm out:=by
 have:=gZ h.nodup h.sub;have:=h.Iw;unfold Sm;omega
def kW.put{S out:List bj}(h:kW S out){x:bj}(hx:x∈S):kW S (fG out x):=by
 unfold fG;split
 .exact h
 .rename_i e;refine⟨?_,?_,h.Iw⟩
  .rw[zcY];refine⟨h.nodup,by simp,?_⟩;intro a d b c;simp at c;subst c;intro f;subst f;exact e d
  .intro y hy;simp at hy;rcases hy with hy|rfl
   .exact h.sub y hy
   .exact hx
def kW.fold{S:List bj}:∀{l:List bj}{out:List bj},kW S out->(∀x∈l,x∈S)->kW S (l.foldl fG out)
 |[],_,h,_=>h
 |x::r,out,h,hx=>by
  simp only[zaS];exact kW.fold (h.put (hx x (by simp))) (fun y hy=>hx y (by simp[hy]))
def yz:∀{l:List bj}{out:List bj}{x:bj},x∈out->x∈l.foldl fG out
 |[],_,_,h=>h
 |y::r,out,x,h=>by
  simp only[zaS];apply yz;unfold fG;split
  .exact h
  .simp[h]
mutual
def Ty.gP:Ty->List bj
 |⟨k,n,_,_,as⟩=>(if k=5 then[n]else[])++Ty.DD as
def Ty.DD:List Ty->List bj
 |[]=>[]
 |a::r=>a.gP++Ty.DD r
end
def Ty.yA:∀l:List Ty,Ty.DD l=l.flatMap Ty.gP
 |[]=>by simp[Ty.DD]
 |a::r=>by simp[Ty.DD,Ty.yA r]
def Ty.IM(t:Ty):t.gP=(if t.kind=5 then[t.name]else[])++t.args.flatMap Ty.gP:=by
 cases t;simp only[Ty.gP,Ty.yA]
def dj(t:Ty):List bj:=t.gP.foldl fG []
def ZH{S:List bj}{t:Ty}(hS:Sm t.args)(h:∀x∈t.args,∀out,kW S out->(az AP).i 222 [.own (out.map .str) 0,.pv x.pv] [] [out.length]=some ([.own ((x.gP.foldl fG out).map .str) 0],[],[(x.gP.foldl fG out).length]))
   (c:∀y∈t.args.flatMap Ty.gP,y∈S):∀(n i:Nat),t.args.length-i=n->i<=t.args.length->∀out,kW S out->
   cl AP g222L0 ⟨[(0,.own (out.map .str) 0),(3,.au 3 0),(5,.pv (vI i))],[(3,Se t)],[],[out.length]⟩=
     some (.exit 0,⟨[(0,.own ((((t.args.drop i).flatMap Ty.gP).foldl fG out).map .str) 0),(3,.au 3 0),(5,.pv (vI t.args.length)),(25,.pv (.bool false))],[(3,Se t)],[],[(((t.args.drop i).flatMap Ty.gP).foldl fG out).length]⟩)
 |0,i,hn,hi,out,hc=>by
  have:i=t.args.length:=by omega
  subst this;rw[g222L0e];simp[g222B0]
 |n+1,i,hn,hi,out,hc=>by
  have hi:i<t.args.length:=(by omega);obtain⟨x,hx⟩:=aQ hi;unfold Sm at hS;have b:∀y∈x.gP,y∈S:=fun y hy=>c y (by simp only[zaC];exact⟨x,aK hx,hy⟩)
  have k:=h x (aK hx) out hc;have a:=ZH (t:=t) (by unfold Sm;exact hS) h c n (i+1) (by omega) (by omega) _ (hc.fold b);rw[g222L0e]at a⊢;rw[aR hx];simp at k a;simp(disch:=omega)[-getElem?_pos,g222B0,hx,hi,k,ae];rw[g222L0e];simp[a]
def c222{S:List bj}{t:Ty}(c:t.Ok)(b:∀y∈t.gP,y∈S):∀out,kW S out->
   (az AP).i 222 [.own (out.map .str) 0,.pv t.pv] [] [out.length]=some ([.own ((t.gP.foldl fG out).map .str) 0],[],[(t.gP.foldl fG out).length]):=by
 revert c b
 refine Ty.cD (p:=fun t=>t.Ok->(∀y∈t.gP,y∈S)->∀out,kW S out->
   (az AP).i 222 [.own (out.map .str) 0,.pv t.pv] [] [out.length]=some ([.own ((t.gP.foldl fG out).map .str) 0],[],[(t.gP.foldl fG out).length])) ?_ t
 intro t e c b out hc;rw[Ty.IM]at b⊢;have d:∀y∈(if t.kind=5 then[t.name]else[]),y∈S:=fun y hy=>b y (List.mem_append_left _ hy)
 have a:∀y∈t.args.flatMap Ty.gP,y∈S:=fun y hy=>b y (zcp _ hy);have h:=ZH (S:=S) c.sm (fun x hx out hc=>e x hx (c.d6 x hx) (fun y hy=>a y (by simp only[zaC];exact⟨x,hx,hy⟩)) out hc) a _ 0 rfl (by omega) _ (hc.fold d)
 have hl:=hc.len;have k:=c216 hl (y:=t.name);have k2:=C' (s:=out) (y:=t.name);unfold Sm at hl;have g:(out.length+1)*16<=140737488355328:=by omega
 have f:bl 1 (out.map PV.str)=true:=by cases out<;>simp
 rw[aM g222,zck];rw[g222L0e]at h;by_cases e1:t.kind=5
 .by_cases e2:t.name∈out
  .simp[e2]at k2;have k3:¬pK out t.name<0:=by omega
   simp[e1,fG,e2]at h;simp[g222,e1,k,k3,g222L0e,h,fG,e2]
  .simp[e2]at k2;simp[e1,fG,e2]at h;simp[g222,e1,k,k2,g222L0e,h,fG,e2,g,f]
 .simp[e1]at h;simp[g222,e1,g222L0e,h]
def c196{S:List bj}(hS:S.length<1099511627776){t:Ty}(b:t.Ok)(a:∀y∈t.gP,y∈S):(az AP).p 196 [t.pv]=some [.aq ((dj t).map .str)]:=by
 have k:=c222 b a [] ⟨by simp,by simp,hS⟩;rw[aw g196];unfold dj;simp at k;simp[g196,k]
def dcC(pos:Int)(name:bj)(ps:List bj)(cs:List cd):List AV:=[.pv (vI pos),.pv (.str name),.own (ps.map .str) 1,.own (cs.map cd.pv) 2]
@[simp] theorem aaR(pos:Int)(name:bj)(ps:List bj)(cs:List cd):dcC pos name ps cs=[.pv (vI pos),.pv (.str name),.own (ps.map .str) 1,.own (cs.map cd.pv) 2]:=rfl
@[simp] theorem WM{l:List cd}:bl 3 (l.map cd.pv)=true:=by cases l<;>simp
structure Small(ds:List Dt):Prop where
 num:Sm ds
 par:∀d∈ds,Sm d.params
 cv:∀d∈ds,Sm d.cons
 tot:Sm (ds.flatMap Dt.cons)
 fld:∀d∈ds,∀c∈d.cons,Sm c.fields/\(∀x∈c.fields,x.Ok)/\∀x∈c.fields,x.Cw
def SJ{l:List Dt}{b:Nat}(h:∀d∈l,d.cons.length<=b):(l.flatMap Dt.cons).length<=l.length*b:=by
 induction l with
 |nil=>simp
 |cons a r c=>
  have h1:=h a (by simp);have h2:=c (fun x hx=>h x (by simp[hx]));simp only[zav,zad,zae,zaI];omega
def DE(a b:Ty):Ty:=⟨4,[45,62],0,0,[a,b]⟩
def tW(n:Nat):List Ty:=(List.range n).map fun i:Nat=>cL i
def qT{n:Nat}:(tW n).length=n:=by simp[tW]
def Mx{n:Nat}:tW (n+1)=tW n++[cL n]:=by simp[tW,List.range_succ]
def dtC(d:Dt):List AV:=[.pv (vI d.pos),.pv (.str d.name),.pv (.aq (d.params.map .str)),.pv (.aq (d.cons.map cd.pv))]
@[simp] theorem aaS(d:Dt):dtC d=[.pv (vI d.pos),.pv (.str d.name),.pv (.aq (d.params.map .str)),.pv (.aq (d.cons.map cd.pv))]:=rfl
def DF(d:Dt):Ty:=⟨4,d.name,0,0,tW d.params.length⟩
def ZI{d:Dt}(hS:Sm d.params):∀(n i:Nat),d.params.length-i=n->i<=d.params.length->
   cl AP g221L0 ⟨[(1,.au 1 0),(2,.au 2 0),(3,.own ((tW i).map Ty.pv) 0),(4,.pv (vI i))],[(1,dtC d),(2,[.pv (vI 0),.pv (.str []),.pv (vI 0),.pv (vI 0),.own [] 1])],[],[i,0]⟩=
     some (.exit 0,⟨[(1,.au 1 0),(2,.au 2 0),(3,.own ((tW d.params.length).map Ty.pv) 0),(4,.pv (vI d.params.length)),(9,.pv (.bool false))],[(1,dtC d),(2,[.pv (vI 0),.pv (.str []),.pv (vI 0),.pv (vI 0),.own [] 1])],[],[d.params.length,0]⟩)
 |0,i,hn,hi=>by
  have:i=d.params.length:=by omega
  subst this;have hl:=qT (n:=d.params.length);rw[g221L0e];simp[g221B0,hl]
 |n+1,i,hn,hi=>by
  have hi:i<d.params.length:=(by omega);unfold Sm at hS;have hl:=qT (n:=i);have b:=qT (n:=i+1);have c:(i+1)*64<=140737488355328:=(by omega);have k:=c72 (n:=i);have a:=ZI hS n (i+1) (by omega) (by omega);rw[g221L0e]at a⊢;rw[Mx]at a;simp[cL,hl]at a k;simp(disch:=omega)[-getElem?_pos,g221B0,hi,k,hl,c,ae];rw[g221L0e];simp[a,hl]
def c221{d:Dt}(hS:Sm d.params):(az AP).p 221 [d.pv]=some [(DF d).pv]:=by
 have h:=ZI hS _ 0 rfl (by omega);have hl:=qT (n:=d.params.length);have k:=c62 (s:=d.name) (l:=tW d.params.length) (by unfold Sm at hS⊢;omega);rw[aw g221];rw[g221L0e]at h;simp[tW]at h;simp[tW]at k;simp[g221,g221L0e,h,k,DF,tW]
def xn(ps:List bj)(fs:List Ty)(t:Ty):Ty:=fs.foldr (fun f t=>DE (f.kE ps) t) t
def My{ps:List bj}{fs:List Ty}{k:Nat}{x t:Ty}(h:fs[k]?=some x):xn ps (fs.take (k+1)) t=xn ps (fs.take k) (DE (x.kE ps) t):=by
 rw[zaU,h];simp[xn]
def kX(ds:List Dt)(s:bj):Option Sc:=(ix ds s 0).bind fun q=>(ds[q.1]?).bind fun d=>(d.cons[q.2]?).map fun c=>⟨d.params.length,xn d.params c.fields (DF d)⟩
def ZJ{ds:List Dt}{i:Nat}{d:Dt}(hd:ds[i]?=some d)(hp:Sm d.params){fs:List Ty}(hS:Sm fs)(g:∀x∈fs,x.Ok)(hC:∀x∈fs,x.Cw):∀(k:Nat),k<=fs.length->∀t:Ty,
   cl AP g193L0 ⟨[(0,.pv (.aq (ds.map Dt.pv))),(4,.au 4 0),(6,.pv (vI i)),(9,.au 9 0),(10,.pv (.aq (fs.map Ty.pv))),(11,.pv (vI ((k:Int)-1)))],
     [(4,[.pv (vI 0),.pv (vI 0),.pv (.str []),.pv (vI 0),.pv (vI 0),.own [] 0]),(9,Se t)],[],[0]⟩=
   some (.exit 0,⟨[(0,.pv (.aq (ds.map Dt.pv))),(4,.au 4 0),(6,.pv (vI i)),(9,.au 9 0),(10,.pv (.aq (fs.map Ty.pv))),(11,.pv (vI (-1))),(40,.pv (.bool false))],
     [(4,[.pv (vI 0),.pv (vI 0),.pv (.str []),.pv (vI 0),.pv (vI 0),.own [] 0]),(9,Se (xn d.params (fs.take k) t))],[],[0]⟩)
 |0,h,t=>by
  rw[g193L0e];simp[g193B0,xn]
 |k+1,h,t=>by
  obtain⟨x,hx⟩:=aQ (l:=fs) (i:=k) (by omega);unfold Sm at hS;have f:=ZJ hd hp (fs:=fs) (by unfold Sm;exact hS) g hC k (by omega) (DE (x.kE d.params) t);have e1:((k+1:Nat):Int)-1=k:=by omega
  have e:=c198 hp (g x (aK hx)) (hC x (aK hx));have c:=c69 (a:=x.kE d.params) (b:=t);rw[g193L0e,e1,My hx];simp[DE]at f e c;simp(disch:=omega)[-getElem?_pos,g193B0,hd,hx,e,c,ae,f,DE]
def c193{ds:List Dt}(hS:Sm ds)(hc:∀d∈ds,Sm d.cons)(hp:∀d∈ds,Sm d.params)(hf:∀d∈ds,∀c∈d.cons,Sm c.fields/\(∀x∈c.fields,x.Ok)/\∀x∈c.fields,x.Cw){s:bj}:
   (az AP).p 193 [.aq (ds.map Dt.pv),.str s]=some (Sa (kX ds s)):=by
 have k:=c191 hS hc (s:=s);rw[aw g193];cases e:ix ds s 0 with
 |none=>
  rw[e]at k;simp[rF]at k;simp[g193,k,kX,e,Sa,lx]
 |some q=>
  rw[e]at k;obtain⟨_,d,c,hd,a,_⟩:=uk e;simp only[zcI]at hd;obtain⟨f1,f2,f3⟩:=hf d (aK hd) c (aK a);have k2:=c221 (hp d (aK hd));have h:=ZJ hd (hp d (aK hd)) f1 f2 f3 c.fields.length (zas _) (DF d);rw[zbo]at h;rw[g193L0e]at h;unfold Sm at f1;simp[rF]at k;simp at k2 h;simp(disch:=omega)[-getElem?_pos,g193,k,hd,a,k2,kX,e,Sa,ae,g193L0e,h]
def mps(a b:List (PV×PV)):Sh:=[some [.fH a],some [.fH b]]
@[simp] theorem aaT(a b:List (PV×PV)):mps a b=[some [.fH a],some [.fH b]]:=rfl
def aaU(c:cd):List AV:=[.pv (vI c.pos),.pv (.str c.name),.pv (.aq (c.fields.map Ty.pv))]
@[simp] theorem aaD(c:cd):aaU c=[.pv (vI c.pos),.pv (.str c.name),.pv (.aq (c.fields.map Ty.pv))]:=rfl
mutual
def Ty.Uw:Ty->Bool
 |⟨k,_,_,_,as⟩=>(decide (k=4)|| decide (as.length=0)) && decide (as.length<=100) && Ty.PS as
def Ty.PS:List Ty->Bool
 |[]=>true
 |a::r=>a.Uw && Ty.PS r
end
def Ty.DG:∀l:List Ty,Ty.PS l=l.all Ty.Uw
 |[]=>by simp[Ty.PS]
 |a::r=>by simp[Ty.PS,Ty.DG r]
def PT{t:Ty}:t.Uw=true->t.Ok/\t.Cw:=by
 refine Ty.cD (p:=fun t=>t.Uw=true->t.Ok/\t.Cw) ?_ t;intro t a h
 have e:t.Uw=((decide (t.kind=4)|| decide (t.args.length=0)) && decide (t.args.length<=100) && t.args.all Ty.Uw):=by
  cases t;simp only[Ty.Uw,Ty.DG]
 rw[e]at h;simp only[zah,zbs,za5,zaq]at h;obtain⟨⟨h1,h2⟩,h3⟩:=h;refine⟨⟨by unfold Sm;omega,fun x hx=>(a x hx (h3 x hx)).1⟩,⟨fun b=>?_,fun x hx=>(a x hx (h3 x hx)).2⟩⟩;rcases h1 with h1|h1
 .exact absurd h1 b
 .exact zaR.1 h1
def PU(d:Dt):Bool:=decide (d.params.length<=8) && decide (d.cons.length<=8) && d.cons.all fun c=>decide (c.fields.length<=8) && c.fields.all Ty.Uw
def Hw:bf.all PU=true:=by decide +kernel
def Mz{d:Dt}(h:d∈bf):d.params.length<=100/\d.cons.length<=100/\∀c∈d.cons,c.fields.length<=100/\(∀x∈c.fields,x.Ok)/\∀x∈c.fields,x.Cw:=by
 have h1:=zaq.1 Hw d h;unfold PU at h1;simp only[zah,za5,zaq]at h1;obtain⟨⟨h1,h2⟩,h3⟩:=h1;refine⟨by omega,by omega,fun c hc=>?_⟩;obtain⟨h4,h5⟩:=h3 c hc;exact⟨by omega,fun x hx=>(PT (h5 x hx)).1,fun x hx=>(PT (h5 x hx)).2⟩
def Hx{l:List bj}{t:Ty}(h:t.Ok):(t.kE l).Ok:=by
 revert h
 refine Ty.cD (p:=fun t=>t.Ok->(t.kE l).Ok) ?_ t;intro t a h;rw[Ty.sd];split
 .exact cW rfl
 .refine⟨by have:=h.sm;unfold Sm at this⊢;simpa using this,?_⟩;intro x hx;simp only[zat]at hx;obtain⟨y,hy,rfl⟩:=hx;exact a y hy (h.d6 y hy)
def fieldsOf(ds:List Dt)(s:bj)(as:List Ty):Option (List Ty):=(ix ds s 0).bind fun q=>(ds[q.1]?).bind fun d=>(d.cons[q.2]?).bind fun c=>if as.length=d.params.length then some (c.fields.map fun f=>(f.kE d.params).ly as)else none
def ZK(o:Option (List Ty)):List PV:=[.aq ((o.getD []).map Ty.pv),.bool o.isSome]
def ZL{ds:List Dt}{i:Nat}{d:Dt}(hd:ds[i]?=some d)(hp:Sm d.params){as:List Ty}(h:Sm as){fs:List Ty}(hS:Sm fs)(g:∀x∈fs,x.Ok)(hC:∀x∈fs,x.Cw):∀(n j:Nat),fs.length-j=n->j<=fs.length->∀acc:List Ty,acc=(fs.take j).map (fun f=>(f.kE d.params).ly as)->
   cl AP g207L0 ⟨[(0,.pv (.aq (ds.map Dt.pv))),(2,.pv (.aq (as.map Ty.pv))),(8,.pv (vI i)),(11,.own (acc.map Ty.pv) 0),(12,.pv (.aq (fs.map Ty.pv))),(13,.pv (vI j))],[],[],[acc.length]⟩=
     some (.exit 0,⟨[(0,.pv (.aq (ds.map Dt.pv))),(2,.pv (.aq (as.map Ty.pv))),(8,.pv (vI i)),(11,.own ((fs.map (fun f=>(f.kE d.params).ly as)).map Ty.pv) 0),(12,.pv (.aq (fs.map Ty.pv))),(13,.pv (vI fs.length)),(46,.pv (.bool false))],[],[],[fs.length]⟩)
 |0,j,hn,hj,acc,a=>by
  have:j=fs.length:=by omega
  subst this;subst a;rw[g207L0e];simp[g207B0]
 |n+1,j,hn,hj,acc,a=>by
  have hj:j<fs.length:=(by omega);obtain⟨x,hx⟩:=aQ hj;have e:=c198 hp (g x (aK hx)) (hC x (aK hx));have c:=c48 h (t:=x.kE d.params) (Hx (g x (aK hx)));unfold Sm at hS;have k:(acc.length+1)*64<=140737488355328:=by subst a;simp;omega
  have b:=ZL hd hp h (fs:=fs) (by unfold Sm;exact hS) g hC n (j+1) (by omega) (by omega) (acc++[(x.kE d.params).ly as]) (by rw[zaU,hx,a];simp);generalize x.kE d.params=u at e c b;generalize u.ly as=v at c b;rw[g207L0e]at b⊢;simp at b e c;simp(disch:=omega)[-getElem?_pos,g207B0,hd,hx,hj,e,c,k,ae];rw[g207L0e];simp[b]
def c207{ds:List Dt}(h:Small ds){as:List Ty}(a:Sm as){s:bj}:(az AP).p 207 [.aq (ds.map Dt.pv),.str s,.aq (as.map Ty.pv)]=some (ZK (fieldsOf ds s as)):=by
 have k:=c191 h.num h.cv (s:=s);rw[aw g207];cases e:ix ds s 0 with
 |none=>
  rw[e]at k;simp[rF]at k;simp[g207,k,fieldsOf,e,ZK]
 |some q=>
  rw[e]at k;obtain⟨_,d,c,hd,hc,_⟩:=uk e;simp only[zcI]at hd;obtain⟨f1,f2,f3⟩:=h.fld d (aK hd) c (aK hc);have hl:=ZL hd (h.par d (aK hd)) a f1 f2 f3 _ 0 rfl (by omega) [] rfl;rw[g207L0e]at hl;simp[rF]at k;by_cases e2:as.length=d.params.length
  .simp at hl;simp(disch:=omega)[-getElem?_pos,g207,k,hd,hc,fieldsOf,e,ZK,e2,g207L0e,hl]
  .have e3:¬(as.length:Int)=d.params.length:=(by omega);simp(disch:=omega)[-getElem?_pos,g207,k,hd,hc,fieldsOf,e,ZK,e2,e3]
def vr(x:Ty):List Int:=if x.kind=1 then[x.id]else[]
def lV(h:Int):Nat->List Ty
 |0=>[]
 |n+1=>lV h n++[mA h n]
theorem nP(h:Int):∀n,(lV h n).length=n
 |0=>rfl
 |n+1=>by simp[lV,nP h n]
def ZM{T:Ty}{h:Int}{nm:List bj}{q:List AV}(a:q=T.cl)(hS:nm.length<1000000000):∀(n i:Nat),nm.length-i=n->i<=nm.length->
   cl AP g327L0 ⟨[(1,.pv (vI h)),(4,.au 4 0),(5,.au 5 0),(6,.pv (.aq (nm.map .str))),(7,.au 7 0),(8,.own ((lV h i).map Ty.pv) 0),(9,.pv (vI i))],
     [(4,[.pv (vI 0),.pv (.str []),.pv (vI 0),.pv (vI 0),.own [] 1]),(5,[.pv (vI 0),.pv (vI 0),.pv (.str []),.pv (vI 0),.pv (vI 0),.own [] 2]),(7,q)],[],[i,0,0]⟩=
     some (.exit 0,⟨[(1,.pv (vI h)),(4,.au 4 0),(5,.au 5 0),(6,.pv (.aq (nm.map .str))),(7,.au 7 0),(8,.own ((lV h nm.length).map Ty.pv) 0),(9,.pv (vI nm.length)),(18,.pv (.bool false))],
     [(4,[.pv (vI 0),.pv (.str []),.pv (vI 0),.pv (vI 0),.own [] 1]),(5,[.pv (vI 0),.pv (vI 0),.pv (.str []),.pv (vI 0),.pv (vI 0),.own [] 2]),(7,q)],[],[nm.length,0,0]⟩)
 |0,i,hn,hi=>by
  have:i=nm.length:=by omega
  subst this;have hl:=nP h nm.length;subst a;generalize lV h nm.length=R at*;rw[g327L0e];simp[g327B0,hl,Ty.cl]
 |n+1,i,hn,hi=>by
  have hi:i<nm.length:=(by omega);have b:=ZM (h:=h) a hS n (i+1) (by omega) (by omega);have k:=c71 (n:=h) (m:=i);have hl:=nP h i;have c:(i+1)*64<=140737488355328:=(by omega);have hr:(lV h (i+1)).map Ty.pv=(lV h i).map Ty.pv++[(mA h i).pv]:=(by simp[lV]);rw[hr]at b;subst a;generalize lV h i=R at*;rw[g327L0e]at b⊢;simp[hl,Ty.cl,mA]at b k;simp(disch:=omega)[-getElem?_pos,g327B0,hi,hl,k,c,Ty.cl,ae];rw[g327L0e];simp[hl,b]
def c327{S:List bj}(hf:S.length<1000000000){t:Ty}(d:t.Ok)(hC:t.Cw)(e:∀y∈t.gP,y∈S){h:Int}:(az AP).p 327 [t.pv,vI h]=some [((t.kE (dj t)).ly (lV h (dj t).length)).pv,(As.mk (dj t).length (t.kE (dj t))).pv]:=by
 have a:=kW.fold (S:=S) (l:=t.gP) (out:=[]) ⟨by simp,by simp,by omega⟩ e
 have b:(dj t).length<1000000000:=by
  have:=gZ a.nodup a.sub;unfold dj;omega
 have k1:=c196 (S:=S) (by omega) d e;have k2:=c198 (l:=dj t) (by unfold Sm;omega) d hC;have c:=Hx (l:=dj t) d;have k3:=c48 (s:=lV h (dj t).length) (by unfold Sm;rw[nP];omega) c;generalize dj t=nm at*;generalize t.kE nm=T at*;have h4:=ZM (h:=h) (T:=T) (nm:=nm) rfl b _ 0 rfl (by omega);generalize lV h nm.length=R at*;generalize T.ly R=U at*;rw[g327L0e]at h4;simp[lV,Ty.cl]at h4;simp at k1 k2 k3;rw[aw g327];simp[g327,k1,k2,g327L0e,h4,k3]
def c325{S:List bj}(hf:S.length<1000000000){t:Ty}(b:t.Ok)(hC:t.Cw)(a:∀y∈t.gP,y∈S):(az AP).p 325 [t.pv]=some [((t.kE (dj t)).ly (lV 98 (dj t).length)).pv]:=by
 have k:=c327 hf b hC a (h:=98);generalize (t.kE (dj t)).ly (lV 98 (dj t).length)=U at*;simp at k;rw[aw g325];simp[g325,k]
def ZN{vs:List Int}(hv:Sm vs){t:Ty}:∀(n i:Nat),vs.length-i=n->i<=vs.length->∀acc:List As,acc.length<=i->
   cl AP g363L0 ⟨[(1,.au 1 0),(2,.au 2 0),(3,.pv (.aq (vs.map vI))),(4,.own (acc.map As.pv) 0),(5,.pv (vI i))],[(1,tC t),(2,zC 1)],[],[acc.length,0]⟩=
     some (.exit 0,⟨[(1,.au 1 0),(2,.au 2 0),(3,.pv (.aq (vs.map vI))),(4,.own ((acc++(vs.drop i).map fun v=>As.mk v bK).map As.pv) 0),(5,.pv (vI vs.length)),(12,.pv (.bool false))],[(1,tC t),(2,zC 1)],[],[(acc++(vs.drop i).map fun v=>(⟨v,bK⟩:As)).length,0]⟩)
 |0,i,hn,hi,acc,c=>by
  have:i=vs.length:=by omega
  subst this;rw[g363L0e];simp[g363B0,tC,zC]
 |n+1,i,hn,hi,acc,c=>by
  have hi:i<vs.length:=(by omega);obtain⟨x,hx⟩:=aQ hi;unfold Sm at hv;have b:(acc.length+1)*72<=140737488355328:=(by omega);have k:=c34;have a:=ZN (t:=t) hv n (i+1) (by omega) (by omega) (acc++[⟨x,bK⟩]) (by simp;omega);rw[g363L0e]at a⊢;rw[aR hx];simp[tC,zC,bK]at a k;simp(disch:=omega)[-getElem?_pos,g363B0,tC,zC,bK,hx,hi,k,ae,b];rw[g363L0e];simp[a]
def c363{S:List Ty}(hf:S.length<1099511627776)(a:∀x∈S,x.Ok){t:Ty}(b:Good S t):(az AP).p 363 [t.pv]=some [(t.sub ((vars [t]).map fun v=>As.mk v bK)).pv]:=by
 have k1:=Hi hf a (l:=[t]) (by simp[Sm]) (by simpa using b);have hv:=Dj hf (l:=[t]) (by simpa using b);have h:=ZN (t:=t) hv _ 0 rfl (by omega) [] (by simp);have k2:=c46 (s:=(vars [t]).map fun v=>As.mk v bK) (by unfold Sm at*;simpa using hv) b.ok;generalize vars [t]=vs at*;rw[g363L0e]at h;simp[tC,zC]at h;simp at k1 k2;rw[aw g363];simp[g363,k1,k2,g363L0e,h]
def gz(k:Nat):List AV:=[.pv (vI 0),.pv (vI 0),.pv (.str []),.pv (vI 0),.pv (vI 0),.own [] k]
inductive ZO (k:Int):Ex->Prop
 |mk {e:Ex}:e.kind≠k->(∀x∈e.ch,ZO k x)->ZO k e
def ZP{l:List Ex}(hl:l.length<=2000){k:Int}(e:∀x∈l,∃b,(az AP).p 307 [x.pv,vI k]=some [.bool b]/\(b=false->ZO k x)):∀(n i:Nat),l.length-i=n->i<=l.length->
   cl AP g307L0 ⟨[(1,.pv (vI k)),(5,.pv (.aq (l.map Ex.pv))),(6,.pv (vI i))],[],[],[]⟩=some (.ret,⟨[(4,.pv (.bool true))],[],[],[]⟩)\/
   cl AP g307L0 ⟨[(1,.pv (vI k)),(5,.pv (.aq (l.map Ex.pv))),(6,.pv (vI i))],[],[],[]⟩=some (.exit 0,⟨[(1,.pv (vI k)),(5,.pv (.aq (l.map Ex.pv))),(6,.pv (vI l.length)),(16,.pv (.bool false))],[],[],[]⟩)/\∀x∈l.drop i,ZO k x
 |0,i,hn,hi=>by
  have:i=l.length:=by omega
  subst this;refine .inr ⟨?_,by simp⟩;rw[g307L0e];simp[g307B0]
 |n+1,i,hn,hi=>by
  have hi:i<l.length:=(by omega);obtain⟨x,hx⟩:=aQ hi;obtain⟨b,c,g⟩:=e x (aK hx);have d:=yn.len x;have a:=yn.of x;cases b with
  |true=>
   refine .inl ?_;simp at c d a;rw[g307L0e];simp(disch:=omega)[-getElem?_pos,g307B0,hx,hi,c,d,a]
  |false=>
   have f:=ZP hl e n (i+1) (by omega) (by omega)
   have e1:cl AP g307L0 ⟨[(1,.pv (vI k)),(5,.pv (.aq (l.map Ex.pv))),(6,.pv (vI i))],[],[],[]⟩=cl AP g307L0 ⟨[(1,.pv (vI k)),(5,.pv (.aq (l.map Ex.pv))),(6,.pv (vI (i+1:Nat)))],[],[],[]⟩:=by
    conv=>lhs;rw[g307L0e]
    simp at c d a;simp(disch:=omega)[-getElem?_pos,g307B0,hx,hi,c,ae,d,a]
   rw[e1];refine f.imp_right fun h=>⟨h.1,?_⟩;rw[aR hx];intro y hy;simp only[zau]at hy;rcases hy with rfl|hy
   .exact g rfl
   .exact h.2 y hy
def c307k{e:Ex}(h:e.Ok)(k:Int):∃b,(az AP).p 307 [e.pv,vI k]=some [.bool b]/\(b=false->ZO k e):=by
 induction h with
 | @mk e c d hv ht hc a=>
  have k1:=c145 (Ex.Ok.mk c d hv ht hc);have hl:e.ch.length<=2000:=(by rw[Ex.cM];omega);have L:=ZP hl a _ 0 rfl (by omega);rw[g307L0e,zaj]at L;simp at L k1;by_cases q:e.kind=k
  .refine⟨true,?_,by simp⟩;rw[aw g307];simp[g307,q]
  .rcases L with L|L
   .refine⟨true,?_,by simp⟩;rw[aw g307];simp[g307,q,k1,g307L0e,L]
   .obtain⟨L,hn⟩:=L;refine⟨false,?_,fun _=>.mk q hn⟩;rw[aw g307];simp[g307,q,k1,g307L0e,L]
def c307{e:Ex}(h:e.Ok)(k:Int):∃b,(az AP).p 307 [e.pv,vI k]=some [.bool b]:=by
 obtain⟨b,h,_⟩:=c307k h k;exact⟨b,h⟩
def iz(i:Nat):List Int->List As
 |[]=>[]
 |v::r=>⟨v,bO i⟩::iz (i+1) r
theorem PW{i:Nat}{l:List Int}:(iz i l).length=l.length:=by
 induction l generalizing i with
 |nil=>rfl
 |cons a r b=>simp[iz,b]
def Ux{l:List Ty}{vs:List Int}(hv:Sm vs):∀(n i:Nat),vs.length-i=n->i<=vs.length->∀acc:List As,acc.length<=i->
   cl AP g395L0 ⟨[(0,.pv (.aq (l.map Ty.pv))),(3,.pv (.aq (vs.map vI))),(4,.own (acc.map As.pv) 0),(5,.pv (vI i))],[],[],[acc.length]⟩=
     some (.exit 0,⟨[(0,.pv (.aq (l.map Ty.pv))),(3,.pv (.aq (vs.map vI))),(4,.own ((acc++iz i (vs.drop i)).map As.pv) 0),(5,.pv (vI vs.length)),(13,.pv (.bool false))],[],[],[(acc++iz i (vs.drop i)).length]⟩)
 |0,i,hn,hi,acc,c=>by
  have:i=vs.length:=by omega
  subst this;rw[g395L0e];simp[g395B0,iz]
 |n+1,i,hn,hi,acc,c=>by
  have hi:i<vs.length:=(by omega);obtain⟨x,hx⟩:=aQ hi;unfold Sm at hv;have b:(acc.length+1)*72<=140737488355328:=(by omega);have k:=c63 (n:=i);have a:=Ux (l:=l) hv n (i+1) (by omega) (by omega) (acc++[As.mk x (bO i)]) (by simp;omega);rw[g395L0e]at a⊢;rw[aR hx];simp[bO]at a k;simp(disch:=omega)[-getElem?_pos,g395B0,hx,hi,k,ae,b,iz,bO];rw[g395L0e];simp[a]
def Uy{l:List Ty}(hl:Sm l)(c:∀t∈l,t.Ok){s:List As}(hs:Sm s):∀(n i:Nat),l.length-i=n->i<=l.length->∀acc:List Ty,acc.length<=i->
   cl AP g395L1 ⟨[(0,.pv (.aq (l.map Ty.pv))),(4,.own (s.map As.pv) 0),(6,.own (acc.map Ty.pv) 1),(7,.pv (vI i))],[],[],[s.length,acc.length]⟩=
     some (.exit 2,⟨[(0,.pv (.aq (l.map Ty.pv))),(4,.own (s.map As.pv) 0),(6,.own ((acc++(l.drop i).map (Ty.sub s)).map Ty.pv) 1),(7,.pv (vI l.length)),(29,.pv (.bool false))],[],[],[s.length,(acc++(l.drop i).map (Ty.sub s)).length]⟩)
 |0,i,hn,hi,acc,e=>by
  have:i=l.length:=by omega
  subst this;rw[g395L1e];simp[g395B1]
 |n+1,i,hn,hi,acc,e=>by
  have hi:i<l.length:=(by omega);obtain⟨x,hx⟩:=aQ hi;have b:=hl;unfold Sm at hl;have d:(acc.length+1)*64<=140737488355328:=(by omega);have k:=c46 hs (c x (aK hx));have a:=Uy b c hs n (i+1) (by omega) (by omega) (acc++[x.sub s]) (by simp;omega);rw[g395L1e]at a⊢;rw[aR hx];simp at a k;simp(disch:=omega)[-getElem?_pos,g395B1,hx,hi,k,ae,d];rw[g395L1e];simp[a]
def c395i{S:List Ty}(hf:S.length<1099511627776)(a:∀x∈S,x.Ok){l:List Ty}(hl:Sm l)(b:∀t∈l,Good S t):(az AP).i 395 [.pv (.aq (l.map Ty.pv))] [] []=some ([.own ((l.map (Ty.sub (iz 0 (vars l)))).map Ty.pv) 0],[],[l.length]):=by
 have k1:=Hi hf a hl b;have hv:=Dj hf b;have h1:=Ux (l:=l) hv _ 0 rfl (by omega) [] (by simp);have hs:Sm (iz 0 (vars l)):=by unfold Sm at*;rw[PW];exact hv
 have h2:=Uy hl (fun t ht=>(b t ht).ok) hs _ 0 rfl (by omega) [] (by simp);generalize vars l=vs at*;rw[g395L0e]at h1;rw[g395L1e]at h2;simp at h1 h2 k1;generalize iz 0 vs=s at*;rw[aM g395];simp[g395,k1,g395L0e,h1,g395L1e,h2]
def c377{s:List As}(hs:Sm s){c:Sc}(a:c.ty.Ok):(az AP).p 377 [.aq (s.map As.pv),c.pv]=some [(As.mk c.id (c.ty.sub s)).pv]:=by
 have k:=c22 hs a;generalize c.ty.sub s=u at*;simp at k;rw[aw g377];simp[g377,k]
def Uz{l:List En}(hl:Sm l){g:Ty}{b:PV}:∀(n i:Nat),l.length-i=n->i<=l.length->∀acc:List Ty,acc.length<=i->
   cl AP g376L0 ⟨[(2,.pv b),(3,.au 3 0),(6,.au 6 0),(8,.own (acc.map Ty.pv) 0),(9,.pv (.aq (l.map En.pv))),(10,.pv (vI i))],[(3,tC g),(6,[.own [] 1,.own [] 2])],[],[acc.length,0,0]⟩=
     some (.exit 0,⟨[(2,.pv b),(3,.au 3 0),(6,.au 6 0),(8,.own ((acc++(l.drop i).map fun x=>x.sc.ty).map Ty.pv) 0),(9,.pv (.aq (l.map En.pv))),(10,.pv (vI l.length)),(21,.pv (.bool false))],[(3,tC g),(6,[.own [] 1,.own [] 2])],[],[(acc++(l.drop i).map fun x=>x.sc.ty).length,0,0]⟩)
 |0,i,hn,hi,acc,d=>by
  have:i=l.length:=by omega
  subst this;rw[g376L0e];simp[g376B0,tC]
 |n+1,i,hn,hi,acc,d=>by
  have hi:i<l.length:=(by omega);obtain⟨x,hx⟩:=aQ hi;unfold Sm at hl;have c:(acc.length+1)*64<=140737488355328:=(by omega);have a:=Uz (g:=g) (b:=b) hl n (i+1) (by omega) (by omega) (acc++[x.sc.ty]) (by simp;omega);rw[g376L0e]at a⊢;rw[aR hx];simp[tC]at a;simp(disch:=omega)[-getElem?_pos,g376B0,tC,hx,hi,ae,c];rw[g376L0e];simp[a]
def wS:Nat->dS
 |0=>⟨[],[]⟩
 |i+1=>cO (wS i) 1000000 false
theorem PX:∀i,ub (wS i).sl=i
 |0=>rfl
 |i+1=>by
  have:=PX i;simp only[ub]at this;simp[wS,cO,ub,List.countP_append,this]
def AG{p:Vp}:∀i,Inv i (i*i+4*i) (e8 p i) (wS i)
 |0=>⟨rfl,by simp[wS,ub],by simp[wS],by simp[wS],⟨fun _=>0,by rintro i v ⟨k,x,_,h,_⟩;simp[wS]at h⟩,by simp[wS],by simp[wS]⟩
 |i+1=>by
  have I:=AG (p:=p) i;refine yy I 1000000 false ?_;rw[PX];have:(i+1)*(i+1)=i*i+2*i+1:=(by rw[zaI,zcM];omega);omega
def UA{vs:List Int}(hv:vs.length<=5000):∀(n i:Nat),vs.length-i=n->i<=vs.length->∀acc:List As,acc.length<=i->
   cl AP g376L1 ⟨[(2,.pv (.aq [])),(6,.au 6 0),(11,.pv (.aq (vs.map vI))),(12,.au 12 0),(13,.own (acc.map As.pv) 0),(14,.pv (vI i))],[(6,[.own [] 1,.own [] 2]),(12,sC (wS i))],[],[acc.length,0,0]⟩=
     some (.exit 2,⟨[(2,.pv (.aq [])),(6,.au 6 0),(11,.pv (.aq (vs.map vI))),(12,.au 12 0),(13,.own ((acc++iz i (vs.drop i)).map As.pv) 0),(14,.pv (vI vs.length)),(42,.pv (.bool false))],[(6,[.own [] 1,.own [] 2]),(12,sC (wS vs.length))],[],[(acc++iz i (vs.drop i)).length,0,0]⟩)
 |0,i,hn,hi,acc,c=>by
  have:i=vs.length:=by omega
  subst this;rw[g376L1e];simp[g376B1,sC,iz]
 |n+1,i,hn,hi,acc,c=>by
  have hi:i<vs.length:=(by omega);obtain⟨x,hx⟩:=aQ hi;have b:(acc.length+1)*72<=140737488355328:=(by omega);have k0:=c95 (s:=[]) (by simp[Sm]) (y:=x);have I:=AG (p:=.all) i;have d:i*i<=5000*5000:=zdb (by omega) (by omega);have k:=c381 I.Q0 (by omega) (by omega) 1000000 false;rw[I.len]at k;have a:=UA hv n (i+1) (by omega) (by omega) (acc++[As.mk x (bO i)]) (by simp;omega);simp only[wS]at a;generalize cO (wS i) 1000000 false=s1 at*;generalize wS i=s0 at*;rw[g376L1e]at a⊢;rw[aR hx];simp[bO]at k;simp[sC,bO]at a;simp at k0;simp(disch:=omega)[-getElem?_pos,g376B1,sC,hx,hi,k,k0,ae,b,iz,bO];rw[g376L1e];simp[a]
def c376{S:List Ty}(hf:S.length<=5000)(d:∀x∈S,x.Ok){g:Ty}(k:Good S g){l:List En}(hl:Sm l)(i:l.length<1000000)(m:∀x∈l,Good S x.sc.ty):∃vs:List Int,vs=vars (g::(dD l).map fun x=>x.sc.ty)/\vs.length<=5000 /\
   (az AP).p 376 [g.pv,.aq (l.map En.pv),.aq []]=some [(wS vs.length).pv,.aq ((iz 0 vs).map As.pv)]:=by
 have h:=wm l;have k1:=c201 hl
 have a:∀t∈(g::(dD l).map fun x=>x.sc.ty),Good S t:=by
  intro t ht;simp only[zau,zat]at ht;rcases ht with rfl|⟨x,hx,rfl⟩
  .exact k
  .exact m x (ki l x hx)
 have hs:Sm (dD l):=by unfold Sm at*;omega
 have h1:=Uz hs (g:=g) (b:=.aq []) _ 0 rfl (by omega) [] (by simp);have k2:=Hi (by omega) d (l:=g::(dD l).map fun x=>x.sc.ty) (by unfold Sm at*;simp;omega) a
 have hv:(vars (g::(dD l).map fun x=>x.sc.ty)).length<=5000:=by
  have c0:lO (S.map Ty.id) []:=wi (by simp;omega)
  have c1:=c0.fold (l:=(g::(dD l).map fun x=>x.sc.ty).flatMap Ty.nodes) (by
   intro x hx j;simp only[zaC]at hx;obtain⟨t,ht,hx⟩:=hx;exact zcf ((a t ht).sub x (yp (a t ht).wf x hx j)))
  have:=gZ c1.nodup c1.sub;rw[zak]at this;unfold vars;omega
 refine⟨_,rfl,hv,?_⟩;generalize vars (g::(dD l).map fun x=>x.sc.ty)=vs at*;have h2:=UA hv _ 0 rfl (by omega) [] (by simp);have k3:=c388;have e:(1+(dD l).length)*64<=140737488355328:=by omega
 rw[g376L0e]at h1;rw[g376L1e]at h2;generalize wS vs.length=n at*;simp[tC]at h1;simp[wS,sC]at h2;have c:=C7.head ((dD l).map fun x=>x.sc.ty);generalize dD l=E at*;simp at k1 k2 k3 c;rw[aw g376];by_cases f:E=[]
 .subst f;simp at h1 k1 k2;simp(disch:=omega)[g376,k1,g376L0e,h1,e,c,k2,k3,g376L1e,h2]
 .simp(disch:=omega)[g376,k1,g376L0e,h1,e,c,f,k2,k3,g376L1e,h2]
def lW(s:dS):Nat->dS
 |0=>s
 |i+1=>cO (lW s i) 1000000 false
def UB{s:List Sl}:ub s<=s.length:=List.countP_le_length
def oI{p:Vp}{n M:Nat}{s:dS}(I:Inv n M (e8 p n) s):∀i,Inv (n+i) (M+i*(2*(n+i)+4)) (e8 p (n+i)) (lW s i)
 |0=>by simpa[lW]using I
 |i+1=>by
  have J:=oI I i;have hu:ub (lW s i).sl<=n+i:=by have:=UB (s:=(lW s i).sl);rw[J.len]at this;exact this
  refine yy J 1000000 false ?_
  have:(i+1)*(2*(n+(i+1))+4)=i*(2*(n+i)+4)+i*2+(2*(n+(i+1))+4):=by
   rw[zaI,Nat.one_mul,show 2*(n+(i+1))+4=(2*(n+i)+4)+2 by omega,zcM]
  omega
def DH(c:Sc):List AV:=[.pv (vI c.id),.pv (vI c.ty.kind),.pv (.str c.ty.name),.pv (vI c.ty.id),.pv (vI c.ty.home),.pv (.aq (c.ty.args.map Ty.pv))]
def UC{p:Vp}{n M:Nat}{s:dS}(I:Inv n M (e8 p n) s){c:Sc}{K:Nat}(hc:c.id=K)(hN:n+K<=10000)(f:M<=1000000){g:Ty}{p3:PV}{p4:PV}:∀(k i:Nat),K-i=k->i<=K->∀acc:List Ty,acc.length=i->
   cl AP g389L0 ⟨[(3,.pv p3),(4,.pv p4),(5,.au 5 0),(6,.au 6 0),(7,.au 7 0),(13,.own (acc.map Ty.pv) 0),(14,.pv (vI i))],[(5,sC (lW s i)),(6,DH c),(7,tC g)],[],[acc.length]⟩=
     some (.exit 0,⟨[(3,.pv p3),(4,.pv p4),(5,.au 5 0),(6,.au 6 0),(7,.au 7 0),(13,.own ((acc++(List.range' i (K-i)).map fun j=>bO (n+j:Nat)).map Ty.pv) 0),(14,.pv (vI K)),(39,.pv (.bool false))],[(5,sC (lW s K)),(6,DH c),(7,tC g)],[],[K]⟩)
 |0,i,d,hi,acc,b=>by
  have:i=K:=by omega
  subst this;rw[g389L0e];simp[g389B0,sC,DH,tC,hc,b]
 |k+1,i,d,hi,acc,b=>by
  have hi:i<K:=(by omega);have J:=oI I i;have h:i*(2*(n+i)+4)<=10000*20004:=zdb (by omega) (by omega);have c1:=c381 J.Q0 (by omega) (by omega) 1000000 false;rw[J.len]at c1;have a:=UC I hc hN f (g:=g) (p3:=p3) (p4:=p4) k (i+1) (by omega) (by omega) (acc++[bO (n+i:Nat)]) (by simp;omega)
  have hr:List.range' i (K-i)=i::List.range' (i+1) (K-(i+1)):=by
   rw[show K-i=(K-(i+1))+1 by omega,zc3]
  have e:(acc.length+1)*64<=140737488355328:=(by omega);simp only[lW]at a;rw[hr];generalize cO (lW s i) 1000000 false=s1 at*;generalize lW s i=s0 at*;rw[g389L0e]at a⊢;simp[bO]at c1;simp[sC,DH,tC,bO,hc]at a;simp(disch:=omega)[-getElem?_pos,g389B0,sC,DH,tC,hc,hi,c1,ae,e,bO];rw[g389L0e];simp[a]
def WN(t:Ty):Prop:=t.Ok/\t.Kw
def PI.kw{s:List Sl}(hs:∀x∈s,x.ty.Kw){t u:Ty}(h:PI s t u):t.Kw->u.Kw:=by
 induction h with
 | @mk t u h1 h2 h3 h4 h5 _ d=>
  intro e;have w:(eT s t).Kw:=qR hs e;refine .mk (fun q=>?_) (by rw[h2];exact w.nm) fun x hx=>?_
  .rw[h1]at q;obtain⟨a,b⟩:=w.hd q;exact⟨by rw[h1];exact a,zaR.1 (by rw[h5,b];rfl)⟩
  .obtain⟨i,hi⟩:=zbX hx;have hl:=(zaa.1 hi).1;obtain⟨b,c⟩:=aQ (l:=(eT s t).args) (i:=i) (by omega);exact d i b x c hi (w.kd b (aK c))
def PI.vn{p:Vp}{s:List Sl}(hs:∀x∈s,x.bd=true->p.v x.ty){t u:Ty}(h:PI s t u):p.v t->p.v u:=by
 induction h with
 | @mk t u h1 h2 h3 h4 h5 _ c=>
  intro d;have w:p.v (eT s t):=qS hs d
  have:=p.node _ u.args w h5 fun x hx=>by
   obtain⟨i,hi⟩:=zbX hx;have hl:=(zaa.1 hi).1;obtain⟨b,a⟩:=aQ (l:=(eT s t).args) (i:=i) (by omega);exact c i b x a hi (p.d6 _ w b (aK a))
  rw[<-h1,<-h2,<-h3,<-h4]at this;have e:(⟨u.kind,u.name,u.id,u.home,u.args⟩:Ty)=u:=by cases u;rfl
  rwa [e]at this
def z0:Int->Nat:=fun _=>0
def PY{ht:Int->Nat}{D:Nat}{s:List Sl}(h:Ht ht D s):∀(m:Nat)(t:Ty),(wk s m t).pd ht<=t.pd ht
 |0,t=>zas _
 |m+1,t=>by
  unfold wk;split
  .rename_i x hx;obtain⟨a,i,hi,hx,b⟩:=eD hx;have h1:=PY h m x.ty;have h2:=h i x hx;rw[zan b]at h2;rw[Ty.gm ht t,zan a,hi];omega
  .exact zas _
def PI.pd{ht:Int->Nat}{D:Nat}{s:List Sl}(h:Ht ht D s){t u:Ty}(r:PI s t u):u.pd z0<=t.pd ht:=by
 induction r with
 | @mk t u h1 h2 h3 h4 h5 _ c=>
  have w:=PY h (s.length+1) t
  change (eT s t).pd ht<=_ at w
  by_cases k:u.kind=1
  .rw[Ty.gm z0 u,zan k];exact zby _
  .refine za9 ?_ w;rw[Ty.gm z0 u,zai k];refine kA fun x hx=>?_;obtain⟨i,hi⟩:=zbX hx;have hl:=(zaa.1 hi).1
   obtain⟨b,a⟩:=aQ (l:=(eT s t).args) (i:=i) (by omega);have q:=c i b x a hi;have d:=lB (ht:=ht) (t:=eT s t) (by rw[<-h1];exact k) (aK a);omega
def c358v{p:Vp}{s:dS}(hs:Sm s.sl)(c:∀x∈s.sl,x.ty.Ok)(b:∀x∈s.sl,x.ty.Kw)(hV:∀x∈s.sl,x.bd=true->p.v x.ty){t:Ty}(ht:WN t)(hv:p.v t){r:Nat}(hr:Tr s.sl t r)(a:r<=4000):∃u:Ty,(az AP).p 358 [s.pv,t.pv]=some [u.pv,.bool true]/\(WN u/\p.v u)/\u.nodes.length<=4000/\∀ht D,Ht ht D s.sl->u.pd z0<=t.pd ht:=by
 obtain⟨u,e,h1,h2,h3⟩:=c358y hs c ht.1 hr a;exact⟨u,e,⟨⟨h1,h3.kw b ht.2⟩,h3.vn hV hv⟩,by omega,fun ht D h=>h3.pd h⟩
def ib(n:Nat):Ty:=⟨4,[45,62],0,0,[bO n,bO (n+1:Nat)]⟩
def wC{n:Int}:(bO n).Kw:=.bare rfl (by simp[bO]) (by simp[bO])
def qU{S:Sg}{n:Int}(h:n∈S):Fit S (bO n):=⟨cW rfl,wC,fun w a=>by rw[kV (t:=bO n) rfl a];exact h,S.p.var n⟩
def qV{p:Vp}{n:Nat}:Fit (e8 p (n+2)) (ib n) where
 ok:=⟨by simp[ib,Sm],by intro x hx;simp[ib]at hx;rcases hx with rfl|rfl<;>exact cW rfl⟩
 wf:=.mk (by simp[ib]) (by simp[ib]) (by intro x hx;simp[ib]at hx;rcases hx with rfl|rfl<;>exact wC)
 nO:=by
  intro w a;cases a with
  |var q=>simp[ib]at q
  |arg _ b a=>
   simp[ib]at b;rcases b with rfl|rfl
   .exact(qU (S:=e8 p (n+2)) (eU.2 (by omega))).nO w a
   .exact(qU (S:=e8 p (n+2)) (eU.2 (by omega))).nO w a
 vn:=p.arr _ _ (p.var _) (p.var _)
def AH{s:dS}{i:Nat}{v:Sl}(h:s.sl[i]?=some v):∀k,(lW s k).sl[i]?=some v
 |0=>h
 |k+1=>by
  have a:=AH h k;have hl:i<(lW s k).sl.length:=by obtain⟨h,_⟩:=zaa.1 a;exact h
  simp only[lW,cO];rw[zar hl];exact a
def Hy{s:dS}{v:Int}:∀{k:Nat},pO (lW s k).sl v->pO s.sl v
 |0,h=>h
 |k+1,h=>by
  obtain⟨j,x,e,hx,a⟩:=h;simp only[lW,cO]at hx;by_cases hl:j<(lW s k).sl.length
  .rw[zar hl]at hx;exact Hy (k:=k) ⟨j,x,e,hx,a⟩
  .rw[zaB (by omega)]at hx
   have:j-(lW s k).sl.length=0:=by
    have:=(zaa.1 hx).1;simpa using this
   rw[this]at hx;simp at hx;subst hx;cases a
def WO{s:List Sl}{v:Int}(h:pO s v):v<s.length:=by
 obtain⟨k,x,e,hx,_⟩:=h;have:=(zaa.1 hx).1;omega
def hF(B D N:Nat):Int->Nat:=fun i=>D+(N-(i.toNat+2-B) / 2)
def PZ{f g:Int->Nat}(t:Ty):(∀w,gI t w->f w=g w)->t.pd f=t.pd g:=by
 refine Ty.cD (p:=fun t=>(∀w,gI t w->f w=g w)->t.pd f=t.pd g) ?_ t;intro t c h;rw[Ty.gm,Ty.gm g];by_cases k:t.kind=1
 .rw[zan k,zan k];exact h _ (.var k)
 .rw[zai k,zai k]
  have key:∀l:List Ty,(∀x∈l,x.pd f=x.pd g)->Ty.MY f l=Ty.MY g l:=by
   intro l;induction l with
   |nil=>intro _;rfl
   |cons a r b=>intro hl;simp only[Ty.MY];rw[hl a (by simp),b fun x hx=>hl x (by simp[hx])]
  exact key _ fun x hx=>c x hx fun w d=>h w (.arg k hx d)
def Hz{ht:Int->Nat}{D:Nat}{s:dS}(h:Ht ht D s.sl)(a:∀i:Nat,D<=ht i):∀k,Ht ht D (lW s k).sl
 |0=>h
 |k+1=>fun i x hx=>by
  simp only[lW,cO]at hx;rw[zbn]at hx;split at hx
  .exact Hz h a k i x hx
  .cases e:i-(lW s k).sl.length with
   |zero=>rw[e]at hx;simp at hx;subst hx;simpa using a i
   |succ j=>rw[e]at hx;simp at hx
def UD{B D N:Nat}(i:Nat):D<=hF B D N i:=by unfold hF;omega
def WQ{B D N:Nat}(i:Int):hF B D N i<=D+N:=by unfold hF;omega
def SK{B D N a:Nat}(b:a<N):(ib (B+2*a)).pd (hF B D N)<=D+(N-a):=by
 rw[Ty.gm,zai (by simp[ib])];refine kA fun x hx=>?_;simp[ib]at hx;rcases hx with rfl|rfl<;>rw[Ty.gm,zan (by simp[bO])]<;>simp only[bO,hF]<;>omega
def WR{B D N a i:Nat}(hi:i<B+2*a):D+(N-a)<=hF B D N i:=by unfold hF;omega
def SL{p:Vp}{n M:Nat}{s:dS}(I:Inv n M (e8 p n) s){i:Nat}{v:Sl}(hv:s.sl[i]?=some v)(hf:¬pO s.sl (i:Int)):
   Inv (n+2) (M+2*(2*(n+2)+4)) (e8 p (n+2)) (fJ (lW s 2) i v ⟨true,ib n,v.home,v.base⟩):=by
 have J:=oI I 2;have h1:=AH hv 2;have fi:¬pO (lW s 2).sl (i:Int):=fun h=>hf (Hy h)
 have hi:i<n:=by have:=(zaa.1 hv).1;rw[I.len]at this;exact this
 refine (DA J (t:=ib n) h1 fi Kp.refl (by omega) h1 (qV (p:=p)).ok (qV (p:=p)).wf (qV (p:=p)).vn (qV (p:=p)).nO ?_ rfl rfl).1
 rintro⟨w,a,hr⟩
 have hw:n<=w:=by
  cases a with
  |var q=>simp[ib]at q
  |arg _ c a=>
   simp[ib]at c;rcases c with rfl|rfl
   .rw[kV (t:=bO n) rfl a];simp[bO]
   .have:=kV (t:=bO ((n:Int)+1)) rfl a;simp[bO]at this;omega
 have b:¬pO (lW s 2).sl w:=fun h=>by
  have:=WO (Hy h);rw[I.len]at this;omega
 have:=wB hr b;omega
def Fit.iy{S S':Sg}{t:Ty}(h:Fit S t)(hS:∀w∈S,w∈S')(hp:S'.p=S.p:=by rfl):Fit S' t:=⟨h.ok,h.wf,fun w a=>hS w (h.nO w a),by rw[hp];exact h.vn⟩
def yB{p:Vp}{n m:Nat}(h:n<=m):∀w∈e8 p n,w∈e8 p m:=fun w hw=>by have:=eU.1 hw;exact eU.2 (by omega)
def DI{s:List Sl}{t:Ty}{i:Nat}{x:Sl}(a:t.kind=1)(hi:t.id=i)(hx:s[i]?=some x)(b:x.bd=true):d7 s t=some x:=by
 unfold d7;rw[zan ⟨a,by omega⟩];have:t.id.toNat=i:=by omega
 rw[this,hx];simp[b]
def wD{s:List Sl}{t:Ty}(a:t.kind≠1):d7 s t=none:=by
 unfold d7;rw[zai fun h=>a h.1]
def DJ{s:List Sl}{t:Ty}(h:d7 s t=none):eT s t=t:=by unfold eT wk;rw[h]
def IN{s:List Sl}:∀(m:Nat)(t:Ty),d7 s (wk s m t)=none->wk s (m+1) t=wk s m t
 |0,t,h=>by unfold wk;rw[show d7 s t=none from h]
 |m+1,t,h=>by
  cases e:d7 s t with
  |none=>
   have h1:wk s (m+1) t=t:=(by unfold wk;rw[e]);have h2:wk s (m+1+1) t=t:=(by unfold wk;rw[e]);rw[h1,h2]
  |some x=>
   have h1:wk s (m+1) t=wk s m x.ty:=by conv=>lhs;unfold wk;rw[e]
   have h2:wk s (m+1+1) t=wk s (m+1) x.ty:=by conv=>lhs;unfold wk;rw[e]
   rw[h1]at h⊢;rw[h2];exact IN m x.ty h
def DK{s:List Sl}(a:Hs s){t:Ty}{x:Sl}(h:d7 s t=some x):eT s t=eT s x.ty:=by
 have h1:eT s t=wk s s.length x.ty:=by unfold eT;conv=>lhs;unfold wk;rw[h]
 have h2:d7 s (wk s s.length x.ty)=none:=by rw[<-h1];exact qQ a
 rw[h1];exact(IN _ _ h2).symm
theorem HA{s s':List Sl}(X:Ext s s')(a:Hs s'):∀(m:Nat)(t:Ty),eT s' (wk s m t)=eT s' t
 |0,t=>rfl
 |m+1,t=>by
  cases e:d7 s t with
  |none=>unfold wk;rw[e]
  |some x=>
   have h1:wk s (m+1) t=wk s m x.ty:=by conv=>lhs;unfold wk;rw[e]
   obtain⟨c,i,hi,hx,d⟩:=eD e;obtain⟨y,hy,b,f⟩:=X.bd i x hx d;rw[h1,HA X a m x.ty,DK a (DI c hi hy b),f]
inductive Sp (s:List Sl):Ty->Ty->List Ty->Prop
 |nil {w:Ty}:Sp s w w []
 |snoc {w t a b:Ty} {l:List Ty}:Sp s w t l->(eT s t).kind=4->a∈(eT s t).args->b∈(eT s t).args->Sp s w b (l++[a])
def Sp.ext{s s':List Sl}(X:Ext s s')(i:Hs s'){w t:Ty}{l:List Ty}(h:Sp s w t l):Sp s' w t l:=by
 induction h with
 |nil=>exact .nil
 | @snoc t a b l _ c f d g=>
  have e:eT s' t=eT s t:=by
   have h1:=HA X i (s.length+1) t
   change eT s' (eT s t)=_ at h1
   rw[<-h1];exact DJ (wD (by rw[c];decide))
  exact .snoc g (by rw[e];exact c) (by rw[e];exact f) (by rw[e];exact d)
def Tr.d6{s:List Sl}{t:Ty}{r:Nat}(h:Tr s t r){a:Ty}(c:a∈(eT s t).args):∃b,b<=r/\Tr s a b:=by
 obtain⟨ns,hT,e⟩:=h.inv;obtain⟨i,hi⟩:=zbX c;have hl:=(zaa.1 hi).1;obtain⟨n,hn⟩:=aQ (l:=ns) (i:=i) (by rw[hT.1];exact hl);have:=AD hn;exact⟨n,by omega,hT.2 i a n hi hn⟩
def Sp.tr{s:List Sl}{w t:Ty}{l:List Ty}(h:Sp s w t l){r:Nat}(hr:Tr s w r):(∀a∈l,∃b,b<=r/\Tr s a b)/\∃b,b<=r/\Tr s t b:=by
 induction h with
 |nil=>exact⟨by simp,r,zas _,hr⟩
 |snoc _ _ k j m=>
  obtain⟨h1,b,h2,h3⟩:=m;obtain⟨i,g,d⟩:=h3.d6 k;obtain⟨f,e,c⟩:=h3.d6 j;refine⟨?_,f,by omega,c⟩;intro y hy;simp only[zaz,zb6]at hy;rcases hy with hy|rfl
  .exact h1 y hy
  .exact⟨i,by omega,d⟩
def Sp.pd{ht:Int->Nat}{D:Nat}{s:List Sl}(h:Ht ht D s){w t:Ty}{l:List Ty}(p:Sp s w t l):(∀a∈l,a.pd ht<=w.pd ht)/\t.pd ht<=w.pd ht:=by
 induction p with
 |nil=>exact⟨by simp,zas _⟩
 | @snoc t a b l _ f e d c=>
  have h1:=PY h (s.length+1) t
  change (eT s t).pd ht<=_ at h1
  have hn:(eT s t).kind≠1:=(by rw[f];decide);have h2:=lB (ht:=ht) hn e;have h3:=lB (ht:=ht) hn d;have h4:=c.2;refine⟨fun y hy=>?_,by omega⟩;simp only[zaz,zb6]at hy;rcases hy with hy|rfl
  .exact c.1 y hy
  .omega
def IP(s:dS):∀i,Ext s.sl (lW s i).sl
 |0=>.refl _
 |i+1=>(IP s i).trans ⟨by simp[lW,cO],fun k x hx a=>⟨x,by simp only[lW,cO];rw[zar (zaa.1 hx).1];exact hx,a,rfl⟩⟩
structure ZQ(p:Vp)(Z:Prop)(B N m M:Nat)(s:dS)(t w g:Ty)(args:List Ty)(vs:List As):Prop where
 MA:∃a,m=B+2*a/\a<=args.length
 tP:Z->∀D,Ht (hF B D N) D s.sl
 inv:Inv m M (e8 p m) s
 sp:Sp s.sl w t args
 t:Fit (e8 p m) t
 w:Fit (e8 p m) w
 g:Fit (e8 p m) g
 args:∀a∈args,Fit (e8 p m) a
 vs:∀x∈vs,Fit (e8 p m) x.ty
def Fit.wk{p:Vp}{m M:Nat}{s:dS}(I:Inv m M (e8 p m) s){t:Ty}(h:Fit (e8 p m) t):Fit (e8 p m) (eT s.sl t):=⟨o5 I.ok h.ok,qR I.wf h.wf,mH (S:=(e8 p m).ids) I.nO h.nO,qS I.vn h.vn⟩
def c194a{a b:Ty}:(az AP).p 194 [(Ty.mk 4 [45,62] 0 0 [a,b]).pv]=some [a.pv,b.pv,.bool true]:=by
 rw[aw g194];simp[g194]
def c194f{S:Sg}{t:Ty}(ht:Fit S t):∃(a b:Ty)(c:Bool),(az AP).p 194 [t.pv]=some [a.pv,b.pv,.bool c]/\(c=true->t.kind=4/\Fit S a/\Fit S b/\a∈t.args/\b∈t.args):=by
 obtain⟨a,b,c,e,_,_,h⟩:=c194g ht.ok;refine⟨a,b,c,e,?_⟩;intro hc;have q:=h hc;have i:t.kind=4:=by rw[q]
 have f:a∈t.args:=by rw[q];simp
 have d:b∈t.args:=by rw[q];simp
 have hn:t.kind≠1:=by rw[i];decide
 exact⟨i,⟨ht.ok.d6 a f,ht.wf.d6 a f,fun w g=>ht.nO w (.arg hn f g),S.p.d6 _ ht.vn a f⟩,⟨ht.ok.d6 b d,ht.wf.d6 b d,fun w g=>ht.nO w (.arg hn d g),S.p.d6 _ ht.vn b d⟩,f,d⟩
def nQ(q:aF):Option (bh×St):=some (.ret,⟨[(10,.dr []),(11,.dr []),(12,.pv (.bool false))],[],[],q⟩)
def mU(vs:List As)(N:Nat)(s:dS)(g w t:Ty)(args:List Ty):St:=⟨[(3,.pv (.aq (vs.map As.pv))),(4,.pv (vI N)),(5,.au 5 0),(7,.au 7 0),(16,.au 16 0),(17,.au 17 0),(18,.own (args.map Ty.pv) 0)],[(5,sC s),(7,tC g),(16,tC w),(17,tC t)],[],[args.length]⟩
theorem ZS{p:Vp}{Z:Prop}{B N m M:Nat}{s:dS}{t w g:Ty}{args:List Ty}{vs:List As}(E:ZQ p Z B N m M s t w g args vs)(hm:m<=30000)(hM:M<=10000000)(hl:args.length<N)(hN:N<=1000):
   (∃q,cl AP g389L1 (mU vs N s g w t args)=nQ q)\/∃m' T s' t' d,m<=m'/\m'<=m+2/\T<=M+200000/\d.length=args.length+1/\ZQ p Z B N m' T s' t' w g d vs/\cl AP g389L1 (mU vs N s g w t args)=cl AP g389L1 (mU vs N s' g w t' d):=by
 have G:=E.inv.len;obtain⟨R,u,Y⟩:=E.MA;have C:Sm s.sl:=by unfold Sm;omega
 have k1:=c386 C (t:=t);have F:=E.t.wk E.inv;have fr:=qQ E.inv.Ea (t:=t)
 change (az AP).p 386 [s.pv,t.pv]=some [(eT s.sl t).pv]at k1
 have v:=E.sp;have a2:eT s.sl t=eT s.sl t:=rfl;generalize f:eT s.sl t=x at*;have S:(args.length+1)*64<=140737488355328:=by omega
 have j:(args.length:Int)<N:=by omega
 have e:∀w∈e8 p m,w∈e8 p (m+2):=yB (by omega);by_cases k:x.kind=1
 .have a1:=eU.1 (F.nO _ (.var k));obtain⟨i,hi⟩:∃i:Nat,x.id=i:=⟨x.id.toNat,by omega⟩;have a0:i<m:=(by omega);have l:i<s.sl.length:=(by omega);obtain⟨o,r⟩:=aQ l;have fi:¬pO s.sl (i:Int):=(by rw[<-hi];exact ky k fr);cases n:o.base with
  |true=>
   left;obtain⟨a,b,c,k2,h2⟩:=c194f F
   have hc:c=false:=by
    cases c with
    |false=>rfl
    |true=>have:=(h2 rfl).1;omega
   subst hc;simp[k,hi]at k1 k2;rw[g389L1e];simp(disch:=omega)[-getElem?_pos,g389B1,mU,nQ,sC,tC,j,k1,k,hi,l,r,n,k2]
  |false=>
   right;have J:=oI E.inv 1;have hu:ub (lW s 1).sl<=m+1:=by have:=UB (s:=(lW s 1).sl);rw[J.len]at this;exact this
   have c1:=c381 E.inv.Q0 (by omega) (by omega) 1000000 false;have c2:=c381 J.Q0 (by omega) (by omega) 1000000 false;have J2:=oI E.inv 2;have h2:=AH r 2;have c4:=c393 J2.Q0 (by omega) (by omega) h2 ⟨true,ib m,o.home,o.base⟩;have c3:=c69 (a:=bO m) (b:=bO (m+1:Nat));have c5:=c194a (a:=bO m) (b:=bO (m+1:Nat));have I:=SL E.inv r fi;have e1:lW s 1=cO s 1000000 false:=rfl;have e2:lW s 2=cO (cO s 1000000 false) 1000000 false:=rfl;have H:(lW s 2).sl.length=m+2:=J2.len;rw[G]at c1;rw[J.len,e1]at c2
   refine⟨m+2,M+200000,fJ (lW s 2) i o ⟨true,ib m,o.home,o.base⟩,bO (m+1:Nat),args++[bO m],by omega,by omega,by omega,by simp,⟨⟨R+1,by omega,by simp;omega⟩,fun z D=>(Hz (E.tP z D) UD 2).bind rfl (by
    show (ib m).pd _<=_;rw[u];exact za9 (SK (by omega)) (WR (by omega))),I.iy (by omega) (fun _ h=>h),?_,qU (eU.2 (by omega)),E.w.iy e,E.g.iy e,?_,fun x hx=>(E.vs x hx).iy e⟩,?_⟩
   .have X:Ext s.sl (fJ (lW s 2) i o ⟨true,ib m,o.home,o.base⟩).sl:=(IP s 2).trans (Ext.set h2 (.inl (oH r fi)))
    have O:(fJ (lW s 2) i o ⟨true,ib m,o.home,o.base⟩).sl[i]?=some ⟨true,ib m,o.home,o.base⟩:=by
     have:i<(lW s 2).sl.length:=by omega
     rw[bP,zaA,zan rfl,zan this]
    have P:d7 (fJ (lW s 2) i o ⟨true,ib m,o.home,o.base⟩).sl x=some ⟨true,ib m,o.home,o.base⟩:=DI k hi O rfl
    have Q:eT (fJ (lW s 2) i o ⟨true,ib m,o.home,o.base⟩).sl t=ib m:=by
     have h1:=HA X I.Ea (s.sl.length+1) t
     change eT _ (eT s.sl t)=_ at h1
     rw[f,DK I.Ea P]at h1;rw[<-h1];exact DJ (wD (by simp[ib]))
    exact .snoc (v.ext X I.Ea) (by rw[Q];rfl) (by rw[Q];simp[ib]) (by rw[Q];simp[ib])
   .intro a A;simp at A;rcases A with A|rfl
    .exact(E.args a A).iy e
    .exact qU (eU.2 (by omega))
   .rw[e2]at c4 h2 H⊢;generalize fJ (cO (cO s 1000000 false) 1000000 false) i o ⟨true,ib m,o.home,o.base⟩=s3 at*;generalize cO (cO s 1000000 false) 1000000 false=U at*;generalize cO s 1000000 false=s1 at*;have L:i<U.sl.length:=by omega
    simp[k,hi]at k1;simp[bO,n]at c1 c2 c3 c4 c5;simp[ib,bO]at c4;conv=>lhs;rw[g389L1e]
    simp (disch:=omega) [-getElem?_pos,g389B1,mU,sC,tC,j,k1,k,hi,l,r,n,c1,c2,h2,L,c3,c4,c5,bO,S]
 .obtain⟨a,b,c,k2,h2⟩:=c194f F;simp at k1 k2;cases c with
  |false=>
   left;rw[g389L1e];simp(disch:=omega)[-getElem?_pos,g389B1,mU,nQ,sC,tC,j,k1,k,k2]
  |true=>
   right;obtain⟨K,fa,fb,W,V⟩:=h2 rfl;refine⟨m,M,s,b,args++[a],by omega,by omega,by omega,by simp,⟨⟨R,u,by simp;omega⟩,E.tP,E.inv,.snoc v (by rw[f];exact K) (by rw[f];exact W) (by rw[f];exact V),fb,E.w,E.g,?_,E.vs⟩,?_⟩
   .intro y hy;simp at hy;rcases hy with hy|rfl
    .exact E.args y hy
    .exact fa
   .conv=>lhs;rw[g389L1e]
    simp (disch:=omega) [-getElem?_pos,g389B1,mU,sC,tC,j,k1,k,k2,S]
def UE{p:Vp}{Z:Prop}{B:Nat}{vs:List As}{N:Nat}(hN:N<=1000){w g:Ty}:∀(k m M:Nat)(s:dS)(t:Ty)(args:List Ty),N-args.length=k->args.length<=N->ZQ p Z B N m M s t w g args vs->m+2*k<=30000->M+200000*k<=10000000->
   (∃q,cl AP g389L1 (mU vs N s g w t args)=nQ q)\/∃m' b s' t' a,m'<=30000/\b<=10000000/\a.length=N/\ZQ p Z B N m' b s' t' w g a vs/\cl AP g389L1 (mU vs N s g w t args)=some (.exit 2,⟨[(3,.pv (.aq (vs.map As.pv))),(4,.pv (vI N)),(5,.au 5 0),(7,.au 7 0),(16,.au 16 0),(17,.au 17 0),(18,.own (a.map Ty.pv) 0),(59,.pv (.bool false))],[(5,sC s'),(7,tC g),(16,tC w),(17,tC t')],[],[a.length]⟩)
 |0,m,M,s,t,args,c,d,E,h1,h2=>by
  have hl:args.length=N:=(by omega);refine .inr ⟨m,M,s,t,args,by omega,by omega,hl,E,?_⟩;rw[g389L1e];simp[g389B1,mU,sC,tC,hl]
 |k+1,m,M,s,t,args,c,d,E,h1,h2=>by
  rcases ZS E (by omega) (by omega) (by omega) hN with h|⟨m',b,s',t',a,n,l,j,i,f,e⟩
  .exact .inl h
  .rw[e];exact UE hN k m' b s' t' a (by omega) (by omega) f (by omega) (by omega)
def MB(u:Ty):Prop:=WN u/\u.nodes.length<=4000
def UF{p:Vp}{m M:Nat}{s:dS}(I:Inv m M (e8 p m) s)(hm:m<=1000000){vs:List As}(hv:vs.length<=100000)(hF:∀x∈vs,Fit (e8 p m) x.ty){args:List Ty}:∀(k i:Nat),vs.length-i=k->i<=vs.length->∀acc:List Ty,acc.length=i->(∀u∈acc,MB u/\p.v u)->
   (∃q,cl AP g389L2 ⟨[(3,.pv (.aq (vs.map As.pv))),(5,.au 5 0),(18,.own (args.map Ty.pv) 0),(29,.own (acc.map Ty.pv) 1),(30,.pv (vI i))],[(5,sC s)],[],[args.length,acc.length]⟩=nQ q)\/
   ∃b:List Ty,b.length=vs.length/\(∀u∈b,MB u/\p.v u)/\cl AP g389L2 ⟨[(3,.pv (.aq (vs.map As.pv))),(5,.au 5 0),(18,.own (args.map Ty.pv) 0),(29,.own (acc.map Ty.pv) 1),(30,.pv (vI i))],[(5,sC s)],[],[args.length,acc.length]⟩=
     some (.exit 4,⟨[(3,.pv (.aq (vs.map As.pv))),(5,.au 5 0),(18,.own (args.map Ty.pv) 0),(29,.own (b.map Ty.pv) 1),(30,.pv (vI vs.length)),(153,.pv (.bool false))],[(5,sC s)],[],[args.length,b.length]⟩)
 |0,i,l,hi,acc,h,hu=>by
  have:i=vs.length:=by omega
  subst this;refine .inr ⟨acc,h,hu,?_⟩;rw[g389L2e];simp[g389B2,sC]
 |k+1,i,l,hi,acc,h,hu=>by
  have hi:i<vs.length:=(by omega);obtain⟨x,hx⟩:=aQ hi;have c:=hF x (aK hx);have a:Sm s.sl:=(by unfold Sm;rw[I.len];omega);obtain⟨r,k1,_,_,g⟩:=c355 a I.ok (m:=200) (by omega) c.ok;have n:(acc.length+1)*64<=140737488355328:=(by omega);by_cases hr:(200:Int)<r
  .left;simp at k1;rw[g389L2e];simp(disch:=omega)[-getElem?_pos,g389B2,nQ,sC,hx,hi,k1,hr]
  .obtain⟨u,k2,⟨f,d⟩,e,_⟩:=c358v a I.ok I.wf I.vn ⟨c.ok,c.wf⟩ c.vn (g (by omega)) (by omega)
   have j:=UF I hm hv hF (args:=args) k (i+1) (by omega) (by omega) (acc++[u]) (by simp;omega) (by
    intro y hy;simp at hy;rcases hy with hy|rfl
    .exact hu y hy
    .exact⟨⟨f,e⟩,d⟩)
   have e1:cl AP g389L2 ⟨[(3,.pv (.aq (vs.map As.pv))),(5,.au 5 0),(18,.own (args.map Ty.pv) 0),(29,.own (acc.map Ty.pv) 1),(30,.pv (vI i))],[(5,sC s)],[],[args.length,acc.length]⟩=cl AP g389L2 ⟨[(3,.pv (.aq (vs.map As.pv))),(5,.au 5 0),(18,.own (args.map Ty.pv) 0),(29,.own ((acc++[u]).map Ty.pv) 1),(30,.pv (vI (i+1:Nat)))],[(5,sC s)],[],[args.length,(acc++[u]).length]⟩:=by
    simp at k1 k2;conv=>lhs;rw[g389L2e]
    simp (disch:=omega) [-getElem?_pos,g389B2,sC,hx,hi,k1,hr,k2,n,ae]
   rw[e1];exact j
def UG{p:Vp}{m M:Nat}{s:dS}{P:Ty->Prop}(I:Inv m M (e8 p m) s)(hm:m<=1000000){p3:PV}{args:List Ty}(hv:args.length<=100000)(hF:∀x∈args,Fit (e8 p m) x/\∃r,r<=4000/\Tr s.sl x r)(n:∀x∈args,∀u:Ty,(∀ht D,Ht ht D s.sl->u.pd z0<=x.pd ht)->P u){V:Nat}:∀(k i:Nat),args.length-i=k->i<=args.length->∀acc:List Ty,acc.length<=V+i->V<=100000->(∀u∈acc,(MB u/\p.v u)/\P u)->
   ∃a:List Ty,a.length<=V+args.length/\(∀u∈a,(MB u/\p.v u)/\P u)/\acc.length<=a.length/\cl AP g389L3 ⟨[(3,.pv p3),(5,.au 5 0),(18,.own (args.map Ty.pv) 0),(29,.own (acc.map Ty.pv) 1),(33,.pv (vI i))],[(5,sC s)],[],[args.length,acc.length]⟩=
     some (.exit 6,⟨[(3,.pv p3),(5,.au 5 0),(18,.own (args.map Ty.pv) 0),(29,.own (a.map Ty.pv) 1),(33,.pv (vI args.length)),(181,.pv (.bool false))],[(5,sC s)],[],[args.length,a.length]⟩)
 |0,i,w,hi,acc,l,hV,hu=>by
  have:i=args.length:=by omega
  subst this;refine⟨acc,l,hu,zas _,?_⟩;rw[g389L3e];simp[g389B3,sC]
 |k+1,i,w,hi,acc,l,hV,hu=>by
  have hi:i<args.length:=(by omega);obtain⟨x,hx⟩:=aQ hi;obtain⟨j,r,hr,h⟩:=hF x (aK hx);have g:Sm s.sl:=(by unfold Sm;rw[I.len];omega);have z:(acc.length+1)*64<=140737488355328:=(by omega);obtain⟨u,k2,⟨f,c⟩,d,b⟩:=c358v g I.ok I.wf I.vn ⟨j.ok,j.wf⟩ j.vn h hr
  obtain⟨a,t,q,o,e⟩:=UG I hm hv hF n (p3:=p3) (V:=V) k (i+1) (by omega) (by omega) (acc++[u]) (by simp;omega) hV (by
   intro y hy;simp at hy;rcases hy with hy|rfl
   .exact hu y hy
   .exact⟨⟨⟨f,d⟩,c⟩,n x (aK hx) y b⟩)
  refine⟨a,t,q,by simp at o;omega,?_⟩;rw[g389L3e]at e⊢;simp[sC]at e;simp at k2;simp(disch:=omega)[-getElem?_pos,g389B3,sC,hx,hi,k2,z,ae];rw[g389L3e];simp[e]
def SM{l:List Ty}{t:Ty}:∀w,gI (t.ly l) w->gI t w\/∃x∈l,gI x w:=by
 refine Ty.cD (p:=fun t=>∀w,gI (t.ly l) w->gI t w\/∃x∈l,gI x w) ?_ t;intro t c w h;rw[Ty.lz]at h;cases e:Mo l t with
 |some x=>
  rw[e]at h;obtain⟨_,_,_,hx⟩:=kj e;exact .inr ⟨x,aK hx,h⟩
 |none=>
  rw[e]at h;simp only[zbO]at h;generalize hy:(Ty.mk t.kind t.name t.id t.home (t.args.map (Ty.ly l)))=y at h;cases h with
  |var q=>subst hy;exact .inl (.var q)
  |arg q b d=>
   subst hy;simp only[zat]at b;obtain⟨a,b,rfl⟩:=b;rcases c a b _ d with h|h
   .exact .inl (.arg q b h)
   .exact .inr h
def HB{ht:Int->Nat}{B:Nat}{l:List Ty}(hl:∀x∈l,x.pd ht<=B)(t:Ty):(∀w,¬gI t w)->(t.ly l).pd ht<=t.pd z0+B:=by
 refine Ty.cD (p:=fun t=>(∀w,¬gI t w)->(t.ly l).pd ht<=t.pd z0+B) ?_ t;intro t c h;have k:¬t.kind=1:=fun k=>h _ (.var k)
 rw[Ty.lz];cases e:Mo l t with
 |some x=>
  obtain⟨_,_,_,hx⟩:=kj e;have:=hl x (aK hx);simp only[zbZ];omega
 |none=>
  simp only[zbO];rw[Ty.gm,zai (show ¬(⟨t.kind,t.name,t.id,t.home,t.args.map (Ty.ly l)⟩:Ty).kind=1 from k)];refine kA fun x hx=>?_;simp only[zat]at hx;obtain⟨a,b,rfl⟩:=hx;have h1:=c a b fun w d=>h w (.arg k b d)
  have h2:=lB (ht:=z0) k b;omega
def AI{s:List As}(hs:∀i x,ll s i=some x->x.pd z0=0)(t:Ty):(t.sub s).pd z0<=t.pd z0:=by
 refine Ty.cD (p:=fun t=>(t.sub s).pd z0<=t.pd z0) ?_ t;intro t c;rw[Ty.sub_eq];split
 .cases e:ll s t.id with
  |some x=>simp only[zbZ];have:=hs _ _ e;omega
  |none=>exact zas _
 .rename_i k;have k1:∀x∈t.args,(x.sub s).pd z0<=x.pd z0:=c;by_cases k:t.kind=1
  .rw[Ty.gm,zan (show(⟨t.kind,t.name,t.id,t.home,t.args.map (Ty.sub s)⟩:Ty).kind=1 from k)];exact zby _
  .rw[Ty.gm,zai (show ¬(⟨t.kind,t.name,t.id,t.home,t.args.map (Ty.sub s)⟩:Ty).kind=1 from k)];refine kA fun x hx=>?_;simp only[zat]at hx;obtain⟨a,b,rfl⟩:=hx;have h1:=k1 a b
   have h2:=lB (ht:=z0) k b;omega
def UH{sz τ:Nat}{l:List PV}{k:IntKind}{h:Int}(h0:0<=h)(h1:h<=l.length)(hs:bl sz l=true):cx false sz true false false [.own l τ,.pv (.int k h)]=some (.pv (.aq (l.drop h.toNat))):=by
 simp[cx,cG,dw,h0,h1,hs]
abbrev Mt:=List (Int×Ty)
def mI:Mt->Int->Option Ty
 |[],_=>none
 |(j,x)::r,i=>if i=j then some x else mI r i
def se:Mt->Int->Ty->Mt
 |[],i,t=>[(i,t)]
 |(j,x)::r,i,t=>if i=j then(i,t)::r else(j,x)::se r i t
def mp(m:Mt):List (PV×PV):=m.map fun a=>(vI a.1,a.2.pv)
def uq{i j:Int}{t:Ty}:∀{m:Mt},mI (se m i t) j=if j=i then some t else mI m j
 |[]=>by simp[se,mI]
 |(k,x)::r=>by
  have a:=uq (i:=i) (j:=j) (t:=t) (m:=r);simp only[se,mI];by_cases e:i=k
  .subst e;by_cases e2:j=i<;>simp[mI,e2]
  .by_cases e2:j=i
   .subst e2;simp[mI,e,a]
   .have b:¬k=i:=fun h=>e h.symm;by_cases e3:j=k<;>simp[mI,e,b,e2,e3,a]
def HC(m:Mt):Prop:=∀i x,mI m i=some x->x.Ok
def HC.put{m:Mt}(h:HC m){t:Ty}(ht:t.Ok){i:Int}:HC (se m i t):=by
 intro j x hx;rw[uq]at hx;split at hx
 .cases hx;exact ht
 .exact h j x hx
def ZT(p t:Ty):Bool:=decide (p.kind=t.kind) && decide (p.name=t.name) && decide (p.id=t.id) && decide (p.home=t.home) && decide (p.args.length=t.args.length)
def zTy:Ty:=⟨0,[],0,0,[]⟩
def im(m:Mt)(n:Nat):List Ty:=(List.range n).map fun i:Nat=>(mI m i).getD zTy
def jK{m:Mt}{n:Nat}:(im m n).length=n:=by simp[im]
def rI:Option (List Ty)->List PV
 |some l=>[.aq (l.map Ty.pv),.bool true]
 |none=>[.aq [],.bool false]
def UI(m:Mt)(n:Nat):List Bool:=(List.range n).map fun i:Nat=>(mI m i).isSome
def ur{m:Mt}{n:Nat}:(UI m n).length=n:=by simp[UI]
def sf{m:Mt}{n i:Nat}(h:i<n):(im m n)[i]?=some ((mI m i).getD zTy):=by simp[im,h]
def AJ{m:Mt}{n i:Nat}(h:i<n):(UI m n)[i]?=some (mI m i).isSome:=by simp[UI,h]
def MC{m:Mt}{n i:Nat}{t:Ty}:im (se m i t) n=(im m n).set i t:=by
 apply zcb
 intro j;by_cases hj:j<n
 .rw[sf hj,zaA,uq];by_cases e:i=j
  .subst e;simp[jK,hj]
  .have a:¬(j:Int)=i:=(by omega);simp[e,a,sf hj]
 .rw[za4 (by rw[jK];omega),za4 (by simp[jK];omega)]
def SN{m:Mt}{n i:Nat}{t:Ty}:UI (se m i t) n=(UI m n).set i true:=by
 apply zcb
 intro j;by_cases hj:j<n
 .rw[AJ hj,zaA,uq];by_cases e:i=j
  .subst e;simp[ur,hj]
  .have a:¬(j:Int)=i:=(by omega);simp[e,a,AJ hj]
 .rw[za4 (by rw[ur];omega),za4 (by simp[ur];omega)]
def yC:∀{l:List Ty}{i:Nat},i<=l.length->(l.flatMap Ty.cl).take (i*5)=(l.take i).flatMap Ty.cl
 |_,0,_=>by simp
 |[],i+1,h=>by simp at h
 |a::r,i+1,h=>by
  have b:=yC (l:=r) (i:=i) (by simp at h;omega);have e:(i+1)*5=a.cl.length+i*5:=(by simp[Ty.cl];omega);rw[zav,zbl,zav,e,List.take_length_add_append,b]
def sj:∀{l:List Ty}{i:Nat},i<=l.length->(l.flatMap Ty.cl).drop (i*5)=(l.drop i).flatMap Ty.cl
 |_,0,_=>by simp
 |[],i+1,h=>by simp at h
 |a::r,i+1,h=>by
  have b:=sj (l:=r) (i:=i) (by simp at h;omega);have e:(i+1)*5=a.cl.length+i*5:=(by simp[Ty.cl];omega);rw[zav,zbf,e,List.drop_length_add_append,b]
def SO{l:List Ty}{i:Nat}{t:Ty}(h:i<l.length):aS (lp l 0) (i*5) t.cl=lp (l.set i t) 0:=by
 have e0:∀l:List Ty,lp l 0=l.flatMap Ty.cl:=fun l=>by simp[lp]
 rw[aU,e0,e0,yC (by omega)];have e1:i*5+t.cl.length=(i+1)*5:=by simp[Ty.cl];omega
 rw[e1,sj (by omega),zaw,zan h];simp
def SP{l:List Ty}{i:Nat}{x:Ty}(h:l[i]?=some x):((lp l 0).drop (i*5)).take 5=x.cl:=by
 have hi:i<l.length:=(zaa.1 h).1;have e0:lp l 0=l.flatMap Ty.cl:=by simp[lp]
 rw[e0,sj (by omega),aR h,zav];have:(5:Nat)=x.cl.length:=by simp[Ty.cl]
 rw[this,List.take_left]
mutual
noncomputable def Ty.rt(t:Ty)(m:Mt):Ty->Bool×Mt
 |⟨k,n,i,h,as⟩=>if k=2 then(match mI m i with|some x=>(decide (x=t),m)|none=>(true,se m i t))else if ZT ⟨k,n,i,h,as⟩ t=true then Ty.IQ t.args m as else(false,m)
noncomputable def Ty.IQ(ts:List Ty)(m:Mt):List Ty->Bool×Mt
 |[]=>(true,m)
 |p::ps=>match ts with
  |[]=>(true,m)
  |t::ts=>if(Ty.rt t m p).1=true then Ty.IQ ts (Ty.rt t m p).2 ps else(false,(Ty.rt t m p).2)
end
def Ty.UJ(t:Ty)(m:Mt)(p:Ty):Ty.rt t m p=if p.kind=2 then(match mI m p.id with|some x=>(decide (x=t),m)|none=>(true,se m p.id t))else if ZT p t=true then Ty.IQ t.args m p.args else(false,m):=by
 cases p;simp only[Ty.rt]
def Ec(m:Mt)(n:Nat):List AV:=(UI m n).map fun b=>.pv (.bool b)
def AL{m:Mt}{n:Nat}:(Ec m n).length=n:=by simp[Ec,ur]
def SQ{m:Mt}{n i:Nat}(h:i<n):(Ec m n)[i]?=some (.pv (.bool (mI m i).isSome)):=by simp[Ec,AJ h]
def HD{m:Mt}{n:Nat}:∀v∈Ec m n,∃p,v=AV.pv p:=by
 intro v hv;simp only[Ec,zat]at hv;obtain⟨b,_,rfl⟩:=hv;exact⟨_,rfl⟩
def DL{m:Mt}{n:Nat}:bW (Ec m n)=false:=bw HD
def SU{m:Mt}{n i:Nat}{t:Ty}(h:i<n):aS (Ec m n) (i*1) [.pv (.bool true)]=Ec (se m i t) n:=by
 have hl:i<(Ec m n).length:=by rw[AL];exact h
 rw[aU]
 have e:Ec (se m i t) n=(Ec m n).set i (.pv (.bool true)):=by
  unfold Ec;rw[SN,zcz]
 rw[e,zaw,zan hl];simp
def SV{m:Mt}{n i:Nat}{t:Ty}(h:i<n):aS (lp (im m n) 0) (i*5) t.cl=lp (im (se m i t) n) 0:=by
 rw[MC];exact SO (by rw[jK];exact h)
def po(m:Mt)(n:Nat):Sh:=[some (lp (im m n) 0),some (Ec m n)]
def eV{m:Mt}{n:Nat}:aG (po m n):=aG.app (aG.one Ac) (aG.one HD)
theorem DM{m m':Mt}{n n':Nat}:(po m' n').take (po m n).length=po m' n':=rfl
def SW(n:Nat)(p:Ty):Prop:=∀x∈p.nodes,x.kind=2->0<=x.id/\x.id<n
def SW.d6{n:Nat}{p:Ty}(h:SW n p):∀y∈p.args,SW n y:=by
 intro y hy x hx;refine h x ?_;rw[Ty.aL p];simp only[zau,zaC];exact .inr ⟨y,hy,hx⟩
def P0:∀{ps ts:List Ty}{m:Mt},(∀p∈ps,∀t∈ts,∀m,HC m->HC (Ty.rt t m p).2)->HC m->HC (Ty.IQ ts m ps).2
 |[],ts,m,_,h=>by simpa[Ty.IQ]using h
 |p::ps,[],m,_,h=>by simpa[Ty.IQ]using h
 |p::ps,t::ts,m,hp,h=>by
  have h1:=hp p (by simp) t (by simp) m h;simp only[Ty.IQ];split
  .exact P0 (fun q a u hu=>hp q (by simp[a]) u (by simp[hu])) h1
  .exact h1
def ZU{p:Ty}:∀{t:Ty},t.Ok->∀m,HC m->HC (Ty.rt t m p).2:=by
 refine Ty.cD (p:=fun p=>∀{t:Ty},t.Ok->∀m,HC m->HC (Ty.rt t m p).2) ?_ p;intro p a t ht m hm;rw[Ty.UJ];split
 .split
  .exact hm
  .exact hm.put ht
 .split
  .exact P0 (fun q b u hu m hm=>a q b (ht.d6 u hu) m hm) hm
  .exact hm
def ZV{N:Nat}{p t:Ty}(hS:Sm t.args)(hl:p.args.length=t.args.length)(h:∀x∈p.args,∀y∈t.args,∀m,HC m->(az AP).i 240 [.pv x.pv,.pv y.pv,.aP 0 5 N true,.aP 1 1 N false] (po m N) []=some ([.pv (.bool (Ty.rt y m x).1)],po (Ty.rt y m x).2 N,[]))
   (c:t.Ok):∀(n i:Nat),t.args.length-i=n->i<=t.args.length->∀m,HC m->
   cl AP g240L0 ⟨[(2,.aP 0 5 N true),(3,.aP 1 1 N false),(4,.au 4 0),(5,.au 5 0),(9,.pv (vI i))],[(4,[.pv (vI p.kind),.pv (.str p.name),.pv (vI p.id),.pv (vI p.home),.pv (.aq (p.args.map Ty.pv))]),(5,[.pv (vI t.kind),.pv (.str t.name),.pv (vI t.id),.pv (vI t.home),.pv (.aq (t.args.map Ty.pv))])],po m N,[]⟩=
     if (Ty.IQ (t.args.drop i) m (p.args.drop i)).1=true then some (.exit 0,⟨[(2,.aP 0 5 N true),(3,.aP 1 1 N false),(4,.au 4 0),(5,.au 5 0),(9,.pv (vI t.args.length)),(80,.pv (.bool false))],[(4,[.pv (vI p.kind),.pv (.str p.name),.pv (vI p.id),.pv (vI p.home),.pv (.aq (p.args.map Ty.pv))]),(5,[.pv (vI t.kind),.pv (.str t.name),.pv (vI t.id),.pv (vI t.home),.pv (.aq (t.args.map Ty.pv))])],po (Ty.IQ (t.args.drop i) m (p.args.drop i)).2 N,[]⟩)
     else some (.ret,⟨[(8,.pv (.bool false))],[],po (Ty.IQ (t.args.drop i) m (p.args.drop i)).2 N,[]⟩)
 |0,i,hn,hi,m,hm=>by
  have:i=t.args.length:=by omega
  subst this;have e1:p.args.drop t.args.length=[]:=by rw[<-hl];simp
  have h1:=(eV (m:=m) (n:=N)).norm;rw[g240L0e,e1];simp[g240B0,Ty.IQ,h1,hl]
 |n+1,i,hn,hi,m,hm=>by
  have hi:i<t.args.length:=(by omega);obtain⟨y,hy⟩:=aQ hi;obtain⟨x,hx⟩:=aQ (l:=p.args) (i:=i) (by omega);have a:i<p.args.length:=(by omega);unfold Sm at hS;have h1:=(eV (m:=m) (n:=N)).norm;have h2:=(eV (m:=(Ty.rt y m x).2) (n:=N)).norm;have h3:=(eV (m:=(Ty.rt y m x).2) (n:=N)).shift;have k:=h x (aK hx) y (aK hy) m hm;have b:=ZV hS hl h c n (i+1) (by omega) (by omega) (Ty.rt y m x).2 (ZU (c.d6 y (aK hy)) m hm);rw[g240L0e]at b⊢;rw[aR hx,aR hy];simp only[Ty.IQ];simp[h2]at k b;by_cases e:(Ty.rt y m x).1=true
  .rw[e]at k;simp only[zan e];simp(disch:=omega)[-getElem?_pos,g240B0,hx,hy,hi,a,k,ae,h1,h2,h3];rw[g240L0e];simp[b,h2]
  .have d:(Ty.rt y m x).1=false:=(by simpa using e);rw[d]at k;simp only[zai e];simp(disch:=omega)[-getElem?_pos,g240B0,hx,hy,hi,a,k,ae,h1,h2,h3]
def c240{N:Nat}(hN:N<1099511627776){p:Ty}:∀{t:Ty},t.Ok->SW N p->∀m,HC m->(az AP).i 240 [.pv p.pv,.pv t.pv,.aP 0 5 N true,.aP 1 1 N false] (po m N) []=some ([.pv (.bool (Ty.rt t m p).1)],po (Ty.rt t m p).2 N,[]):=by
 refine Ty.cD (p:=fun p=>∀{t:Ty},t.Ok->SW N p->∀m,HC m->(az AP).i 240 [.pv p.pv,.pv t.pv,.aP 0 5 N true,.aP 1 1 N false] (po m N) []=some ([.pv (.bool (Ty.rt t m p).1)],po (Ty.rt t m p).2 N,[])) ?_ p;intro p E t ht D m hm;have h1:=(eV (m:=m) (n:=N)).norm;have h2:=(eV (m:=m) (n:=N)).shift;rw[aM g240,Ty.UJ];by_cases e2:p.kind=2
 .obtain⟨i0,i1⟩:=D p (by rw[Ty.aL];simp) e2;obtain⟨k,z,f⟩:=mY i0 i1;have l:=SQ (m:=m) f;have r:=AL (m:=m) (n:=N);have al:=C5 (d:=im m N) (m:=0);rw[jK]at al;have F:=sf (m:=m) f;have B:=SP F;have g:k*5+5<=(lp (im m N) 0).length:=by omega
  have s:k+1<=N:=f;rw[zan e2,z];cases hf:mI m k with
  |none=>
   rw[hf]at l;have s1:=SV (m:=m) (t:=t) f;have C:=SU (m:=m) (t:=t) f;have h3:=(eV (m:=se m k t) (n:=N)).norm;simp[po,Ty.cl]at h1 h2 h3 l s1 C;simp(disch:=omega)[-getElem?_pos,g240,e2,z,f,s,po,h1,h2,h3,l,r,DL,s1,C,g]
  |some x=>
   rw[hf]at l B;have q:=c20 (a:=x) (b:=t) (hm _ _ hf);simp[po,Ty.cl]at h1 h2 l B q;simp(disch:=omega)[-getElem?_pos,g240,e2,z,f,s,po,h1,h2,l,r,DL,B,g,q]
 .rw[zai e2];by_cases e:ZT p t=true
  .rw[zan e];simp[ZT]at e;obtain⟨⟨⟨⟨e1,c⟩,e3⟩,e4⟩,e5⟩:=e;have h:=ZV (N:=N) (p:=p) (t:=t) ht.sm e5 (fun x hx y hy m hm=>E x hx (ht.d6 y hy) (D.d6 x hx) m hm) ht _ 0 rfl (by omega) m hm;have h3:=(eV (m:=(Ty.IQ t.args m p.args).2) (n:=N)).norm;rw[g240L0e]at h;have u:¬t.kind=2:=by rw[<-e1];exact e2
   simp[h1,e1,c,e3,e4]at h;cases e6:(Ty.IQ t.args m p.args).1 with
   |true=>simp[e6]at h;simp[g240,u,e1,c,e3,e4,e5,h1,h2,h3,DM,g240L0e,h]
   |false=>simp[e6]at h;simp[g240,u,e1,c,e3,e4,e5,h1,h2,h3,DM,g240L0e,h]
  .rw[zai e]
   have:¬(p.kind=t.kind/\p.name=t.name/\p.id=t.id/\p.home=t.home/\p.args.length=t.args.length):=by
    rintro⟨h1,h2,h3,h4,h5⟩;apply e;simp[ZT,h1,h2,h3,h4,h5]
   by_cases j:p.kind=t.kind
   .have c:¬t.kind=2:=(by rw[<-j];exact e2);by_cases o:p.name=t.name
    .by_cases v:p.id=t.id
     .by_cases w:p.home=t.home
      .have h5:¬p.args.length=t.args.length:=fun h5=>this ⟨j,o,v,w,h5⟩;have A:¬(p.args.length:Int)=t.args.length:=by omega
       simp[g240,c,j,o,v,w,A,h1,h2]
      .simp[g240,c,j,o,v,w,h1,h2]
     .simp[g240,c,j,o,v,h1,h2]
    .simp[g240,c,j,o,h1,h2]
   .simp[g240,e2,j,h1,h2]
def UK{n:Nat}:lp (im [] n) 0=(List.replicate n [.pv (vI 0),.pv (.str []),.pv (vI 0),.pv (vI 0),.pv (.aq [])]).flatten:=by
 have e:im [] n=List.replicate n zTy:=by
  exact List.eq_replicate_iff.2 ⟨by simp[im],by intro b a;simp[im,mI]at a;exact a.2.symm⟩
 rw[e];simp only[lp,List.replicate_zero,List.flatten_nil,zax,List.flatMap_def,List.map_replicate];rfl
def kn0{n:Nat}:Ec [] n=List.replicate n (.pv (.bool false)):=List.eq_replicate_iff.2 ⟨AL,by intro b a;simp[Ec,UI,mI]at a;exact a.2.symm⟩
theorem xp{s:List As}(hs:∀a∈s,a.ty.args=[]){t:Ty}(b:t.Wf):(t.sub s).nodes.length=t.nodes.length:=by
 revert b
 refine Ty.cD (p:=fun t=>t.Wf->(t.sub s).nodes.length=t.nodes.length) ?_ t;intro t d b;rw[Ty.sub_eq];by_cases e:t.kind=1
 .rw[zan e];have g:=b.var e;cases hf:ll s t.id with
  |none=>rfl
  |some u=>
   obtain⟨a,f,rfl⟩:=kT hf;rw[zbZ,Ty.aL,Ty.aL t,hs a f,g];simp
 .rw[zai e,Ty.aL,Ty.aL t];simp only[zae,List.flatMap_map]
  have key:∀(l:List Ty),(∀y∈l,y∈t.args)->(l.flatMap fun y=>(y.sub s).nodes).length=(l.flatMap Ty.nodes).length:=by
   intro l;induction l with
   |nil=>intro _;rfl
   |cons a r c=>
    intro hl;simp only[zav,zad];rw[d a (hl a (by simp)) (b.d6 a (hl a (by simp))),c (fun y hy=>hl y (by simp[hy]))]
  rw[key t.args (fun _ h=>h)]
noncomputable def P3(N:Nat)(p t:Ty):Option (List Ty):=if(Ty.rt t [] p).1=true then some (im (Ty.rt t [] p).2 N)else none
def c238{N:Nat}(hN:N<1000000){p t:Ty}(ht:t.Ok)(c:SW N p):(az AP).p 238 [(As.mk N p).pv,t.pv]=some (rI (P3 N p t)):=by
 have k:=c240 (N:=N) (by omega) ht c [] (by intro i x h;cases h);rw[aw g238];unfold P3;generalize hm:(Ty.rt t [] p).2=m at k⊢;have b:=O_ (d:=im m N);have a:=C5 (d:=im m N) (m:=0);rw[jK]at b a;have h1:=(eV (m:=[]) (n:=N)).norm;have h2:=(eV (m:=m) (n:=N)).norm;have h3:=(eV (m:=m) (n:=N)).shift;have h4:=(aG.one (Ac (d:=im [] N) (m:=0))).norm;have b1:(N:Int)<=9223372036854775807:=by omega
 have b2:(N:Int)*64<=140737488355328:=by omega
 have b3:(N:Int)<=140737488355328:=by omega
 have e0:po [] N=[some ((List.replicate N [.pv (vI 0),.pv (.str []),.pv (vI 0),.pv (vI 0),.pv (.aq [])]).flatten),some (List.replicate N (.pv (.bool false)))]:=by unfold po;rw[UK,kn0]
 rw[e0]at k h1;rw[UK]at h4;have h5:=(aG.one (HD (m:=[]) (n:=N))).norm;rw[kn0]at h5;simp[po]at b a k h1 h2 h3 h4 h5;cases e:(Ty.rt t [] p).1 with
 |true=>
  rw[e]at k;simp(disch:=omega)[g238,b1,b2,b3,h1,h2,h3,h4,h5,k,b,a,rI]
 |false=>
  rw[e]at k;simp(disch:=omega)[g238,b1,b2,b3,h1,h2,h3,h4,h5,k,rI]
def Hv(t:Ty):Prop:=t.kind=1\/t.kind=2\/t.kind=3\/t.kind=5\/(t.kind=4/\t.id=0/\t.home=0/\jD t.name t.args.length=true)
instance:DecidablePred Hv:=fun t=>by unfold Hv;infer_instance
def Ty.Vn(t:Ty):Prop:=∀y∈t.nodes,Hv y
instance:DecidablePred Ty.Vn:=fun t=>by unfold Ty.Vn;infer_instance
def DN{t:Ty}(h:Hv t)(hx:∀x∈t.args,x.Vn):t.Vn:=by
 intro y hy;rw[Ty.aL]at hy;simp only[zau,zaC]at hy;rcases hy with rfl|⟨a,b,hy⟩
 .exact h
 .exact hx a b y hy
def Ty.Vn.hd{t:Ty}(h:t.Vn):Hv t:=h t (by rw[Ty.aL];simp)
def Ty.Vn.d6{t:Ty}(h:t.Vn):∀x∈t.args,x.Vn:=by
 intro x hx y hy;refine h y ?_;rw[Ty.aL];simp only[zau,zaC];exact .inr ⟨x,hx,hy⟩
def AM{t:Ty}{l:List Ty}(h:t.Vn)(hl:l.length=t.args.length)(hx:∀x∈l,x.Vn):(⟨t.kind,t.name,t.id,t.home,l⟩:Ty).Vn:=by
 refine DN ?_ hx;have:=h.hd;unfold Hv at this⊢;simpa only[hl]using this
def HE{a b:Ty}(d:a.Vn)(c:b.Vn):(⟨4,[45,62],0,0,[a,b]⟩:Ty).Vn:=DN (by simp[Hv,jD]) (by intro x hx;simp at hx;rcases hx with rfl|rfl<;>assumption)
def mJ{t:Ty}(h:t.args=[])(a:t.kind=1\/t.kind=2\/t.kind=3\/t.kind=5):t.Vn:=DN (by unfold Hv;omega) (by rw[h];simp)
def P4(i:Int):(bO i).Vn:=mJ rfl (.inl rfl)
def IS:Vp:=⟨Ty.Vn,fun _ h=>h.d6,fun _ _ h hl hx=>AM h hl hx,P4,fun _ _ b a=>HE b a⟩
def Vp.sub(p:Vp){s:List As}(hs:∀i x,ll s i=some x->p.v x)(t:Ty):p.v t->p.v (t.sub s):=by
 refine Ty.cD (p:=fun t=>p.v t->p.v (t.sub s)) ?_ t;intro t c h;rw[Ty.sub_eq];split
 .cases e:ll s t.id with
  |some x=>exact hs _ x e
  |none=>exact h
 .refine p.node t _ h (by simp) ?_;intro x hx;simp only[zat]at hx;obtain⟨a,b,rfl⟩:=hx;exact c a b (p.d6 t h a b)
def Vp.ly(p:Vp){l:List Ty}(hl:∀x∈l,p.v x)(t:Ty):p.v t->p.v (t.ly l):=by
 refine Ty.cD (p:=fun t=>p.v t->p.v (t.ly l)) ?_ t;intro t c h;rw[Ty.lz];cases e:Mo l t with
 |some x=>
  obtain⟨_,_,_,hx⟩:=kj e;exact hl x (aK hx)
 |none=>
  rw[zbO];refine p.node t _ h (by simp) ?_;intro x hx;simp only[zat]at hx;obtain⟨a,b,rfl⟩:=hx;exact c a b (p.d6 t h a b)
def tE(cv:Bool)(s:bj):Prop:=s.length<=100/\ck ⟨if cv then 4 else 5,s,0,0,[]⟩=true
instance {b:Bool}{s:bj}:Decidable (tE b s):=by unfold tE;infer_instance
def uu:∀{l:List Int}{i:Nat}{v:Int}{x:Ty},ll (iz i l) v=some x->∃k:Nat,x=bO k
 |[],i,v,x,h=>by simp[iz,ll]at h
 |a::r,i,v,x,h=>by
  simp only[iz,ll]at h;split at h
  .cases h;exact⟨i,rfl⟩
  .exact uu h
def yD{l:List Int}{i:Nat}:∀a∈iz i l,a.ty.args=[]:=by
 induction l generalizing i with
 |nil=>simp[iz]
 |cons v r c=>
  intro a b;simp only[iz,zau]at b;rcases b with rfl|b
  .rfl
  .exact c a b
def SX{l:List Int}{i:Nat}:∀a∈iz i l,a.ty.Ok:=fun a b=>cW (yD a b)
def SY{l:List Int}{u:Ty}(h:MB u):MB (u.sub (iz 0 l)):=by
 refine⟨⟨Hc SX h.1.1,?_⟩,?_⟩
 .refine Hj (K:=KS) h.1.2 (fun k q _=>q) ?_ (.inl (by simp));intro i x hx;obtain⟨k,rfl⟩:=uu hx;exact wC
 .rw[xp yD h.1.2.wf];exact h.2
def P5{l:List Ty}{k:Int}(h:∀u∈l,MB u):(l.flatMap (Ty.fm k)).length<=l.length*4000:=by
 induction l with
 |nil=>simp
 |cons a r b=>
  have h1:=(h a (by simp)).2;have h2:=qP (k:=k) (t:=a);have h3:=b fun u hu=>h u (by simp[hu])
  simp only[zav,zad,zae];omega
def c395k{l:List Ty}(hl:l.length<=1000000)(h:∀u∈l,MB u):(az AP).i 395 [.pv (.aq (l.map Ty.pv))] [] []=some ([.own ((l.map (Ty.sub (iz 0 (vars l)))).map Ty.pv) 0],[],[l.length]):=by
 have a:=P5 (k:=1) h;refine c395i (S:=l.flatMap (Ty.fm 1)) (by omega) ?_ (by unfold Sm;omega) ?_
 .intro x hx;simp only[zaC]at hx;obtain⟨u,_,hx⟩:=hx;exact cW (nN x hx)
 .intro t ht;refine⟨(h t ht).1.1,(h t ht).1.2.wf,?_⟩;intro x hx;simp only[zaC];exact⟨t,ht,hx⟩
structure Elm(n M:Nat)(s:dS)(c:Sc)(K:Nat)(g:Ty)(vs:List As):Prop where
 inv:Inv n M (e8 IS n) s
 hn:n<=6000
 hm:M<=1000000
 id:c.id=K
 k:K<=100
 ok:c.ty.Ok
 kn:c.ty.Kn KV
 ZW:SW K c.ty
 nO:∀w,gI c.ty w->w∈e8 IS n
 vn:c.ty.Vn
 g:Fit (e8 IS n) g
 fvs:∀x∈vs,Fit (e8 IS n) x.ty
 vl:vs.length<=5000
def c389{n M:Nat}{s:dS}{c:Sc}{K:Nat}{g:Ty}{vs:List As}(E:Elm n M s c K g vs){N:Nat}(hN:N<=10):∃(l1 l2:List Ty)(b:Bool),
   (az AP).p 389 [s.pv,c.pv,g.pv,.aq (vs.map As.pv),vI N]=some [.aq (l1.map Ty.pv),.aq (l2.map Ty.pv),.bool b]/\(∀u∈l1++l2,(MB u/\u.Vn)/\∀D,n=0->vs=[]->yx D g->u.pd z0<=c.ty.pd z0+D+N)/\l1.length<=6000/\l2.length<=N:=by
 have h0:=UC E.inv E.id (by have:=E.hn;have:=E.k;omega) (by have:=E.hm;omega) (g:=g) (p3:=.aq (vs.map As.pv)) (p4:=vI N) K 0 (by omega) (by omega) [] rfl;have I1:=oI E.inv K;have a3:n+K<=6100:=by have:=E.hn;have:=E.k;omega
 have a7:M+K*(2*(n+K)+4)<=5000000:=by
  have:K*(2*(n+K)+4)<=100*12204:=zdb E.k (by omega);have:=E.hm;omega
 have e0:lW s 0=s:=rfl;rw[e0]at h0;have R:([]++(List.range' 0 (K-0)).map fun j=>bO (n+j:Nat))=(List.range K).map fun j=>bO (n+j:Nat):=by rw[zaE,zcI,List.range_eq_range']
 rw[R]at h0
 have C:∀x∈(List.range K).map (fun j=>bO (n+j:Nat)),∃j:Nat,j<K/\x=bO (n+j:Nat):=by
  intro x hx;simp only[zat,List.mem_range]at hx;obtain⟨j,hj,rfl⟩:=hx;exact⟨j,hj,rfl⟩
 have a6:((List.range K).map (fun j=>bO (n+j:Nat))).length=K:=by simp
 generalize (List.range K).map (fun j=>bO (n+j:Nat))=f at*
 have v:∀x∈f,Fit (e8 IS (n+K)) x:=by
  intro x hx;obtain⟨j,hj,rfl⟩:=C x hx;exact qU (eU.2 (by omega))
 have k1:=c48 (s:=f) (by unfold Sm;omega) E.ok;have mono:=yB (p:=IS) (n:=n) (m:=n+K) (by omega)
 have W:Fit (e8 IS (n+K)) (c.ty.ly f):=by
  refine⟨Px (fun x hx=>(v x hx).ok) E.ok,Py E.kn (by simp only[KV,KS];omega) (fun x hx=>(v x hx).wf) (fun y hy hk=>by have:=E.ZW y hy hk;omega),?_,IS.ly (fun x hx=>(v x hx).vn) _ E.vn⟩;intro w Q;rcases SM w Q with h|⟨x,hx,h⟩
  .exact mono w (E.nO w h)
  .exact(v x hx).nO w h
 have T:n=0->∀D,Ht (hF (n+K) D N) D (lW s K).sl:=fun z D=>Hz (fun i x hx=>by
  have:=(zaa.1 hx).1;have:=E.inv.len;omega) UD K
 have I:n=0->∀D,(c.ty.ly f).pd (hF (n+K) D N)<=c.ty.pd z0+(D+N):=fun z D=>HB (fun x hx=>by
  obtain⟨j,_,rfl⟩:=C x hx;rw[Ty.gm,zan (by rfl)];exact WQ _) _ (fun w Q=>by have:=eU.1 (E.nO w Q);omega)
 have X:ZQ IS (n=0) (n+K) N (n+K) (M+K*(2*(n+K)+4)) (lW s K) (c.ty.ly f) (c.ty.ly f) g [] vs:=⟨⟨0,by omega,by simp⟩,T,I1,.nil,W,W,E.g.iy mono,by simp,fun x hx=>(E.fvs x hx).iy mono⟩;generalize c.ty.ly f=w at*;generalize lW s K=s1 at*;have a2:c.pv=.agg [vI c.id,vI c.ty.kind,.str c.ty.name,vI c.ty.id,vI c.ty.home,.aq (c.ty.args.map Ty.pv)]:=rfl;have hK:=E.id;rw[g389L0e]at h0;simp[sC,DH,tC,hK]at h0 k1
 have o:∀r,(az AP).p 389 [s.pv,c.pv,g.pv,.aq (vs.map As.pv),vI N]=some [.aq [],.aq [],.bool false]->r=r->∃(l1 l2:List Ty)(b:Bool),
     (az AP).p 389 [s.pv,c.pv,g.pv,.aq (vs.map As.pv),vI N]=some [.aq (l1.map Ty.pv),.aq (l2.map Ty.pv),.bool b]/\(∀u∈l1++l2,(MB u/\u.Vn)/\∀D,n=0->vs=[]->yx D g->u.pd z0<=c.ty.pd z0+D+N)/\l1.length<=6000/\l2.length<=N:=fun(_:Nat) h _=>⟨[],[],false,h,by simp,by simp,by simp⟩
 rcases UE (vs:=vs) (N:=N) (by omega) N (n+K) _ s1 w [] (by simp) (by simp) X (by omega) (by omega)with⟨q,h1⟩|⟨m,M',G,t2,args,hm,hM,v7,E2,h1⟩
 .refine o 0 ?_ rfl;rw[g389L1e]at h1;simp[mU,nQ,sC,tC]at h1;rw[aw g389];simp[g389,hK,g389L0e,h0,k1,g389L1e,h1]
 .have a1:=E2.inv.len;have L:Sm G.sl:=(by unfold Sm;omega);have k2:=c386 L (t:=t2);have F:=E2.t.wk E2.inv
  change (az AP).p 386 [G.pv,t2.pv]=some [(eT G.sl t2).pv]at k2
  generalize eT G.sl t2=x at*;obtain⟨a,b,cc,k3,_⟩:=c194f F;rw[g389L1e]at h1;simp[mU,sC,tC]at h1 k2 k3;cases cc with
  |true=>
   refine o 0 ?_ rfl;rw[aw g389];simp[g389,hK,g389L0e,h0,k1,g389L1e,h1,k2,k3]
  |false=>
   have Z:∀w∈e8 IS m,w<m:=fun w h=>(eU.1 h).2;obtain⟨s3,k4,I3,X3,H3⟩:=c394 (WL (by omega) (by omega)) Z E2.inv F;obtain⟨s4,k5,I4,X4,H4⟩:=c394 (WL (by omega) (by omega)) Z I3 E2.g;obtain⟨s5,e,k6,I5,X5,H5⟩:=c385h (WL (by omega) (by omega)) I4 F E2.g;have B:Sm s5.sl:=by unfold Sm;rw[I5.len];omega
   obtain⟨r,k7,_,_,S⟩:=c355 B I5.ok (m:=200) (by omega) E2.w.ok;simp at k4 k5 k6 k7;by_cases he:e=0
   .subst he;by_cases hr:(200:Int)<r
    .refine o 0 ?_ rfl;rw[aw g389];simp[g389,hK,g389L0e,h0,k1,g389L1e,h1,k2,k3,k4,k5,k6,k7,hr]
    .rcases UF I5 (by omega) (vs:=vs) (by have:=E.vl;omega) E2.vs (args:=args) _ 0 rfl (by omega) [] rfl (by simp)with⟨q,h2⟩|⟨us,A,J,h2⟩
     .refine o 0 ?_ rfl;rw[g389L2e]at h2;simp[nQ,sC]at h2;rw[aw g389];simp[g389,hK,g389L0e,h0,k1,g389L1e,h1,k2,k3,k4,k5,k6,k7,hr,g389L2e,h2]
     .obtain⟨d,g1,g2,g3,h3⟩:=UG I5 (by omega) (p3:=.aq (vs.map As.pv)) (args:=args) (by omega) (fun x hx=>⟨E2.args x hx,by
       have hw:=S (by omega);obtain⟨r',h1,h2⟩:=((E2.sp.ext ((X3.trans X4).trans X5) I5.Ea).tr hw).1 x hx;exact⟨r',by omega,h2⟩⟩) (P:=fun u=>∀D,n=0->vs=[]->yx D g->u.pd z0<=c.ty.pd z0+D+N) (fun x hx u hu D n0 _ gd=>by
       have h5:=H5 _ D gd (H4 _ D (H3 _ D (E2.tP n0 D)));have h6:=hu _ D h5;have h7:=((E2.sp.ext ((X3.trans X4).trans X5) I5.Ea).pd h5).1 x hx;have h8:=I n0 D;omega) (V:=vs.length) _ 0 rfl (by omega) us (by omega) (by have:=E.vl;omega) (fun u hu=>⟨J u hu,fun D _ H _=>by
       rw[H]at A;rw[zaR.1 A]at hu;simp at hu⟩)
      have a0:=E.vl;have k8:=c395k (l:=d) (by omega) fun u hu=>(g2 u hu).1.1
      have a4:(d.map (Ty.sub (iz 0 (vars d)))).length=d.length:=by simp
      have O:∀u∈d.map (Ty.sub (iz 0 (vars d))),(MB u/\u.Vn)/\∀D,n=0->vs=[]->yx D g->u.pd z0<=c.ty.pd z0+D+N:=by
       intro u hu;simp only[zat]at hu;obtain⟨y,hy,rfl⟩:=hu;exact⟨⟨SY (g2 y hy).1.1,IS.sub (fun i x h=>by obtain⟨k,rfl⟩:=uu h;exact P4 _) _ (g2 y hy).1.2⟩,fun D n0 H gd=>za9 (AI (fun i x h=>by obtain⟨k,rfl⟩:=uu h;rw[Ty.gm,zan (by rfl)];rfl) y) ((g2 y hy).2 D n0 H gd)⟩
      generalize d.map (Ty.sub (iz 0 (vars d)))=l at*;refine⟨l.take vs.length,l.drop vs.length,true,?_,by rw[zbS];exact O,by simp;omega,by simp;omega⟩;have Y:=Zm (sz:=5) (τ:=2) (l:=l.map Ty.pv) (k:=.i64) (h:=(vs.length:Int)) (by omega) (by simp;omega);have U:=UH (sz:=5) (τ:=2) (l:=l.map Ty.pv) (k:=.i64) (h:=(vs.length:Int)) (by omega) (by simp;omega) (C7.head l);rw[g389L2e]at h2;rw[g389L3e]at h3;simp[sC]at h2 h3;simp at k8 Y U;rw[aw g389];simp[g389,hK,g389L0e,h0,k1,g389L1e,h1,k2,k3,k4,k5,k6,k7,hr,g389L2e,h2,g389L3e,h3,k8,Y,U]
   .refine o 0 ?_ rfl;rw[aw g389];simp[g389,hK,g389L0e,h0,k1,g389L1e,h1,k2,k3,k4,k5,k6,he]
structure Hd where
 name:bj
 cv:Bool
 args:List Ty
 types:List Ty
def Hd.pv(h:Hd):PV:=.agg [.str h.name,.bool h.cv,.aq (h.args.map Ty.pv),.aq (h.types.map Ty.pv)]
@[simp] theorem Hd.kS(h:Hd):h.pv=.agg [.str h.name,.bool h.cv,.aq (h.args.map Ty.pv),.aq (h.types.map Ty.pv)]:=rfl
def P6:El Hd.pv 4 true:=⟨fun _=>rfl,fun _=>rfl⟩
@[simp] theorem XU{l:List Hd}:bl 4 (l.map Hd.pv)=true:=P6.head l
def wE(B:Nat)(h:Hd):Prop:=h.args.length<=3/\(∀u∈h.args,MB u/\u.Vn)/\tE h.cv h.name/\∀u∈h.args,u.pd z0<=B
def hC(nm:bj)(cn:Bool):List AV:=[.pv (.str nm),.pv (.bool cn),.pv (.aq []),.pv (.aq [])]
def WS{n M:Nat}{s:dS}{c:Sc}{K:Nat}{g:Ty}{vs:List As}(E:Elm n M s c K g vs){nm:bj}{cn:Bool}(j:tE cn nm){B D:Nat}(q:n=0/\vs=[]/\yx D g/\c.ty.pd z0+D+3<=B):∀(k i:Nat),4-i=k->i<=4->∀acc:List Hd,acc.length<=i->(∀h∈acc,wE B h)->
   ∃hs:List Hd,hs.length<=4/\(∀h∈hs,wE B h)/\cl AP g378L0 ⟨[(3,.pv (.aq (vs.map As.pv))),(4,.pv (vI 3)),(6,.au 6 0),(7,.au 7 0),(8,.au 8 0),(11,.au 11 0),(13,.own (acc.map Hd.pv) 0),(14,.pv (vI i))],[(6,sC s),(7,DH c),(8,tC g),(11,hC nm cn)],[],[acc.length]⟩=
     some (.exit 0,⟨[(3,.pv (.aq (vs.map As.pv))),(4,.pv (vI 3)),(6,.au 6 0),(7,.au 7 0),(8,.au 8 0),(11,.au 11 0),(13,.own (hs.map Hd.pv) 0),(14,.pv (vI 4)),(21,.pv (.bool false))],[(6,sC s),(7,DH c),(8,tC g),(11,hC nm cn)],[],[hs.length]⟩)
 |0,i,x,hi,acc,v,r=>by
  have:i=4:=by omega
  subst this;refine⟨acc,v,r,?_⟩;rw[g378L0e];simp[g378B0,sC,DH,tC,hC]
 |k+1,i,x,hi,acc,v,r=>by
  have hi:i<4:=(by omega);have d:(i:Int)<=3:=(by omega);obtain⟨l1,l2,b,e,w,y,n2⟩:=c389 E (N:=i) (by omega);simp at e;cases b with
  |false=>
   obtain⟨hs,h1,h2,a⟩:=WS E (nm:=nm) j q k (i+1) (by omega) (by omega) acc (by omega) r;refine⟨hs,h1,h2,?_⟩;rw[g378L0e]at a ⊢;simp[sC,DH,tC,hC]at a;simp(disch:=omega)[-getElem?_pos,g378B0,sC,DH,tC,hC,d,e,ae];rw[g378L0e];simp[a]
  |true=>
   have p:l1.length*64<=140737488355328:=(by omega);have o:l2.length*64<=140737488355328:=(by omega);have f:(acc.length+1)*72<=140737488355328:=(by omega);have m:=C7.head l1;have l:=C7.head l2
   obtain⟨hs,h1,h2,a⟩:=WS E (nm:=nm) j q k (i+1) (by omega) (by omega) (acc++[⟨nm,cn,l2,l1⟩]) (by simp;omega) (by
    intro h t;simp at t;rcases t with t|rfl
    .exact r h t
    .exact⟨by simp only;omega,fun u hu=>(w u (by simp[hu])).1,j,fun u hu=>by have:=(w u (by simp[hu])).2 D q.1 q.2.1 q.2.2.1;omega⟩)
   refine⟨hs,h1,h2,?_⟩;rw[g378L0e]at a ⊢;simp[sC,DH,tC,hC]at a;by_cases z1:l1=[]
   .by_cases z2:l2=[]
    .subst z1;subst z2;simp at e a;simp(disch:=omega)[-getElem?_pos,g378B0,sC,DH,tC,hC,d,e,ae,f];rw[g378L0e];simp[a]
    .subst z1;simp at e a;simp(disch:=omega)[-getElem?_pos,g378B0,sC,DH,tC,hC,d,e,ae,o,f,l,z2];rw[g378L0e];simp[a]
   .by_cases z2:l2=[]
    .subst z2;simp at e a;simp(disch:=omega)[-getElem?_pos,g378B0,sC,DH,tC,hC,d,e,ae,p,f,m,z1];rw[g378L0e];simp[a]
    .simp(disch:=omega)[-getElem?_pos,g378B0,sC,DH,tC,hC,d,e,ae,p,o,f,m,l,z1,z2];rw[g378L0e];simp[a]
def c378{n M:Nat}{s:dS}{c:Sc}{K:Nat}{g:Ty}{vs:List As}(E:Elm n M s c K g vs){nm:bj}{cn:Bool}(a:tE cn nm){B D:Nat}(b:n=0/\vs=[]/\yx D g/\c.ty.pd z0+D+3<=B):∃hs:List Hd,hs.length<=4/\(∀h∈hs,wE B h)/\
   (az AP).p 378 [s.pv,c.pv,g.pv,.aq (vs.map As.pv),vI 3,.agg [.str nm,.bool cn,.aq [],.aq []]]=some [.aq (hs.map Hd.pv)]:=by
 obtain⟨hs,h1,h2,e⟩:=WS E (nm:=nm) a b _ 0 rfl (by omega) [] (by simp) (by simp);refine⟨hs,h1,h2,?_⟩;rw[aw g378];rw[g378L0e]at e;simp[sC,DH,tC,hC]at e;simp[g378,g378L0e,e]
def MD{t:Ty}:∀y∈t.args,∀v∈y.nodes,v∈t.nodes:=by
 intro y hy v hv;rw[Ty.aL];simp only[zau,zaC];exact .inr ⟨y,hy,hv⟩
def Kn.DO{K:Int->Prop}(t:Ty):(∀y∈t.nodes,(y.kind≠4->K y.kind/\y.args=[])/\y.name.length<=100)->t.Kn K:=by
 refine Ty.cD (p:=fun t=>(∀y∈t.nodes,(y.kind≠4->K y.kind/\y.args=[])/\y.name.length<=100)->t.Kn K) ?_ t;intro t a h;refine .mk (h t (by rw[Ty.aL];simp)).1 (h t (by rw[Ty.aL];simp)).2 fun x hx=>a x hx fun y hy=>h y (MD x hx y hy)
def tF(t:Ty):(∀y∈t.nodes,y.args.length<=100)->t.Ok:=by
 refine Ty.cD (p:=fun t=>(∀y∈t.nodes,y.args.length<=100)->t.Ok) ?_ t;intro t a h;refine .mk (by have:=h t (by rw[Ty.aL];simp);unfold Sm;omega) fun x hx=>a x hx fun y hy=>h y (MD x hx y hy)
def wF{K:Int->Prop}{t:Ty}{w:Int}(h:gI t w):t.Kn K->¬K 1->False:=by
 induction h with
 | @var t q=>intro a h1;have:=(a.hd (by rw[q];decide)).1;rw[q]at this;exact h1 this
 |arg _ c _ b=>intro a h1;exact b (a.kd _ c) h1
structure bL(t:Ty):Prop where
 ok:t.Ok
 kn:t.Kn KG
 vn:t.Vn
structure m5(c:Sc):Prop where
 ok:c.ty.Ok
 kn:c.ty.Kn KC
 ZW:∃K:Nat,c.id=K/\K<=100/\SW K c.ty
def bL.aaV{S:Sg}{t:Ty}(h:bL t)(hv:S.p.v t):Fit S t:=⟨h.ok,h.kn.imp Ud,fun _ a=>(wF a h.kn (by simp)).elim,hv⟩
def bL.d6{t:Ty}(h:bL t):∀x∈t.args,bL x:=fun x hx=>⟨h.ok.d6 x hx,h.kn.kd x hx,h.vn.d6 x hx⟩
def m5.elm{c:Sc}(h:m5 c)(hv:c.ty.Vn){g:Ty}(a:bL g):∃K,Elm 0 0 (wS 0) c K g []:=by
 obtain⟨K,h1,h2,h3⟩:=h.ZW;exact⟨K,⟨AG 0,by omega,by omega,h1,h2,h.ok,h.kn.imp Zd,h3,fun _ b=>(wF b h.kn (by simp)).elim,hv,a.aaV a.vn,by simp,by simp⟩⟩
def bL.mono{t:Ty}(h:bL t):m5 ⟨0,t⟩:=⟨h.ok,h.kn.imp Zc,0,rfl,by omega,fun y hy a=>by have:=(h.kn.nodes y hy (by rw[a];decide)).1;rw[a]at this;simp at this⟩
def bL.DP{t:Ty}(h:bL t):∀w,¬gI t w:=fun _ a=>wF a h.kn (by simp)
def ZX{t:Ty}:(∀w,¬gI t w)->Gr t:=by
 refine Ty.cD (p:=fun t=>(∀w,¬gI t w)->Gr t) ?_ t;intro t a h;have k:¬t.kind=1:=fun k=>h _ (.var k)
 exact .mk k fun x hx=>a x hx fun w b=>h w (.arg k hx b)
def bL.grd{t:Ty}(h:bL t){D:Nat}(hd:t.pd z0<=D):yx D t:=⟨ZX h.DP,fun ht=>by rw[PZ t fun w a=>(h.DP w a).elim];exact hd⟩
def nR:bK.Vn:=by decide
def uv:bL bK:=⟨cW rfl,.bare rfl (by simp[bK]) (by simp[bK]),nR⟩
def SZ(c:Sc):Bool:=c.ty.nodes.all fun y=>(decide (y.args.length<=100) && decide (y.name.length<=100)) && (decide (y.kind=4)|| (decide (y.kind=0)|| decide (y.kind=2)|| decide (y.kind=3)) && decide (y.args.length=0)) && (decide (y.kind≠2)|| decide (0<=y.id) && decide (y.id<c.id))
def AN{c:Sc}{K:Nat}(hc:c.id=K)(hK:K<=100)(h:SZ c=true):m5 c:=by
 simp only[SZ,zaq,zah,zbs,za5]at h;refine⟨tF _ fun y hy=>(h y hy).1.1.1,Kn.DO _ fun y hy=>⟨fun a=>?_,(h y hy).1.1.2⟩,K,hc,hK,fun y hy a=>?_⟩
 .rcases(h y hy).1.2 with q|⟨q,b⟩
  .exact absurd q a
  .exact⟨by simp only[KC];omega,zaR.1 b⟩
 .rcases(h y hy).2 with q|q
  .exact absurd a q
  .omega
def S4:∀d∈bf,d.params.length<=100/\∀c∈d.cons,SZ ⟨d.params.length,xn d.params c.fields (DF d)⟩=true:=by decide +kernel
def P7{s:bj}:∀{ds:List Dt}{n i:Nat}{d:Dt}{c:cd},ds[i]?=some d->c∈d.cons->c.name=s->∃q,ix ds s n=some q:=by
 intro ds;induction ds with
 |nil=>intro n i d c h;simp at h
 |cons a r b=>
  intro n i d c h hc hs;unfold ix;split
  .exact⟨_,rfl⟩
  .cases i with
   |zero=>
    simp at h;subst h;rename_i hn;exfalso;have:=iM.1 hn c hc;simp[hs]at this
   |succ i=>exact b (by simpa using h) hc hs
def sk:∀d∈bf,∀c∈d.cons,(xn d.params c.fields (DF d)).Vn/\(∀f∈c.fields,(f.kE d.params).Vn)/\tE true c.name:=by decide +kernel
def P8{ds:List Dt}(h:∀d∈ds,d∈bf){d:Dt}{I:Nat}(hd:ds[I]?=some d){c:cd}{i:Nat}(hc:d.cons[i]?=some c):((kX ds c.name).getD lx).ty.Vn:=by
 obtain⟨q,g⟩:=P7 (n:=0) hd (aK hc) rfl;obtain⟨_,f,c',a,b,_⟩:=uk g;simp only[zcI]at a
 have e:kX ds c.name=some ⟨f.params.length,xn f.params c'.fields (DF f)⟩:=by
  simp only[kX,g,zbg,a,b,zaT]
 rw[e];exact(sk f (h f (aK a)) c' (aK b)).1
def ME{ds:List Dt}(b:∀d∈ds,d∈bf){s:bj}:m5 ((kX ds s).getD lx):=by
 cases e:kX ds s with
 |none=>exact⟨cW rfl,.bare rfl (by simp[lx]) (by simp[lx]),0,rfl,by omega,by intro y hy a;simp[lx,Ty.aL]at hy;rw[hy]at a;simp at a⟩
 |some sc=>
  simp only[kX,zaF,zac]at e;obtain⟨q,_,d,hd,c,hc,rfl⟩:=e;obtain⟨h1,h2⟩:=S4 d (b d (aK hd));exact AN (K:=d.params.length) rfl h1 (h2 c (aK hc))
def ep:∀d∈bf,d.params.length<=8/\d.cons.length<=8/\∀c∈d.cons,c.fields.length<=8/\∀x∈c.fields,x.nodes.all (fun y=>(decide (y.args.length<=100) && decide (y.name.length<=100)) && (decide (y.kind=4)|| decide (y.kind=5) && decide (y.args.length=0)))=true:=by decide +kernel
def P9:∀d∈bf,∀c∈d.cons,(xn d.params c.fields (DF d)).pd z0<=4/\∀f∈c.fields,(f.kE d.params).pd z0<=4:=by decide +kernel
def P_{ds:List Dt}(a:∀d∈ds,d∈bf){s:bj}:((kX ds s).getD lx).ty.pd z0<=4:=by
 cases e:kX ds s with
 |none=>decide
 |some sc=>
  simp only[kX,zaF,zac]at e;obtain⟨q,_,d,hd,c,hc,rfl⟩:=e;exact(P9 d (a d (aK hd)) c (aK hc)).1
def P':∀d∈bf,d.cons.length<=3:=by decide +kernel
def IT{d:Dt}(hd:d∈bf):∀c∈d.cons,Sm c.fields/\(∀x∈c.fields,x.Ok)/\∀x∈c.fields,x.Kn (·=5):=by
 intro c hc;obtain⟨_,_,h⟩:=ep d hd;obtain⟨h1,h2⟩:=h c hc;simp only[zaq,zah,zbs,za5]at h2;refine⟨by unfold Sm;omega,fun x hx=>tF _ fun y hy=>(h2 x hx y hy).1.1,fun x hx=>Kn.DO _ fun y hy=>⟨fun b=>?_,(h2 x hx y hy).1.2⟩⟩;rcases(h2 x hx y hy).2 with q|⟨q,a⟩
 .exact absurd q b
 .exact⟨q,zaR.1 a⟩
def nT:∀d∈bf,d.name.length<=100/\∀c∈d.cons,c.name.length<=100:=by decide +kernel
structure oJ(ds:List Dt):Prop where
 all:∀d∈ds,d∈bf
 len:ds.length<=8
def oJ.c193{ds:List Dt}(h:oJ ds){s:bj}:(az AP).p 193 [.aq (ds.map Dt.pv),.str s]=some (Sa (kX ds s)):=
 Lw.c193 (by have:=h.len;unfold Sm;omega) (fun d hd=>by have:=(ep d (h.all d hd)).2.1;unfold Sm;omega) (fun d hd=>by have:=(ep d (h.all d hd)).1;unfold Sm;omega) (fun d hd c hc=>by
  obtain⟨a,b,c2⟩:=IT (h.all d hd) c hc;exact⟨a,b,fun x hx=>(c2 x hx).cw⟩)
theorem S5{l:List Ty}(h:∀t∈l,∃K:Int->Prop,t.Kn K/\¬K 1):vars l=[]:=by
 have:∀y∈l.flatMap Ty.nodes,y.kind≠1:=by
  intro y hy b;simp only[zaC]at hy;obtain⟨t,ht,hy⟩:=hy;obtain⟨K,hK,h1⟩:=h t ht;have:=(hK.nodes y hy (by rw[b];decide)).1;rw[b]at this;exact h1 this
 unfold vars;generalize l.flatMap Ty.nodes=m at*;induction m with
 |nil=>rfl
 |cons a r c=>
  have:eR [] a=[]:=by simp[eR,this a (by simp)]
  rw[zaS,this];exact c fun y hy=>by rename_i h2;exact h2 y (by simp[hy])
def Qa{k:Int}{t:Ty}:∀y∈t.fm k,y∈t.nodes/\y.kind=k:=by
 refine Ty.cD (p:=fun t=>∀y∈t.fm k,y∈t.nodes/\y.kind=k) ?_ t;intro t c y hy;rw[Ty.nH]at hy;rw[Ty.aL];split at hy
 .rename_i q;simp at hy;subst hy;exact⟨by simp,q.1⟩
 .simp only[zaC]at hy;obtain⟨a,b,hy⟩:=hy;have:=c a b y hy;exact⟨by simp only[zau,zaC];exact .inr ⟨a,b,this.1⟩,this.2⟩
def IU{K:Int->Prop}{t:Ty}(h:t.Kn K)(h1:¬K 1)(c:t.Ok):Good [] t:=⟨c,h.wf,by
 intro y hy;obtain⟨a,b⟩:=Qa y hy;have:=(h.nodes y a (by rw[b];decide)).1;rw[b]at this;exact absurd this h1⟩
def DQ(t:Ty):t.sub []=t:=by
 refine Ty.cD (p:=fun t=>t.sub []=t) ?_ t;intro t a;rw[Ty.sub_eq];split
 .simp[ll]
 .have:t.args.map (Ty.sub [])=t.args:=by
   conv=>rhs;rw[<-List.map_id t.args]
   exact zcy fun x hx=>by simpa using a x hx
  rw[this];cases t;rfl
def A7:List AV:=[.pv (.aq []),.pv (.aq [])]
def UL{g:Ty}(j:bL g){D:Nat}(Mb:g.pd z0<=D){ds:List Dt}{E:List En}(c:∀x∈E,x.sc.ty.pd z0<=D)(m:Sm E)(hc:∀x∈E,m5 x.sc)(d:∀x∈E,x.sc.ty.Vn)(b:∀x∈E,tE false x.name){T:Nat}(hT:T<=1000000):∀(n i:Nat),E.length-i=n->i<=E.length->∀acc:List Hd,acc.length+4*n<=T->(∀h∈acc,wE (2*D+3) h)->
   ∃hs:List Hd,hs.length<=T/\(∀h∈hs,wE (2*D+3) h)/\cl AP g362L0 ⟨[(0,.pv (.aq (ds.map Dt.pv))),(4,.pv (vI 3)),(14,.au 14 0),(15,.pv (.aq [])),(16,.au 16 0),(17,.own (acc.map Hd.pv) 0),(18,.pv (.aq (E.map En.pv))),(19,.pv (vI i))],[(14,A7),(16,tC g)],[],[acc.length]⟩=
     some (.exit 0,⟨[(0,.pv (.aq (ds.map Dt.pv))),(4,.pv (vI 3)),(14,.au 14 0),(15,.pv (.aq [])),(16,.au 16 0),(17,.own (hs.map Hd.pv) 0),(18,.pv (.aq (E.map En.pv))),(19,.pv (vI E.length)),(51,.pv (.bool false))],[(14,A7),(16,tC g)],[],[hs.length]⟩)
 |0,i,hn,hi,acc,q,f=>by
  have:i=E.length:=by omega
  subst this;refine⟨acc,by omega,f,?_⟩;rw[g362L0e];simp[g362B0,A7,tC]
 |n+1,i,hn,hi,acc,q,f=>by
  have hi:i<E.length:=(by omega);obtain⟨x,hx⟩:=aQ hi;have hs:=hc x (aK hx);obtain⟨K,El⟩:=hs.elm (d x (aK hx)) j;obtain⟨l,r,o,k2⟩:=c378 El (nm:=x.name) (cn:=false) (b x (aK hx)) (B:=2*D+3) ⟨rfl,rfl,j.grd Mb,by have:=c x (aK hx);omega⟩;have k1:=c377 (s:=[]) (by simp[Sm]) hs.ok;rw[DQ]at k1
  obtain⟨hs,h1,h2,e⟩:=UL j Mb (ds:=ds) c m hc d b hT n (i+1) (by omega) (by omega) (acc++l) (by simp;omega) (by
   intro h a;simp at a;rcases a with a|a
   .exact f h a
   .exact o h a)
  refine⟨hs,h1,h2,?_⟩;unfold Sm at m;have p:(acc.length+l.length)*72<=140737488355328:=by omega
  have k:acc.length*72<=140737488355328:=(by omega);have a:=P6.head l;rw[g362L0e]at e ⊢;simp[A7,tC]at e;simp[wS]at k1 k2 a;by_cases z:l=[]
  .subst z;simp at k2 e;simp(disch:=omega)[-getElem?_pos,g362B0,A7,tC,hx,hi,k1,k2,k,ae];rw[g362L0e];simp[e]
  .simp(disch:=omega)[-getElem?_pos,g362B0,A7,tC,hx,hi,k1,k2,p,a,z,ae];rw[g362L0e];simp[e]
def UM{g:Ty}(o:bL g){D:Nat}(Mb:g.pd z0<=D)(q:4<=D){ds:List Dt}(b:oJ ds){I:Nat}{d:Dt}(hd:ds[I]?=some d){T:Nat}(hT:T<=1000000):∀(n i:Nat),d.cons.length-i=n->i<=d.cons.length->∀acc:List Hd,acc.length+4*n<=T->(∀h∈acc,wE (2*D+3) h)->
   ∃hs:List Hd,hs.length<=T/\(∀h∈hs,wE (2*D+3) h)/\cl AP g362L2 ⟨[(0,.pv (.aq (ds.map Dt.pv))),(4,.pv (vI 3)),(14,.au 14 0),(15,.pv (.aq [])),(16,.au 16 0),(17,.own (acc.map Hd.pv) 0),(21,.pv (vI I)),(22,.pv (vI i))],[(14,A7),(16,tC g)],[],[acc.length]⟩=
     some (.exit 4,⟨[(0,.pv (.aq (ds.map Dt.pv))),(4,.pv (vI 3)),(14,.au 14 0),(15,.pv (.aq [])),(16,.au 16 0),(17,.own (hs.map Hd.pv) 0),(21,.pv (vI I)),(22,.pv (vI d.cons.length)),(88,.pv (.bool false))],[(14,A7),(16,tC g)],[],[hs.length]⟩)
 |0,i,hn,hi,acc,w,m=>by
  have:i=d.cons.length:=by omega
  subst this;refine⟨acc,by omega,m,?_⟩;have f:=(zaa.1 hd).1;rw[g362L2e];simp[-getElem?_pos,g362B2,A7,tC,hd,f]
 |n+1,i,hn,hi,acc,w,m=>by
  have hi:i<d.cons.length:=(by omega);have f:=(zaa.1 hd).1;obtain⟨c,hc⟩:=aQ hi;have k1:=b.c193 (s:=c.name);have hs:=ME b.all (s:=c.name);have j:=P8 b.all hd hc;have t:=P_ b.all (s:=c.name);have u:=(ep d (b.all d (aK hd))).2.1;generalize k:(kX ds c.name).getD lx=sc at*;obtain⟨K,El⟩:=hs.elm j o;obtain⟨l,x,r,k2⟩:=c378 El (nm:=c.name) (cn:=true) (sk d (b.all d (aK hd)) c (aK hc)).2.2 (B:=2*D+3) ⟨rfl,rfl,o.grd Mb,by omega⟩
  obtain⟨hs,h1,h2,e⟩:=UM o Mb q b hd hT n (i+1) (by omega) (by omega) (acc++l) (by simp;omega) (by
   intro h a;simp at a;rcases a with a|a
   .exact m h a
   .exact r h a)
  refine⟨hs,h1,h2,?_⟩;have v:(acc.length+l.length)*72<=140737488355328:=by omega
  have p:acc.length*72<=140737488355328:=(by omega);have a:=P6.head l;rw[g362L2e]at e ⊢;simp[A7,tC]at e;simp[wS]at k2 a;simp[Sa,k]at k1;by_cases z:l=[]
  .subst z;simp at k2 e;simp(disch:=omega)[-getElem?_pos,g362B2,A7,tC,hd,f,hc,hi,k1,k2,p,ae];rw[g362L2e];simp[e]
  .simp(disch:=omega)[-getElem?_pos,g362B2,A7,tC,hd,f,hc,hi,k1,k2,v,a,z,ae];rw[g362L2e];simp[e]
def UN{g:Ty}(j:bL g){D:Nat}(Mb:g.pd z0<=D)(a:4<=D){ds:List Dt}(b:oJ ds){T:Nat}(hT:T<=1000000):∀(n i:Nat),ds.length-i=n->i<=ds.length->∀acc:List Hd,acc.length+32*n<=T->(∀h∈acc,wE (2*D+3) h)->
   ∃hs:List Hd,hs.length<=T/\(∀h∈hs,wE (2*D+3) h)/\cl AP g362L1 ⟨[(0,.pv (.aq (ds.map Dt.pv))),(4,.pv (vI 3)),(14,.au 14 0),(15,.pv (.aq [])),(16,.au 16 0),(17,.own (acc.map Hd.pv) 0),(21,.pv (vI i))],[(14,A7),(16,tC g)],[],[acc.length]⟩=
     some (.exit 2,⟨[(0,.pv (.aq (ds.map Dt.pv))),(4,.pv (vI 3)),(14,.au 14 0),(15,.pv (.aq [])),(16,.au 16 0),(17,.own (hs.map Hd.pv) 0),(21,.pv (vI ds.length)),(78,.pv (.bool false))],[(14,A7),(16,tC g)],[],[hs.length]⟩)
 |0,i,hn,hi,acc,o,c=>by
  have:i=ds.length:=by omega
  subst this;refine⟨acc,by omega,c,?_⟩;rw[g362L1e];simp[g362B1,A7,tC]
 |n+1,i,hn,hi,acc,o,c=>by
  have hi:i<ds.length:=(by omega);obtain⟨d,hd⟩:=aQ hi;have m:=(ep d (b.all d (aK hd))).2.1;obtain⟨l,p,k,e⟩:=UM j Mb a b hd (T:=acc.length+32) (by omega) _ 0 rfl (by omega) acc (by omega) c;obtain⟨hs,h1,h2,f⟩:=UN j Mb a b hT n (i+1) (by omega) (by omega) l (by omega) k;refine⟨hs,h1,h2,?_⟩;have hl:=b.len;rw[g362L1e]at f ⊢;rw[g362L2e]at e;simp[A7,tC]at f e;simp(disch:=omega)[-getElem?_pos,g362B1,A7,tC,hd,hi,ae];rw[g362L2e];simp(disch:=omega)[e,ae];rw[g362L1e];simp[f]
def c362{g:Ty}(e:bL g){D:Nat}(Mb:g.pd z0<=D)(m:4<=D){ds:List Dt}(n:oJ ds){l:List En}(j:∀x∈l,x.sc.ty.pd z0<=D)(hl:l.length<=10000)(hc:∀x∈l,m5 x.sc)(k:∀x∈l,x.sc.ty.Vn)(i:∀x∈l,tE false x.name):∃hs:List Hd,hs.length<=100000/\(∀h∈hs,wE (2*D+3) h)/\
   (az AP).p 362 [.aq (ds.map Dt.pv),.aq (l.map En.pv),g.pv,.aq [],vI 3]=some [.aq (hs.map Hd.pv)]:=by
 obtain⟨a,b,c,k1,_⟩:=c194g e.ok;have q:=n.len;cases c with
 |true=>
  refine⟨[],by simp,by simp,?_⟩;simp at k1;rw[aw g362];simp[g362,k1]
 |false=>
  have d:∀x∈dD l,m5 x.sc:=fun x hx=>hc x (ki l x hx);have o:=wm l
  obtain⟨vs,hv,_,k2⟩:=c376 (S:=[]) (by simp) (by simp) (IU e.kn (by simp) e.ok) (l:=l) (by unfold Sm;omega) (by omega) (fun x hx=>IU (hc x hx).kn (by simp) (hc x hx).ok)
  have f:vs=[]:=by
   rw[hv];refine S5 ?_;intro t ht;simp only[zau,zat]at ht;rcases ht with rfl|⟨x,hx,rfl⟩
   .exact⟨KG,e.kn,by simp⟩
   .exact⟨KC,(d x hx).kn,by simp⟩
  subst f;have k3:=c46 (s:=[]) (by simp[Sm]) e.ok;rw[DQ]at k3;have k4:=c201 (l:=l) (by unfold Sm;omega);obtain⟨o1,u,r,h1⟩:=UL e Mb (ds:=ds) (E:=dD l) (fun x hx=>j x (ki l x hx)) (by unfold Sm;omega) d (fun x hx=>k x (ki l x hx)) (fun x hx=>i x (ki l x hx)) (T:=40000) (by omega) _ 0 rfl (by omega) [] (by simp;omega) (by simp);obtain⟨o2,b1,b2,h2⟩:=UN e Mb m n (T:=100000) (by omega) _ 0 rfl (by omega) o1 (by omega) r;refine⟨o2,b1,b2,?_⟩;rw[g362L0e]at h1;rw[g362L1e]at h2;generalize dD l=E at*;simp[A7,tC]at h1 h2;simp at k1 k3 k4;simp[wS,iz]at k2;rw[aw g362];simp[g362,k1,k2,k3,k4,g362L0e,h1,g362L1e,h2]
end Go.Ab.Lw
