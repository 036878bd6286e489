import Derived.Test.YtkiihoaaloiffaaGreatDoorLibC
/- What functions of the given program answer, told of their slim code on the abstract machine. -/
set_option linter.defProp false
set_option linter.unusedVariables false
set_option linter.unusedSimpArgs false
set_option linter.unnecessarySimpa false
set_option maxRecDepth 100000
set_option maxHeartbeats 8000000
namespace Go.Ab
def zc7:=@Int.le_refl
end Go.Ab
namespace Go.Ab.Lw
open Ev
theorem nX{sh:Sh}{d o:Nat}:gr sh (.au d o)=none:=rfl
def Bd.rp(b:Bd)(r:Ex):Bd:=⟨0,b.rc,b.name,b.sg,b.sig,r⟩
def pZ:PV:=.agg [.aq [],.aq []]
def eG(bs:List Bd)(i:Nat)(b:Bd)(p:List Int)(x:Ex):List Bd:=(bs.map Bd.strip).set i (b.rp (Ex.cC x.strip p b.body.strip).1)
noncomputable def l0(ds:List Dt)(T:List Bd->bj)(bs:List Bd)(h:Int)(x:Ex):List PV:=match(if h<0 then none else dh 0 bs h)with
 |none=>[pZ,vI 16]
 |some (i,p)=>match bs[i]? with
  |none=>[]
  |some b=>if x.lH=false then[pZ,vI 17]else if ¬(x.aI ds (dE (sD bs i b p))).1=0 then[pZ,vI (x.aI ds (dE (sD bs i b p))).1]
    else if 40<(Ex.cC x.strip p b.body.strip).1.dp then[pZ,vI 4]else if x.yq=true then[pZ,vI 4]
    else if 4000<(T (eG bs i b p x)).length then[pZ,vI 1]
    else [.agg [.aq ((ds.map Dt.strip).map Dt.pv),.aq ((eG bs i b p x).map Bd.pv)],vI 0]
structure AY(ds:List Dt)(T:List Bd->bj)(bs:List Bd)(h:Int)(x:Ex):Prop where
 d:∀d∈ds,d.cons≠[]/\d.cons.length<=1000
 dl:ds.length<=1000
 b:Xk bs
 h1:h<=9223372036854775807
 sc:r_ x
 nm:x.pW
 tn:x.Tn
 hl:∃n,x.oZ n/\∀(i:Nat)(b:Bd)(p:List Int),bs[i]?=some b->p∈b.body.hl->(dE (sD bs i b p)).length+1000*n<=900000000
 ok:∀(i:Nat)(b:Bd)(p:List Int),bs[i]?=some b->p∈b.body.hl->(Ex.cC x.strip p b.body.strip).1.Ok/\(Ex.cC x.strip p b.body.strip).1.sz<=100000000
 tx:∀(i:Nat)(b:Bd)(p:List Int),bs[i]?=some b->p∈b.body.hl->(az AP).p 311 [.agg [.aq ((ds.map Dt.strip).map Dt.pv),.aq ((eG bs i b p x).map Bd.pv)]]=some [.str (T (eG bs i b p x))]/\(T (eG bs i b p x)).length<=130000000000000
def c536{ds:List Dt}{T:List Bd->bj}{bs:List Bd}{h:Int}{x:Ex}(H:AY ds T bs h x):
   (az AP).p 536 [.agg [.aq (ds.map Dt.pv),.aq (bs.map Bd.pv)],vI h,x.pv]=some (l0 ds T bs h x):=by
 have k1:=c532 (ds:=ds) H.b H.h1;have k4:=c530 (ds:=ds) H.b.h H.h1;unfold l0;unfold nW at k1;rw[aw g536];cases hf:(if h<0 then none else dh 0 bs h)with
 |none=>
  rw[hf]at k1;simp at k1;simp[g536,pZ,k1]
 |some r=>
  obtain⟨i,p⟩:=r
  have a4:dh 0 bs h=some (i,p):=by
   split at hf
   .cases hf
   .exact hf
  obtain⟨j,b,hj,L,hp⟩:=iq a4;have:j=i:=by omega
  subst this;have hi:=(zaa.1 L).1;have V:=aK L;have hl:=H.b.h.1;obtain⟨Y,a6⟩:=H.b.h.2 b V;have a7:=H.b.dp b V p hp;rw[hf]at k1 k4;simp only[L]at k1⊢;simp only[kD,pX]at k4;have k2:=c483 x H.sc.ok H.nm;obtain⟨n,a0,Z⟩:=H.hl;have k3:=c405 (ds:=ds) (by unfold Sm;have:=H.dl;omega) (fun d hd=>by unfold Sm;have:=(H.d d hd).2;omega) n H.sc a0 (dE (sD bs j b p)) (Z j b p L hp);obtain⟨V3,b2,S,Tk,k5,q⟩:=c544i H.d H.dl (by intro e;subst e;simp at hi) hl (fun b L=>(H.b.h.2 b L).1);have k6:=c546 x H.sc.ok;have k7:=c545 (x:=x.strip) p b.body.strip (by omega) (q_ Y);obtain⟨o1,o2⟩:=H.ok j b p L hp;have k8:=c547 _ o1 o2;have k9:=c548 H.sc.ok H.tn;obtain⟨z,hT⟩:=H.tx j b p L hp;have P:(bs.map Bd.strip)[j]?=some b.strip:=by rw[zaK,L];rfl
  have m:=jE dL P (o:=9) (k:=11) (by omega)
  have ht:((((b.strip).cells.drop 9).take 11).map AV.pv)=b.body.strip.cl:=by
   have:(b.strip).cells.drop 9=b.body.strip.cells:=rfl;rw[this,zaf (by rw[bo.len];omega),Ex.hU]
  rw[ht]at m
  have a:=gU dL P (y:=b.rp (Ex.cC x.strip p b.body.strip).1) (o:=9) (vs:=(Ex.cC x.strip p b.body.strip).1.cells) (by rw[bo.len];omega) (by
   have h2:=bo.len (Ex.cC x.strip p b.body.strip).1;rw[h2];have e1:(b.strip).cells.take 9=[vI 0,.bool b.rc,.str b.name,.bool b.sg,vI b.sig.kind,.str b.sig.name,vI b.sig.id,vI b.sig.home,.aq (b.sig.args.map Ty.pv)]:=rfl;have e2:(b.strip).cells.drop (9+11)=[]:=zaM (by rw[dL.len];omega);rw[e1,e2,zax];rfl)
  rw[Ex.hU]at a;have K:=sq (l:=eG bs j b p x);have J:=Qm (l:=ds.map Dt.strip);have e3:eG bs j b p x=(bs.map Bd.strip).set j (b.rp (Ex.cC x.strip p b.body.strip).1):=rfl;rw[<-e3]at a;have U:(eG bs j b p x).length=bs.length:=by rw[e3,zaN,zak]
  rw[U]at K;rw[zak]at J;have M:=q.q.norm;have C:=q.q.shift
  have Q:aG (S.set b2 (some (aI Bd.cells (eG bs j b p x)))):=fun cs hc v hv=>by
   rcases zaH hc with h|h
   .exact q.q cs h v hv
   .cases h;exact aN v hv
  have E:=Q.norm;have s:=Q.shift;have a9:(S.set b2 (some (aI Bd.cells (eG bs j b p x)))).length=S.length:=zaN;clear Q;have O:bW (aI Bd.cells (bs.map Bd.strip))=false:=bw aN;have t:(aI Bd.cells (bs.map Bd.strip)).length=bs.length*20:=(by rw[a_ dL,zak]);have c:(aI Bd.cells (eG bs j b p x)).length=bs.length*20:=(by rw[a_ dL,U]);have n2:(aI Dt.cells (ds.map Dt.strip)).length=ds.length*4:=(by rw[a_ kC,zak]);have u:j*20+9+11<=bs.length*20:=(by omega);have hS:=q.g;have hv:=q.v;have a3:b2<S.length:=(zaa.1 hS).1;have G:(S.set b2 (some (aI Bd.cells (eG bs j b p x))))[b2]?=some (some (aI Bd.cells (eG bs j b p x))):=zbM a3;have X:ds=[]->ds.map Dt.strip=[]:=fun e=>by rw[e];rfl
  have hV:(V3=.own [] 0/\Tk=[0]/\ds.map Dt.strip=[])\/∃b',V3=.aP b' 4 ds.length true/\Tk=[]/\(S.set b2 (some (aI Bd.cells (eG bs j b p x))))[b']?=some (some (aI Dt.cells (ds.map Dt.strip))):=by
   rcases hv with⟨h1,h2,h3⟩|⟨_,b',h2,h3,h4,h5⟩
   .exact .inl ⟨h2,h3,X h1⟩
   .exact .inr ⟨b',h2,h4,by rw[zaA,zai (zb4 h3)];exact h5⟩
  clear P ht H e3 hv X q;generalize eG bs j b p x=B at*;generalize bs.map Bd.strip=B0 at*;generalize ds.map Dt.strip=D at*;generalize aI Bd.cells B=TB at*;generalize F:S.set b2 (some TB)=S2 at*;generalize aI Bd.cells B0=ab at*;generalize (Ex.cC x.strip p b.body.strip).2=r2 at*;generalize (Ex.cC x.strip p b.body.strip).1=r at*;generalize b.body.strip=y at*;generalize dE (sD bs j b p)=N at*;generalize x.aI ds N=f at*;generalize x.strip=xs at*;generalize T B=TX at*;simp[fP]at k1 k2 k3 k4 k5 k6 k7 k8 k9 z;cases R:x.lH with
  |false=>
   rw[R]at k2;simp[g536,pZ,k1,k2]
  |true=>
  rw[R]at k2;by_cases A:f.1=0
  rotate_left
  .simp[g536,pZ,k1,k2,k3,A]
  have a8:(TX.length:Int)<=130000000000000:=(by omega);simp[Ex.cl]at m a;simp at K J;rcases hV with⟨rfl,rfl,X⟩|⟨b',rfl,rfl,W⟩
  .subst X;simp only[zaJ]at z;by_cases c1:40<r.dp
   .have w:40<(r.dp:Int):=(by omega);simp(config:={maxSteps:=1000000}) (disch:=omega) [-getElem?_pos,nX,g536,pZ,k1,k2,k3,A,k4,k5,k6,k7,k8,k9,z,M,C,E,s,hS,hi,O,t,c,u,m,a,F,G,K,J,n2,c1,w]
   have w:¬40<(r.dp:Int):=(by omega);cases c2:x.yq with
   |true=>
    rw[c2]at k9;simp(config:={maxSteps:=1000000}) (disch:=omega) [-getElem?_pos,nX,g536,pZ,k1,k2,k3,A,k4,k5,k6,k7,k8,k9,z,M,C,E,s,hS,hi,O,t,c,u,m,a,F,G,K,J,n2,c1,w,c2]
   |false=>
    rw[c2]at k9;by_cases c3:4000<TX.length
    .have I:4000<(TX.length:Int):=(by omega);simp(config:={maxSteps:=1000000}) (disch:=omega) [-getElem?_pos,nX,g536,pZ,k1,k2,k3,A,k4,k5,k6,k7,k8,k9,z,M,C,E,s,hS,hi,O,t,c,u,m,a,F,G,K,J,n2,c1,w,c2,c3,I]
    .have I:¬4000<(TX.length:Int):=(by omega);simp(config:={maxSteps:=1000000}) (disch:=omega) [-getElem?_pos,nX,g536,pZ,k1,k2,k3,A,k4,k5,k6,k7,k8,k9,z,M,C,E,s,hS,hi,O,t,c,u,m,a,F,G,K,J,n2,c1,w,c2,c3,I]
  .by_cases c1:40<r.dp
   .have w:40<(r.dp:Int):=(by omega);simp(config:={maxSteps:=1000000}) (disch:=omega) [-getElem?_pos,nX,g536,pZ,k1,k2,k3,A,k4,k5,k6,k7,k8,k9,z,M,C,E,s,hS,hi,O,t,c,u,m,a,F,G,K,J,n2,W,c1,w]
   have w:¬40<(r.dp:Int):=(by omega);cases c2:x.yq with
   |true=>
    rw[c2]at k9;simp(config:={maxSteps:=1000000}) (disch:=omega) [-getElem?_pos,nX,g536,pZ,k1,k2,k3,A,k4,k5,k6,k7,k8,k9,z,M,C,E,s,hS,hi,O,t,c,u,m,a,F,G,K,J,n2,W,c1,w,c2]
   |false=>
    rw[c2]at k9;by_cases c3:4000<TX.length
    .have I:4000<(TX.length:Int):=(by omega);simp(config:={maxSteps:=1000000}) (disch:=omega) [-getElem?_pos,nX,g536,pZ,k1,k2,k3,A,k4,k5,k6,k7,k8,k9,z,M,C,E,s,hS,hi,O,t,c,u,m,a,F,G,K,J,n2,W,c1,w,c2,c3,I]
    .have I:¬4000<(TX.length:Int):=(by omega);simp(config:={maxSteps:=1000000}) (disch:=omega) [-getElem?_pos,nX,g536,pZ,k1,k2,k3,A,k4,k5,k6,k7,k8,k9,z,M,C,E,s,hS,hi,O,t,c,u,m,a,F,G,K,J,n2,W,c1,w,c2,c3,I]
def Jd:gq AP:=⟨rfl,rfl,rfl,rfl,rfl,rfl,rfl,rfl,rfl,rfl⟩
def Ed(b:Bd)(p:bj×bj):bj:=[108,101,116,32]++((if b.rc=true then[114,101,99,32]else[])++(b.name++((if b.sg=true then[32,58,32]++p.1 else[])++([32,61,32]++(p.2++[59,10])))))
def yP{α:Type}{l:List α}{g:α->bj}{M:Nat}(h:∀x∈l,(g x).length<=M):(l.flatMap g).length<=l.length*M:=by
 induction l with
 |nil=>simp
 |cons a r b=>
  have h1:=h a (by simp);have h2:=b fun x hx=>h x (by simp[hx])
  simp only[zav,zad,zae,zaI];omega
def QI{AQ:Nat->Option aA}(c:gq AQ)(t:Ty):t.Kn KT->t.nodes.length<=10000->∃s:bj,s.length+3<=105*t.nodes.length/\(az AQ).p 252 [t.pv]=some [.str s]:=fun h1 h2=>
 let ⟨s,a,b,_⟩:=AU c t h1 h2
 ⟨s,a,b⟩
def Txp(AQ:Nat->Option aA)(e:Ex):Prop:=∃s:bj,s.length+10<=2000000*e.sz/\(az AQ).p 248 [e.pv]=some [.str s]
def QJ{AQ:Nat->Option aA}(c:gq AQ){e:Ex}(h:kH e):e.sz<=50000000->Txp AQ e:=fun h2=>
 let ⟨s,a,b,_⟩:=Jc c h h2
 ⟨s,a,b⟩
def D0(d:Dt):bj:=match(Fc.C0 AP 400 40).p 336 [d.strip.pv]with|some [.str s]=>s|_=>[]
def c336s:∀d∈bf,(az AP).p 336 [d.strip.pv]=some [.str (D0 d)]:=by
 intro d hd;simp only[bf,zau,zbu,zci]at hd;rcases hd with rfl|rfl|rfl|rfl|rfl|rfl|rfl<;>exact Fc.L6 (k:=400) (n:=40) (by kernel_rfl)
def QK:∀d∈bf,(D0 d).length<=1000:=by decide +kernel
structure Xl(b:Bd):Prop where
 st:b.sig.Kn KT
 sn:b.sig.nodes.length<=90
 nm:b.name.length<=100
 tx:kH b.body
 w:b.body.sz<=15000000
structure BdY(b:Bd)(p:bj×bj):Prop where
 l1:p.1.length<=10000
 l2:p.2.length<=30000000000000
 n:b.name.length<=100
 k:(az AP).p 337 [b.pv]=some [.str (Ed b p)]
def c337w{b:Bd}(h:Xl b):∃p,BdY b p:=by
 obtain⟨s,d,k1⟩:=QI Jd b.sig h.st (by have:=h.sn;omega);have hw:=h.w;have a:=h.sn;have hn:=h.nm;obtain⟨u,c,k3⟩:=QJ Jd h.tx (by omega);refine⟨(s,u),by simp only;omega,by simp only;omega,hn,?_⟩;rw[aw g337];simp at k1 k3
 cases hr:b.rc<;>cases hs:b.sg <;>
   simp (disch:=first|omega|(simp only[zad,zae,zao];omega)) [-bu,b_,g337,Ed,hr,hs,k1,k3]
def TF{b:Bd}{p:bj×bj}(h:BdY b p):(Ed b p).length<=30000000020000:=by
 have h1:=h.l1;have h2:=h.l2;have h3:=h.n;unfold Ed;cases b.rc<;>cases b.sg<;>simp<;>omega
open Classical in
noncomputable def TG(b:Bd):bj:=if h:∃p,BdY b p then Ed b h.choose else[]
def HO{b:Bd}(h:Xl b):(az AP).p 337 [b.pv]=some [.str (TG b)]/\(TG b).length<=30000000020000:=by
 have e:=c337w h;unfold TG;rw[dif_pos e];exact⟨e.choose_spec.k,TF e.choose_spec⟩
noncomputable def Je(ds:List Dt)(bs:List Bd):bj:=ds.flatMap D0++bs.flatMap TG
def c311s{ds:List Dt}{bs:List Bd}(i:oJ ds)(h4:bs.length<=4)(j:∀b∈bs,Xl b):
   (az AP).p 311 [.agg [.aq ((ds.map Dt.strip).map Dt.pv),.aq (bs.map Bd.pv)]]=some [.str (Je ds bs)]/\(Je ds bs).length<=130000000000000:=by
 have h:=i.len;have l1:=yP (l:=ds) (g:=D0) fun d hd=>QK d (i.all d hd)
 have l2:=yP (l:=bs) (g:=TG) fun b n=>(HO (j b n)).2;have o:ds.length*1000<=8*1000:=zaZ _ h
 have m2:bs.length*30000000020000<=4*30000000020000:=zaZ _ h4;have c:(Je ds bs).length<=130000000000000:=by unfold Je;rw[zad];omega
 refine⟨?_,c⟩;rw[zn (f:=O2 336 337) (af:=g311) rfl rfl]
 have k1:∀l:List Dt,(∀d∈l,d∈bf)->mX (az AP).p 336 ((l.map Dt.strip).map Dt.pv)=some (l.flatMap D0):=by
  intro l;induction l with
  |nil=>intro _;rfl
  |cons d r e=>
   intro hl;have a:=e fun x hx=>hl x (by simp[hx])
   have b:=c336s d (hl d (by simp));simp only[zal,mX,b,a,zaT,zav]
 have k2:∀l:List Bd,(∀b∈l,Xl b)->mX (az AP).p 337 (l.map Bd.pv)=some (l.flatMap TG):=by
  intro l;induction l with
  |nil=>intro _;rfl
  |cons d r e=>
   intro hl;have a:=e fun x hx=>hl x (by simp[hx])
   have b:=(HO (hl d (by simp))).1;simp only[zal,mX,b,a,zaT,zav]
 have m:((ds.map Dt.strip).map Dt.pv).all (il 4)=true:=by simp[il,dT]
 have k:(bs.map Bd.pv).all (il 20)=true:=by simp[il,dT]
 simp only[O2,x_];rw[zan ⟨m,k,by simp;omega,by simp;omega⟩,k1 ds i.all,k2 bs j];simp only;rw[zan (by unfold Je at c;omega)];rfl
def c533{ds:List Dt}{bs:List Bd}(H:Xk bs){h:Int}(h1:h<=9223372036854775807):(az AP).p 533 [.agg [.aq (ds.map Dt.pv),.aq (bs.map Bd.pv)],vI h]=some (nW bs h):=by
 have k:=c531 (ds:=ds) H.h h1;unfold nW;rw[aw g533];cases hf:(if h<0 then none else dh 0 bs h)with
 |none=>
  rw[hf]at k;simp[kD]at k;simp[g533,k]
 |some r=>
  obtain⟨i,p⟩:=r
  have u:dh 0 bs h=some (i,p):=by
   split at hf
   .cases hf
   .exact hf
  obtain⟨j,b,hj,g,hp⟩:=iq u;have:j=i:=by omega
  subst this;have hi:=(zaa.1 g).1;have f:=aK g;have hl:=H.h.1;obtain⟨l,v⟩:=H.h.2 b f;have q:=H.dp b f p hp;have e:=c432 l (H.one b f) (p:=p) (by omega);have vl:=AX l q;rw[hf]at k;simp only[g,sD];have o:(bs.take j).length=j:=by simp;omega
  have e0:=aam (ds:=ds) (bs:=bs) (I:=j) (p:=p) hl (by omega) _ 0 rfl (by omega) [] (by simp);rw[zaj,zaE]at e0;have w:((bs.take j).map Bd.name).length=j:=(by rw[zak];exact o);generalize (bs.take j).map Bd.name=N at*;generalize Av b.body p=V at*;have k4:=c440 (s:=N++((if b.rc=true then[b.name]else[])++V)) (by simp only[zad];split<;>simp<;>omega);have d:(N.length+1)*16<=140737488355328:=(by omega);have c:(N.length+V.length)*16<=140737488355328:=(by omega);have a:(N.length+1+V.length)*16<=140737488355328:=(by omega);have t:=mB.head V;have m:bl 1 (N.map PV.str++[PV.str b.name])=true:=by have:=mB.head (N++[b.name]);simpa only[zbG,zal,zaJ]using this
  have n:N.length*16<=140737488355328:=(by omega);rw[g533L0e]at e0;simp[kD]at k e t;simp[ev]at e0;cases hr:b.rc
  .simp[hr]at k4;by_cases z:V=[]
   .subst z;simp at k4 e;simp(disch:=omega)[-getElem?_pos,g533,k,g533L0e,e0,g,hi,hr,d,c,a,n,e,k4]
   .simp(disch:=omega)[-getElem?_pos,g533,k,g533L0e,e0,g,hi,hr,d,c,a,t,z,e,k4]
  .simp[hr]at k4;by_cases z:V=[]
   .subst z;simp at k4 e;simp(disch:=omega)[-getElem?_pos,g533,k,g533L0e,e0,g,hi,hr,d,c,a,n,m,e,k4]
   .simp(disch:=omega)[-getElem?_pos,g533,k,g533L0e,e0,g,hi,hr,d,c,a,t,m,z,e,k4]
def AZ:∀{p:List Int}{e x:Ex}{n:Nat},e.at p=some x->e.oZ n->p.length<=n
 |[],_,_,_,_,_=>by simp
 |i::r,e,x,n,h,a=>by
  rw[Ex.at]at h;split at h
  .cases hy:e.ch[i.toNat]? with
   |none=>rw[hy]at h;cases h
   |some y=>
    rw[hy]at h;cases a with
    | @mk n _ hc=>
     have:=AZ (p:=r) h (hc y (aK hy));simp only[zae];omega
  .cases h
def bdN{bs:List Bd}(h4:bs.length<=4)(c:∀b∈bs,lX 200 b):Xk bs where
 h:=⟨by omega,fun b a=>⟨(c b a).sc.ok,by have:=(c b a).w;omega⟩⟩
 one:=fun b a=>(c b a).sc.one
 dp:=fun b a p hp=>by
  obtain⟨_,x,hx,_⟩:=AT b.body p hp;have:=AZ hx (c b a).h;omega
def Xm{bs:List Bd}(a:∀b∈bs,lX 200 b):MA bs<=bs.length*14000000:=by
 induction bs with
 |nil=>simp[MA]
 |cons b r c=>
  have h1:=c fun x hx=>a x (by simp[hx]);have h2:=wL b.body
  have h3:=(a b (by simp)).w;simp only[MA,zae];omega
def A3{e x:Ex}(h:x∈e.strip.ch):∃y∈e.ch,x=y.strip:=by
 rw[iN,zat]at h;obtain⟨y,hy,rfl⟩:=h;exact⟨y,hy,rfl⟩
def fc(e:Ex):e.strip.kids=e.kids.map Ex.strip:=by rw[Ex.eo]
def eF(e:Ex):e.strip.aB=e.aB.map fun a=>⟨0,a.cv,a.vars,a.body.strip⟩:=by rw[Ex.eo]
def nY(e:Ex):e.strip.ty=e.ty:=by rw[Ex.eo]
def mN(e:Ex):e.strip.name=e.name:=by rw[Ex.eo]
def yQ(e:Ex):e.strip.num=e.num:=by rw[Ex.eo]
def MP(e:Ex):e.One->e.strip.One:=by
 refine Ex.recC (p:=fun e=>e.One->e.strip.One) ?_ e;intro e b h;refine .mk (fun a=>by rw[fc,zak];rw[eE]at a;exact h.h a) fun x hx=>?_;obtain⟨y,hy,rfl⟩:=A3 hx;exact b y hy (h.c y hy)
def QL(e:Ex):(e.IF fun x=>x.ty.Cw)->e.strip.IF fun x=>x.ty.Cw:=by
 refine Ex.recC (p:=fun e=>(e.IF fun x=>x.ty.Cw)->e.strip.IF fun x=>x.ty.Cw) ?_ e;intro e a h;refine .mk (by rw[nY];exact h.h) fun x hx=>?_;obtain⟨y,hy,rfl⟩:=A3 hx;exact a y hy (h.c y hy)
def hZ{e:Ex}(h:r_ e):r_ e.strip:=⟨q_ h.ok,MP e h.one,QL e h.cw⟩
def gi:∀{n:Nat}{e:Ex},e.oZ n->e.strip.oZ n
 |n+1,e,h=>.mk fun x hx=>by
  obtain⟨y,hy,rfl⟩:=A3 hx;exact gi (h.c y hy)
 |0,e,h=>by cases h
def l3{e:Ex}(h:kH e):kH e.strip:=by
 induction h with
 |leaf h1 h2 h3=>exact .leaf (by rw[eE,mN,yQ,nY];exact h1) (by rw[fc,h2];rfl) (by rw[eF,h3];rfl)
 |lam h1 h2 h3 h4 _ d=>exact .lam (by rw[eE];exact h1) (by rw[mN];exact h2) (by rw[fc,h3];rfl) (by rw[eF,h4];rfl) d
 |app h1 h2 h3 _ _ c b=>exact .app (by rw[eE];exact h1) (by rw[fc,h2];rfl) (by rw[eF,h3];rfl) c b
 |rY h1 h2 h3 h4 _ _ c b=>exact .rY (by rw[eE];exact h1) (by rw[mN];exact h2) (by rw[fc,h3];rfl) (by rw[eF,h4];rfl) c b
 |mT h1 h2 _ h3 h4 _ d b=>
  refine .mT (by rw[eE];exact h1) (by rw[fc,h2];rfl) d (by rw[eF,zak];exact h3) ?_ ?_
  .intro x hx;rw[eF,zat]at hx;obtain⟨a,f,rfl⟩:=hx;exact h4 a f
  .intro x hx;rw[eF,zat]at hx;obtain⟨a,f,rfl⟩:=hx;exact b a f
 |Mp h1 h2 h3 h4 h5 _ d=>exact .Mp (by rw[eE];exact h1) (by rw[fc,h2];rfl) (by rw[eF,h3];rfl) (by rw[nY];exact h4) (by rw[nY];exact h5) d
 |held h1 h2 h3 _ d=>exact .held (by rw[eE];exact h1) (by rw[fc,h2];rfl) (by rw[eF,h3];rfl) d
structure lE(x:Ex):Prop where
 sc:r_ x
 nm:x.pW
 tn:x.Tn
 hl:x.oZ 100
 tx:kH x
 w:x.sz<=500000
structure BdE(b:Bd):Prop where
 sc:r_ b.body
 h:b.body.oZ 300
 so:b.sig.Ok
 sn:b.sig.nodes.length<=90
 nm:b.name.length<=100
 st:b.sig.Kn KT
 w:b.body.sz<=14500000
 tx:kH b.body
def QM{b:Bd}(o:lX 200 b):BdE b:=⟨o.sc,gH o.h (by omega),o.so,o.sn,o.nm,o.st,by have:=o.w;omega,o.tx⟩
def U'{bs:List Bd}(h4:bs.length<=4)(c:∀b∈bs,BdE b):Xk bs where
 h:=⟨by omega,fun b a=>⟨(c b a).sc.ok,by have:=(c b a).w;omega⟩⟩
 one:=fun b a=>(c b a).sc.one
 dp:=fun b a p hp=>by
  obtain⟨_,x,hx,_⟩:=AT b.body p hp;have:=AZ hx (c b a).h;omega
def TH{ds es:List Dt}{bs:List Bd}{h:Int}{x:Ex}(hs:es.map Dt.strip=ds.map Dt.strip)(j:oJ ds)(hd:∀d∈es,d.cons≠[]/\d.cons.length<=1000)(h4:bs.length<=4)(f:∀b∈bs,BdE b)(h1:h<=9223372036854775807)(hx:lE x):
   AY es (Je ds) bs h x where
 d:=hd
 dl:=by have:=j.len;have:=zbm List.length hs;simp at this;omega
 b:=U' h4 f
 h1:=h1
 sc:=hx.sc
 nm:=hx.nm
 tn:=hx.tn
 hl:=by
  refine⟨100,hx.hl,fun i b p e hp=>?_⟩;have k:=sB (sD bs i b p);have hN:=U' h4 f;have v:=AX (hN.h.2 b (aK e)).1 (hN.dp b (aK e) p hp)
  have:(sD bs i b p).length<=500005:=by
   unfold sD;rw[zad,zad,zak,zbk];split<;>simp<;>omega
  omega
 ok:=fun i b p e hp=>by
  have o:=f b (aK e);obtain⟨n,_,_,g⟩:=mM (hZ hx.sc) (gi hx.hl) p b.body.strip 300 (hZ o.sc) (gi o.h);have w1:=o.w;have l:=hx.w;rw[je,je]at g;exact⟨n.ok,by omega⟩
 tx:=fun i b p e hp=>by
  rw[hs];refine c311s j (by unfold eG;rw[zaN,zak];exact h4) fun c hc=>?_;rcases zaH hc with h|rfl
  .rw[zat]at h;obtain⟨a,q,rfl⟩:=h;have o:=f a q;exact⟨o.st,o.sn,o.nm,l3 o.tx,by have:=o.w;show a.body.strip.sz<=_;rw[je];omega⟩
  .have o:=f b (aK e);obtain⟨_,_,m,g⟩:=mM (hZ hx.sc) (gi hx.hl) p b.body.strip 300 (hZ o.sc) (gi o.h);have w1:=o.w;have l:=hx.w;rw[je,je]at g;exact⟨o.st,o.sn,o.nm,m (l3 hx.tx) (l3 o.tx),by show(Ex.cC x.strip p b.body.strip).1.sz<=_;omega⟩
def QN{ds:List Dt}{bs:List Bd}{h:Int}{x:Ex}(e:oJ ds)(hd:∀d∈ds,d.cons≠[]/\d.cons.length<=1000)(h4:bs.length<=4)(a:∀b∈bs,lX 200 b)(h1:h<=9223372036854775807)(hx:lE x):AY ds (Je ds) bs h x:=
 TH rfl e hd h4 (fun b c=>QM (a b c)) h1 hx
def aan{K:Int->Prop}{t:Ty}(h:t.Kn K):t.Nm:=by
 induction h with
 |mk _ h2 _ a=>exact .mk (by unfold nE;omega) a
def lF:bF.Nm:=.mk (by simp[bF,nE]) (by simp[bF])
def fo:bF.nodes.length<=100000000:=by rw[Ty.aL];simp[bF]
def NT(e:Ex):Prop:=e.pW/\e.Tn
def ir{k p m:Int}{s:bj}{l:List Ex}{as:List Ar}{t:Ty}(hs:s.length<=100)(ht:t.Nm)(hn:t.nodes.length<=100000000)(b:∀a∈as,Zj a/\NT a.body)(hl:∀x∈l,NT x):NT ⟨k,p,s,m,l,as,t⟩:=by
 have hc:∀x∈(⟨k,p,s,m,l,as,t⟩:Ex).ch,NT x:=by
  intro x hx;simp only[Ex.ch,zaz,zat]at hx;rcases hx with h|⟨a,h,rfl⟩
  .exact hl x h
  .exact(b a h).2
 exact⟨.mk (by simp only[nE];omega) ht (fun a h=>(b a h).1) fun x hx=>(hc x hx).1,.mk hn fun x hx=>(hc x hx).2⟩
def fC.nt{ds:List Dt}(o:oJ ds){n:Nat}{e:Ex}(h:fC ds n e):NT e:=by
 have k:∀d∈ds,D8 d:=fun d hd=>nK d (o.all d hd);have q:∀d∈ds,d.name.length<=100:=fun d hd=>(nT d (o.all d hd)).1
 induction h with
 |var hs=>exact ir (cH _ hs).1 lF fo (by simp) (by simp)
 |int h0 h4=>exact ir (by simp) lF fo (by simp) (by simp)
 |cv hd hc=>exact ir ((nT _ (o.all _ hd)).2 _ hc) lF fo (by simp) (by simp)
 |gone=>exact ir (by simp) lF fo (by simp) (by simp)
 |hole=>exact ir (by simp) lF fo (by simp) (by simp)
 |lam hs _ g=>exact ir (cH _ hs).1 lF fo (by simp) (by simpa using g)
 |app _ _ f b=>exact ir (by simp) lF fo (by simp) (by simpa using⟨f,b⟩)
 |rY z hs _ _ f b=>exact ir (cH _ hs).1 lF fo (by simp) (by simpa using⟨f,b⟩)
 |Mp _ ht g=>
  have C:=ht.small (fun d hd=>(k d hd).1) (by simp);exact ir (by simp) (aan (kY q (by simp) ht)) (by omega) (by simp) (by simpa using g)
 |held _ g=>exact ir (by simp) lF fo (by simp) (by simpa using g)
 |up _ g=>exact g
 | @mT n d a as hd B hl A hv hc f b=>
  obtain⟨_,_,u,r⟩:=k _ hd;refine ir (by simp) lF fo (fun x hx=>⟨?_,b x hx⟩) (by simpa using f);obtain⟨i,hi⟩:=zbX hx;have t:=(zaa.1 hi).1;obtain⟨c,j⟩:=aQ (l:=d.cons) (i:=i) (by omega);obtain⟨s,w⟩:=hc i c x j hi;have m:=(nT _ (o.all _ hd)).2 _ (aK j);have y:=r c (aK j);exact⟨by rw[s];unfold nE;omega,by omega,fun v p=>by have:=(cH _ ((hv x hx).2 v p)).1;unfold nE;omega⟩
def fC.fill{ds:List Dt}(a:oJ ds){n:Nat}(hn:n<=2){e:Ex}(h:fC ds n e):lE e:=by
 have t:=(h.tyE a).up (m:=12) (by omega);have nt:=h.nt a;exact⟨t.sc,nt.1,nt.2,gH t.h (by omega),t.tx,by have:=t.w;simp[wN]at this;omega⟩
def aao{s:List bj}(hS:s.length<1000000000):∀(n i:Nat),s.length-i=n->i<=s.length->
   cl AP g266L0 ⟨[(0,.pv (.aq (s.map .str))),(1,.pv (.aq (s.map .str))),(5,.pv (vI i))],[],[],[]⟩=
     some (.exit 0,⟨[(0,.pv (.aq (s.map .str))),(1,.pv (.aq (s.map .str))),(5,.pv (vI s.length)),(14,.pv (.bool false))],[],[],[]⟩)
 |0,i,hn,hi=>by
  have:i=s.length:=by omega
  subst this;rw[g266L0e];simp[g266B0]
 |n+1,i,hn,hi=>by
  have hi:i<s.length:=(by omega);obtain⟨x,hx⟩:=aQ hi;have a:=aao hS n (i+1) (by omega) (by omega);rw[g266L0e]at a⊢;simp at a;simp(disch:=omega)[-getElem?_pos,g266B0,hx,hi,ae];rw[g266L0e];simp[a]
def c266{s:List bj}(hS:s.length<1000000000):(az AP).p 266 [.aq (s.map .str),.aq (s.map .str)]=some [.bool true]:=by
 have e:=aao hS _ 0 rfl (by omega);rw[g266L0e]at e;simp at e;rw[aw g266];simp[g266,g266L0e,e]
def aap{a b:List Ex}(hN:a.length<=1000000)(hl:b.length=a.length)(h:∀(i:Nat)(x y:Ex),a[i]?=some x->b[i]?=some y->(az AP).p 253 [x.pv,y.pv]=some [.bool true]):∀(n i:Nat),a.length-i=n->i<=a.length->
   cl AP g267L0 ⟨[(0,.pv (.aq (a.map Ex.pv))),(1,.pv (.aq (b.map Ex.pv))),(5,.pv (vI i))],[],[],[]⟩=
     some (.exit 0,⟨[(0,.pv (.aq (a.map Ex.pv))),(1,.pv (.aq (b.map Ex.pv))),(5,.pv (vI a.length)),(14,.pv (.bool false))],[],[],[]⟩)
 |0,i,hn,hi=>by
  have:i=a.length:=by omega
  subst this;rw[g267L0e];simp[g267B0]
 |n+1,i,hn,hi=>by
  have hi:i<a.length:=(by omega);have c:i<b.length:=(by omega);obtain⟨x,hx⟩:=aQ hi;obtain⟨y,hy⟩:=aQ c;have k:=h i x y hx hy;have d:=aap hN hl h n (i+1) (by omega) (by omega);rw[g267L0e]at d⊢;simp at d k;simp(disch:=omega)[-getElem?_pos,g267B0,hx,hy,hi,c,k,ae];rw[g267L0e];simp[d]
def c267{a b:List Ex}(hN:a.length<=1000000)(hl:b.length=a.length)(h:∀(i:Nat)(x y:Ex),a[i]?=some x->b[i]?=some y->(az AP).p 253 [x.pv,y.pv]=some [.bool true]):(az AP).p 267 [.aq (a.map Ex.pv),.aq (b.map Ex.pv)]=some [.bool true]:=by
 have e:=aap hN hl h _ 0 rfl (by omega);rw[g267L0e]at e;simp at e;rw[aw g267];simp[g267,hl,g267L0e,e]
def MQ{a b:Ex}(h:a.strip=b.strip):b.kind=a.kind/\b.name=a.name/\b.num=a.num/\b.ty=a.ty/\b.kids.length=a.kids.length/\b.aB.map (fun x=>(x.cv,x.vars))=a.aB.map (fun x=>(x.cv,x.vars))/\b.ch.map Ex.strip=a.ch.map Ex.strip:=by
 rw[Ex.eo,Ex.eo b]at h;simp only[Ex.mk.injEq,true_and]at h;obtain⟨h1,h2,h3,h4,h5,h6⟩:=h;have e1:=zbm (List.map fun x:Ar=>(x.cv,x.vars)) h5;have e2:=zbm (List.map fun x:Ar=>x.body) h5;simp only[zbv,zcD]at e1 e2;refine⟨h1.symm,h2.symm,h3.symm,h6.symm,?_,e1.symm,?_⟩
 .have:=zbm List.length h4;simpa using this.symm
 .simp only[Ex.ch,zbG,zbv,zcD];rw[h4,e2]
def aaq{a b:Ex}(hN:a.aB.length<=1000)(hv:∀x∈a.aB,x.vars.length<=1000)(g:b.aB.map (fun x=>(x.cv,x.vars))=a.aB.map (fun x=>(x.cv,x.vars))):∀(n i:Nat),a.aB.length-i=n->i<=a.aB.length->
   cl AP g253L0 ⟨[(2,.au 2 0),(3,.au 3 0),(5,.pv (vI i))],[(2,a.cl),(3,b.cl)],[],[]⟩=
     some (.exit 0,⟨[(2,.au 2 0),(3,.au 3 0),(5,.pv (vI a.aB.length)),(55,.pv (.bool false))],[(2,a.cl),(3,b.cl)],[],[]⟩)
 |0,i,hn,hi=>by
  have:i=a.aB.length:=by omega
  subst this;rw[g253L0e];simp[g253B0]
 |n+1,i,hn,hi=>by
  have hl:b.aB.length=a.aB.length:=by have:=zbm List.length g;simpa using this
  have hi:i<a.aB.length:=(by omega);have c:i<b.aB.length:=(by omega);obtain⟨x,hx⟩:=aQ hi;obtain⟨y,hy⟩:=aQ c
  have e:y.cv=x.cv/\y.vars=x.vars:=by
   have:=zbm (fun l=>l[i]?) g;simp only[zaK,hx,hy,zaT,zag,zaD]at this;exact this
  obtain⟨hc,f⟩:=e;have k:=c266 (s:=x.vars) (by have:=hv x (aK hx);omega);have d:=aaq hN hv g n (i+1) (by omega) (by omega);rw[g253L0e]at d⊢;simp at d k;simp(disch:=omega)[-getElem?_pos,g253B0,hx,hy,hi,c,hc,f,k,ae];rw[g253L0e];simp[d]
def c253(a:Ex):∀b:Ex,a.Ok->b.Ok->a.strip=b.strip->(az AP).p 253 [a.pv,b.pv]=some [.bool true]:=by
 refine Ex.recC (p:=fun a=>∀b:Ex,a.Ok->b.Ok->a.strip=b.strip->(az AP).p 253 [a.pv,b.pv]=some [.bool true]) ?_ a;intro a m b d j h;obtain⟨h1,h2,h3,h4,h5,h6,h7⟩:=MQ h;have g:b.aB.length=a.aB.length:=by have:=zbm List.length h6;simpa using this
 have f:b.ch.length=a.ch.length:=by have:=zbm List.length h7;simpa using this
 have hN:a.ch.length<=1000000:=by rw[Ex.cM];have:=d.k;have:=d.a;omega
 have k1:=c20 (a:=a.ty) (b:=b.ty) d.t;rw[h4,za2 rfl]at k1;have k2:=c145 d;have k3:=c145 j
 have k4:=c267 (a:=a.ch) (b:=b.ch) hN f (fun i x y hx hy=>by
  refine m x (aK hx) y (d.c x (aK hx)) (j.c y (aK hy)) ?_;have:=zbm (fun l=>l[i]?) h7;simp only[zaK,hx,hy,zaT,zag]at this;exact this.symm)
 have e:=aaq d.a d.v h6 _ 0 rfl (by omega);rw[aw g253];rw[g253L0e]at e;simp[h1,h2,h3,h4]at e k1 k2 k3 k4;simp[g253,h1,h2,h3,h4,h5,g,k1,g253L0e,e,k2,k3,k4]
def DsC(ds:List Dt):Prop:=ds.length<=1000/\∀d∈ds,d.params.length<=1000/\d.cons.length<=1000/\∀c∈d.cons,Sm c.fields/\∀t∈c.fields,t.Ok
def BsC(bs:List Bd):Prop:=bs.length<=1000/\∀b∈bs,b.sig.Ok/\b.body.Ok
def Va{P Q:List AV}{x y:Dt}{i:Nat}(hN:x.cons.length<=1000)(hf:∀c∈x.cons,Sm c.fields/\∀t∈c.fields,t.Ok)(j:y.cons.map cd.p0=x.cons.map cd.p0)
   (o:∃a b,P=ev a b) (m:∃a b,Q=ev a b):∀(n k:Nat),x.cons.length-k=n->k<=x.cons.length->
   cl AP g538L1 ⟨[(2,.au 2 0),(3,.au 3 0),(5,.pv (vI i)),(6,.au 6 0),(7,.au 7 0),(8,.pv (vI k))],[(2,P),(3,Q),(6,x.cells.map .pv),(7,y.cells.map .pv)],[],[]⟩=
     some (.exit 2,⟨[(2,.au 2 0),(3,.au 3 0),(5,.pv (vI i)),(6,.au 6 0),(7,.au 7 0),(8,.pv (vI x.cons.length)),(71,.pv (.bool false))],[(2,P),(3,Q),(6,x.cells.map .pv),(7,y.cells.map .pv)],[],[]⟩)
 |0,k,hn,f=>by
  have:k=x.cons.length:=by omega
  subst this;obtain⟨a,b,rfl⟩:=o;obtain⟨c,d,rfl⟩:=m;rw[g538L1e];simp[g538B1,ev,Dt.cells]
 |n+1,k,hn,f=>by
  have hl:y.cons.length=x.cons.length:=by have:=zbm List.length j;simpa using this
  have f:k<x.cons.length:=(by omega);have e:k<y.cons.length:=(by omega);obtain⟨u,hu⟩:=aQ f;obtain⟨v,hv⟩:=aQ e
  have h:v.name=u.name/\v.fields=u.fields:=by
   have:=zbm (fun l=>l[k]?) j;simp only[zaK,hu,hv,zaT,zag,cd.p0,cd.mk.injEq,true_and]at this;exact this
  obtain⟨q,p⟩:=h;obtain⟨f1,f2⟩:=hf u (aK hu);have c:=c57 (as:=u.fields) (bs:=u.fields) f1 fun t ht y=>c20 (f2 t ht)
  have g:=Va (i:=i) hN hf j o m n (k+1) (by omega) (by omega);obtain⟨a,b,rfl⟩:=o;obtain⟨r,b',rfl⟩:=m;rw[g538L1e]at g⊢;simp[ev,Dt.cells]at g c;simp(disch:=omega)[-getElem?_pos,g538B1,ev,Dt.cells,hu,hv,f,e,q,p,c,ae];rw[g538L1e];simp[g]
def Vb{ds es:List Dt}{bs cs:List Bd}(H:DsC ds)(g:es.map Dt.strip=ds.map Dt.strip):∀(n i:Nat),ds.length-i=n->i<=ds.length->
   cl AP g538L0 ⟨[(2,.au 2 0),(3,.au 3 0),(5,.pv (vI i))],[(2,ev ds bs),(3,ev es cs)],[],[]⟩=
     some (.exit 0,⟨[(2,.au 2 0),(3,.au 3 0),(5,.pv (vI ds.length)),(32,.pv (.bool false))],[(2,ev ds bs),(3,ev es cs)],[],[]⟩)
 |0,i,hn,hi=>by
  have:i=ds.length:=by omega
  subst this;rw[g538L0e];simp[g538B0,ev]
 |n+1,i,hn,hi=>by
  have hN:=H.1;have hl:es.length=ds.length:=by have:=zbm List.length g;simpa using this
  have hi:i<ds.length:=(by omega);have a:i<es.length:=(by omega);obtain⟨x,hx⟩:=aQ hi;obtain⟨y,hy⟩:=aQ a
  have d:y.name=x.name/\y.params=x.params/\y.cons.map cd.p0=x.cons.map cd.p0:=by
   have:=zbm (fun l=>l[i]?) g;simp only[zaK,hx,hy,zaT,zag,Dt.strip,Dt.mk.injEq,true_and]at this;exact this
  obtain⟨k,j,h⟩:=d;obtain⟨p1,p2,p3⟩:=H.2 x (aK hx);have f:y.cons.length=x.cons.length:=by have:=zbm List.length h;simpa using this
  have c:=c266 (s:=x.params) (by omega);have e:=Va (P:=ev ds bs) (Q:=ev es cs) (i:=i) p2 p3 h ⟨_,_,rfl⟩ ⟨_,_,rfl⟩ _ 0 rfl (by omega);have b:=Vb (bs:=bs) (cs:=cs) H g n (i+1) (by omega) (by omega);rw[g538L1e]at e;rw[g538L0e]at b⊢;simp[ev,Dt.cells,k,j]at b c e;simp(disch:=omega)[-getElem?_pos,g538B0,ev,hx,hy,hi,a,k,j,f,c,ae,g538L1e,e];rw[g538L0e];simp[b]
def Vc{ds es:List Dt}{bs cs:List Bd}(H:BsC bs)(H2:BsC cs)(f:cs.map Bd.strip=bs.map Bd.strip):∀(n i:Nat),bs.length-i=n->i<=bs.length->
   cl AP g538L2 ⟨[(2,.au 2 0),(3,.au 3 0),(9,.pv (vI i))],[(2,ev ds bs),(3,ev es cs)],[],[]⟩=
     some (.exit 4,⟨[(2,.au 2 0),(3,.au 3 0),(9,.pv (vI bs.length)),(107,.pv (.bool false))],[(2,ev ds bs),(3,ev es cs)],[],[]⟩)
 |0,i,hn,hi=>by
  have:i=bs.length:=by omega
  subst this;rw[g538L2e];simp[g538B2,ev]
 |n+1,i,hn,hi=>by
  have hN:=H.1;have hl:cs.length=bs.length:=by have:=zbm List.length f;simpa using this
  have hi:i<bs.length:=(by omega);have c:i<cs.length:=(by omega);obtain⟨x,hx⟩:=aQ hi;obtain⟨y,hy⟩:=aQ c
  have e:y.rc=x.rc/\y.name=x.name/\y.sg=x.sg/\y.sig=x.sig/\y.body.strip=x.body.strip:=by
   have:=zbm (fun l=>l[i]?) f;simp only[zaK,hx,hy,zaT,zag,Bd.strip,Bd.mk.injEq,true_and]at this;exact this
  obtain⟨m,k,j,h,g⟩:=e;obtain⟨p1,p2⟩:=H.2 x (aK hx);have c1:=c20 (a:=x.sig) (b:=x.sig) p1;rw[za2 rfl]at c1;have c2:=c253 x.body y.body p2 (H2.2 y (aK hy)).2 g.symm;have d:=Vc (ds:=ds) (es:=es) H H2 f n (i+1) (by omega) (by omega);rw[g538L2e]at d⊢;simp[ev]at d c1 c2;simp(disch:=omega)[-getElem?_pos,g538B2,ev,hx,hy,hi,c,m,k,j,h,c1,c2,ae];rw[g538L2e];simp[d]
def c538{ds es:List Dt}{bs cs:List Bd}(H:DsC ds)(K:BsC bs)(a:BsC cs)(h1:es.map Dt.strip=ds.map Dt.strip)(h2:cs.map Bd.strip=bs.map Bd.strip):
   (az AP).p 538 [.agg [.aq (ds.map Dt.pv),.aq (bs.map Bd.pv)],.agg [.aq (es.map Dt.pv),.aq (cs.map Bd.pv)]]=some [.bool true]:=by
 have l1:es.length=ds.length:=by have:=zbm List.length h1;simpa using this
 have l2:cs.length=bs.length:=by have:=zbm List.length h2;simpa using this
 have e1:=Vb (bs:=bs) (cs:=cs) H h1 _ 0 rfl (by omega);have e2:=Vc (ds:=ds) (es:=es) K a h2 _ 0 rfl (by omega);rw[aw g538];rw[g538L0e]at e1;rw[g538L2e]at e2;simp[ev]at e1 e2;simp[g538,l1,l2,g538L0e,e1,g538L2e,e2]
def dsC{ds:List Dt}(f:oJ ds):DsC ds/\∀d∈ds,d.cons≠[]/\d.cons.length<=1000:=by
 have key:∀d∈bf,d.params.length<=1000/\d.cons.length<=1000/\d.cons≠[]/\∀c∈d.cons,Sm c.fields/\∀t∈c.fields,t.Ok:=by
  intro d hd;obtain⟨i,h,g⟩:=Mz hd;obtain⟨_,b1,_,_⟩:=nK d hd;exact⟨by omega,by omega,by intro e;rw[e]at b1;simp at b1,fun c hc=>⟨by have:=(g c hc).1;unfold Sm;omega,(g c hc).2.1⟩⟩
 exact⟨⟨by have:=f.len;omega,fun d hd=>by obtain⟨a,b,_,c⟩:=key d (f.all d hd);exact⟨a,b,c⟩⟩,fun d hd=>by obtain⟨_,b,c,_⟩:=key d (f.all d hd);exact⟨c,b⟩⟩
def pt(x:Ex)(p:List Int)(e:Ex):Ex:=(Ex.cC x p e).1
def A4{e:Ex}{p:List Int}(h:p∈e.hl):(e.kind=10/\p=[])\/(e.kind≠10/\∃(i:Nat)(y:Ex)(q:List Int),e.ch[i]?=some y/\q∈y.hl/\p=(i:Int)::q):=by
 rw[Ex.re]at h;split at h
 .rename_i k;exact .inl ⟨k,by simpa using h⟩
 .rename_i k;obtain⟨j,c,q,h1,h2,h3⟩:=AS h;rw[zaK,zac]at h1;obtain⟨y,hy,rfl⟩:=h1;rw[zbi]at h3;exact .inr ⟨k,j,y,q,hy,h2,h3⟩
def uz{x e y:Ex}{i:Nat}{q:List Int}(hy:e.ch[i]?=some y)(a:q∈y.hl):pt x ((i:Int)::q) e=e.lS (e.ch.set i (pt x q y)):=by
 have hi:=(zaa.1 hy).1;obtain⟨k,c⟩:=zbX a;have g1:=(Xf x y k q c).1;unfold pt;rw[Ex.cC,zan ⟨by omega,by omega⟩,zbx,hy];simp only;cases hp:Ex.cC x q y with
 |mk z b=>rw[hp]at g1;simp only at g1;subst g1;rfl
def QO{e:Ex}{c:List Ex}(h:c.length=e.ch.length):e.lS c=⟨e.kind,e.pos,e.name,e.num,c.take e.kids.length,cN e.aB (c.drop e.kids.length),e.ty⟩:=by
 rw[Ex.lS,zan (by rw[h,Ex.cM])]
def Jf{e:Ex}{c:List Ex}(h:c.length=e.ch.length):(e.lS c).ch=c:=sa (by rw[h,Ex.cM])
def D1:∀{as:List Ar}{l:List Ex},l.length=as.length->(cN as l).map (fun a=>(⟨0,a.cv,a.vars,a.body.strip⟩:Ar))=cN (as.map fun a=>(⟨0,a.cv,a.vars,a.body.strip⟩:Ar)) (l.map Ex.strip)
 |[],l,_=>by simp[wy]
 |a::as,[],h=>by simp at h
 |a::as,x::l,h=>by simp only[cN,zal,D1 (as:=as) (l:=l) (by simpa using h)]
def MR{e:Ex}{c:List Ex}(h:c.length=e.ch.length):(e.lS c).strip=e.strip.lS (c.map Ex.strip):=by
 have l:=Ex.cM (e:=e);have h2:(c.map Ex.strip).length=e.strip.ch.length:=by rw[iN,zak,zak,h]
 rw[QO h,QO h2,Ex.eo,eE,mN,yQ,fc,eF,nY];simp only[zak,zbr];rw[D1 (by simp;omega),zcu,Ex.eo e]
def D2(x e:Ex):∀p∈e.hl,(pt x p e).strip=pt x.strip p e.strip:=by
 refine Ex.recC (p:=fun e=>∀p∈e.hl,(pt x p e).strip=pt x.strip p e.strip) ?_ e;intro e f p hp;rcases A4 hp with⟨k,rfl⟩|⟨k,i,a,p,d,b,rfl⟩
 .rfl
 have c:e.strip.ch[i]?=some a.strip:=by rw[iN,zaK,d];rfl
 rw[uz d b,uz c (by rw[Qs];exact b),MR (by simp),zcz,f a (aK d) p b,iN]
def HP{e:Ex}{c:List Ex}:(e.lS c).kind=e.kind/\(e.lS c).ty=e.ty:=by
 unfold Ex.lS;split<;>exact⟨rfl,rfl⟩
def Jg{f:Ex->Bool}:∀{l:List Ex}{i:Nat}{y:Ex},i<l.length->l.any f=false->(l.set i y).any f=f y
 |a::r,0,y,_,h=>by
  simp only[zbC,zbE]at h;simp[h.2]
 |a::r,i+1,y,hi,h=>by
  simp only[zbC,zbE]at h;rw[List.set_cons_succ,zbC,h.1,Jg (by simpa using hi) h.2,Bool.false_or]
def Xn(x e:Ex):e.rh=false->∀p∈e.hl,(pt x p e).rh=x.rh:=by
 refine Ex.recC (p:=fun e=>e.rh=false->∀p∈e.hl,(pt x p e).rh=x.rh) ?_ e;intro e f h p hp;rcases A4 hp with⟨k,rfl⟩|⟨k,i,a,p,c,b,rfl⟩
 .simp[pt,Ex.cC]
 rw[Ex.wv,zbE]at h;have hi:=(zaa.1 c).1;have hl:(e.ch.set i (pt x p a)).length=e.ch.length:=by simp
 have d:a.rh=false:=by
  have:=h.2;rw[zbw]at this;simpa using this a (aK c)
 rw[uz c b,Ex.wv,Jf hl,HP.1,HP.2,h.1,Jg hi h.2,Bool.false_or];exact f a (aK c) d p b
def aar(x e:Ex)(hx:x.Tn):e.Tn->∀p∈e.hl,(pt x p e).Tn:=by
 refine Ex.recC (p:=fun e=>e.Tn->∀p∈e.hl,(pt x p e).Tn) ?_ e;intro e f h p hp;rcases A4 hp with⟨k,rfl⟩|⟨k,i,a,p,d,b,rfl⟩
 .simpa[pt,Ex.cC]using hx
 have hl:(e.ch.set i (pt x p a)).length=e.ch.length:=by simp
 rw[uz d b];refine .mk (by rw[HP.2];exact h.t) fun y hy=>?_;rw[Jf hl]at hy;rcases zaH hy with q|rfl
 .exact h.c y q
 .exact f a (aK d) (h.c a (aK d)) p b
def MS(e:Ex):e.strip.dp=e.dp:=by
 refine Ex.recC (p:=fun e=>e.strip.dp=e.dp) ?_ e;intro e a;rw[Ex.nJ,Ex.nJ e,iN,zbv];have:e.ch.map (Ex.dp ∘ Ex.strip)=e.ch.map Ex.dp:=zcy fun x hx=>a x hx
 rw[this]
def Xo(x:Ar):List AV:=.pv (vI x.pos)::.pv (.str x.cv)::.pv (.aq (x.vars.map .str))::x.body.cl
def Vd{e:Ex}{x:Ar}(hl:x.vars.length<=1000)(hn:∀s∈x.vars,nE s)(i:Nat):∀(n j:Nat),x.vars.length-j=n->j<=x.vars.length->
   cl AP g549L1 ⟨[(1,.au 1 0),(6,.pv (vI i)),(7,.au 7 0),(8,.pv (vI j))],[(1,e.cl),(7,Xo x)],[],[]⟩=
     some (if(x.vars.drop j).all tU then(.exit 3,⟨[(1,.au 1 0),(6,.pv (vI i)),(7,.au 7 0),(8,.pv (vI x.vars.length)),(152,.pv (.bool false))],[(1,e.cl),(7,Xo x)],[],[]⟩)
       else (.ret,⟨[(2,.pv (.bool false))],[],[],[]⟩))
 |0,j,b,hj=>by
  have:j=x.vars.length:=by omega
  subst this;rw[zaO,g549L1e];simp[g549B1,Xo,Ex.cl]
 |n+1,j,b,hj=>by
  have hj:j<x.vars.length:=(by omega);obtain⟨s,hs⟩:=aQ hj;have k:=c77 (hn s (aK hs));rw[<-PD]at k;have a:=Vd (e:=e) hl hn i n (j+1) (by omega) (by omega);rw[aR hs,zaQ];rw[g549L1e]at a⊢;simp[Xo,Ex.cl]at a;cases hl:tU s with
  |false=>
   rw[hl]at k;simp(disch:=omega)[-getElem?_pos,g549B1,hs,hj,k,Xo,Ex.cl]
  |true=>
   rw[hl]at k;simp(disch:=omega)[-getElem?_pos,g549B1,hs,hj,k,ae,Xo,Ex.cl];rw[g549L1e];simp[a]
def Ve{e:Ex}(hN:e.aB.length<=1000)(hn:∀a∈e.aB,Zj a):∀(n i:Nat),e.aB.length-i=n->i<=e.aB.length->
   cl AP g549L0 ⟨[(1,.au 1 0),(6,.pv (vI i))],[(1,e.cl)],[],[]⟩=
     some (if(e.aB.drop i).all Mr then(.exit 1,⟨[(1,.au 1 0),(6,.pv (vI e.aB.length)),(125,.pv (.bool false))],[(1,e.cl)],[],[]⟩)
       else (.ret,⟨[(2,.pv (.bool false))],[],[],[]⟩))
 |0,i,l,hi=>by
  have:i=e.aB.length:=by omega
  subst this;rw[zaO,g549L0e];simp[g549B0,Ex.cl]
 |n+1,i,l,hi=>by
  have hi:i<e.aB.length:=(by omega);obtain⟨x,hx⟩:=aQ hi;obtain⟨k,n2,j⟩:=hn x (aK hx);have h:=Ve hN hn n (i+1) (by omega) (by omega);have k1:=c78 k;rw[<-PC]at k1;have d:=Vd (e:=e) (x:=x) n2 j i _ 0 rfl (by omega);rw[zaj,g549L1e]at d;rw[aR hx,zaQ];have hv:Mr x=(!decide (x.pos<0) && (Dh x.cv && (!decide (4<x.vars.length) && x.vars.all tU))):=rfl;rw[hv];generalize x.vars.all tU=b at*;generalize Dh x.cv=u at*;rw[g549L0e]at h⊢;simp[Xo,Ex.cl]at h d;by_cases f:x.pos<0
  .simp(disch:=omega)[-getElem?_pos,Ex.cl,g549B0,hx,hi,f]
  .cases u with
   |false=>simp(disch:=omega)[-getElem?_pos,Ex.cl,g549B0,hx,hi,f,k1]
   |true=>
    by_cases g:4<x.vars.length
    .have c:4<(x.vars.length:Int):=(by omega);simp(disch:=omega)[-getElem?_pos,Ex.cl,g549B0,hx,hi,f,k1,g,c]
    .have c:¬4<(x.vars.length:Int):=(by omega);cases b with
     |false=>
      simp at d;simp(disch:=omega)[-getElem?_pos,Ex.cl,g549B0,hx,hi,f,k1,g,c,g549L1e,d]
     |true=>
      simp at d;simp(disch:=omega)[-getElem?_pos,Ex.cl,g549B0,hx,hi,f,k1,g,c,g549L1e,d,ae];rw[g549L0e];simp[h]
def Vf{ch:List Ex}(hN:ch.length<=1000000)(a:∀x∈ch,(az AP).p 549 [x.pv]=some [.bool x.lH]):∀(n i:Nat),ch.length-i=n->i<=ch.length->
   cl AP g549L2 ⟨[(9,.pv (.aq (ch.map Ex.pv))),(10,.pv (vI i))],[],[],[]⟩=
     some (if(ch.drop i).all Ex.lH then(.exit 5,⟨[(9,.pv (.aq (ch.map Ex.pv))),(10,.pv (vI ch.length)),(167,.pv (.bool false))],[],[],[]⟩)else(.ret,⟨[(2,.pv (.bool false))],[],[],[]⟩))
 |0,i,b,hi=>by
  have:i=ch.length:=by omega
  subst this;rw[zaO,g549L2e];simp[g549B2]
 |n+1,i,b,hi=>by
  have hi:i<ch.length:=(by omega);obtain⟨x,hx⟩:=aQ hi;have k:=a x (aK hx);have e:=Vf hN a n (i+1) (by omega) (by omega);rw[aR hx,zaQ];rw[g549L2e]at e⊢;simp at k e;cases hv:x.lH with
  |false=>
   rw[hv]at k;simp(disch:=omega)[-getElem?_pos,g549B2,hx,hi,k]
  |true=>
   rw[hv]at k;simp(disch:=omega)[-getElem?_pos,g549B2,hx,hi,k,ae];rw[g549L2e];simp[e]
def c549(e:Ex):e.Ok->e.pW->(az AP).p 549 [e.pv]=some [.bool e.lH]:=by
 refine Ex.recC (p:=fun e=>e.Ok->e.pW->(az AP).p 549 [e.pv]=some [.bool e.lH]) ?_ e;intro e l h hn;obtain⟨X,n,b⟩:=Sr (e:=e);have g:=Ve (e:=e) h.a hn.a _ 0 rfl (by omega);have k2:=c145 h;have hN:e.ch.length<=1000000:=by rw[Ex.cM];have:=h.k;have:=h.a;omega
 have k3:=Vf hN (fun x hx=>l x hx (h.c x hx) (hn.c x hx)) _ 0 rfl (by omega);have kn:=Su (e:=e) hn;have f:=Sv h hn;rw[Ex.rZ];have m:g549.body=.seq (bA g549.body) (.seq (bA (bp g549.body)) (.seq qM (.seq xm (.seq Ms (.seq Sq Wx))))):=rfl;rw[aw g549,m];rw[zaj,g549L0e]at g;rw[zaj,g549L2e]at k3;have q:=Ex.hU e;have o:=Ex.aX e;cases i:bV e.kind with
 |none=>
  rw[i]at b;simp at b;simp[bA,bp,g549,b]
 |some p=>
  obtain⟨nm,kd⟩:=p;rw[i]at b;have d:=Ss (e:=e) (Di i) (A:=Uf e) (W:=Dl e.kind) n rfl;simp only at b⊢;rw[Hm i];generalize Uf e=A at*;generalize Dl e.kind=W at*;cases h1:e.nv kd with
  |false=>
   rw[h1]at d;simp at b d;simp[bA,bp,g549,b,d]
  |true=>
  rw[h1]at d;cases h2:e.xE with
  |false=>
   rw[h2]at kn;simp at b d kn;simp[bA,bp,g549,b,d,kn]
  |true=>
  rw[h2]at kn;cases h3:e.C3 with
  |false=>
   rw[h3]at f;simp at b d kn f;simp[bA,bp,g549,b,d,kn,f]
  |true=>
  rw[h3]at f;cases j:e.aB.all Mr with
  |false=>
   rw[j]at g;simp at b d kn f g;simp[bA,bp,g549,Wx,b,d,kn,f,g549L0e,g]
  |true=>
  rw[j]at g;cases hc:e.ch.all Ex.lH<;>rw[hc]at k3<;>simp at b d kn f g k2 k3<;>simp[bA,bp,g549,Wx,b,d,kn,f,g549L0e,g,k2,g549L2e,k3]
def QP(F G:D9):D9:=if F.1≠0 then F else G
def aas{ds:List Dt}{b:List bj}{e:Ex}(d:r_ e)(hn:b.length<=900000000)
   (l:∀i,∀x∈e.ch,(az AP).p 366 [.aq (ds.map Dt.pv),.aq ((b++dv e i).map .str),x.pv]=some [fP (x.aI ds (b++dv e i))]):∀(n i:Nat),e.ch.length-i=n->i<=e.ch.length->∀F:D9,(F.1=0->F=(0,0))->∃j:Int,
   cl AP g366L0 ⟨[(0,.pv (.aq (ds.map Dt.pv))),(1,.pv (.aq (b.map .str))),(5,.au 5 0),(6,.au 6 0),(7,.au 7 0),(12,.pv (.aq (e.ch.map Ex.pv))),(13,.pv (vI i))],[(5,e.cl),(6,m2 (0,0)),(7,m2 F)],[],[]⟩=
     some (.exit 1,⟨[(0,.pv (.aq (ds.map Dt.pv))),(1,.pv (.aq (b.map .str))),(5,.au 5 0),(6,.au 6 0),(7,.au 7 0),(12,.pv (.aq (e.ch.map Ex.pv))),(13,.pv (vI j)),(69,.pv (.bool false))],[(5,e.cl),(6,m2 (0,0)),(7,m2 (QP F (r5 (fun i x=>x.aI ds (b++dv e i)) i (e.ch.drop i))))],[],[]⟩)
 |0,i,u,hi,F,hF=>by
  have:i=e.ch.length:=by omega
  subst this;refine⟨e.ch.length,?_⟩;rw[zaO]
  have:QP F (r5 (fun i x=>x.aI ds (b++dv e i)) e.ch.length [])=F:=by
   unfold QP;split
   .rfl
   .rename_i q;exact(hF (by simpa using q)).symm
  rw[this];generalize e.ch=C;rw[g366L0e];simp[g366B0]
 |n+1,i,u,hi,F,hF=>by
  have hi:i<e.ch.length:=(by omega);by_cases c:F.1=0
  .obtain⟨x,hx⟩:=aQ hi;have r:=Ex.cM (e:=e);have t:=d.ok.k;have s:=d.ok.a;obtain⟨j,hr⟩:=aas d hn l n (i+1) (by omega) (by omega) (x.aI ds (b++dv e i)) Du;refine⟨j,?_⟩;have k1:=c380 hi d.one.h d.ok;have v:=ku d.ok (i:=i);have w:(b.length+(dv e i).length)*16<=140737488355328:=by omega
   have g:b.length*16<=140737488355328:=(by omega);have m:(dv e i).length*16<=140737488355328:=(by omega);have k3:=l i x (aK hx);rw[aR hx]
   have f:QP F (r5 (fun i x=>x.aI ds (b++dv e i)) i (x::e.ch.drop (i+1)))=QP (x.aI ds (b++dv e i)) (r5 (fun i x=>x.aI ds (b++dv e i)) (i+1) (e.ch.drop (i+1))):=by
    simp only[QP,r5,c];simp
   rw[f];clear f;generalize y:QP (x.aI ds (b++dv e i)) (r5 (fun i x=>x.aI ds (b++dv e i)) (i+1) (e.ch.drop (i+1)))=G at*;generalize z:x.aI ds (b++dv e i)=A at*;clear l y;have o:=hF c;subst o;generalize dv e i=B at*;generalize e.ch=C at*;rw[g366L0e]at hr⊢;simp at k1 k3 hr;by_cases h1:b=[]
   .subst h1;simp only[zaJ]at hr;by_cases h2:B=[]
    .subst h2;simp at k3;simp(disch:=omega)[-getElem?_pos,g366B0,hi,hx,k1,k3,ae];rw[g366L0e];simp[hr]
    .simp at k3;simp(disch:=omega)[-getElem?_pos,g366B0,hi,hx,k1,k3,h2,m,ae];rw[g366L0e];simp[hr]
   .by_cases h2:B=[]
    .subst h2;simp at k3;simp(disch:=omega)[-getElem?_pos,g366B0,hi,hx,k1,k3,h1,g,ae];rw[g366L0e];simp[hr]
    .simp(disch:=omega)[-getElem?_pos,g366B0,hi,hx,k1,k3,h1,h2,w,g,ae];rw[g366L0e];simp[hr]
  .refine⟨i,?_⟩;have:QP F (r5 (fun i x=>x.aI ds (b++dv e i)) i (e.ch.drop i))=F:=by simp[QP,c]
   rw[this];generalize e.ch=C at*;rw[g366L0e];simp[g366B0,hi,c]
def c366{ds:List Dt}(hS:Sm ds)(hc:∀d∈ds,Sm d.cons):∀(n:Nat){e:Ex},r_ e->e.oZ n->∀f:List bj,f.length+1000*n<=900000000->(az AP).p 366 [.aq (ds.map Dt.pv),.aq (f.map .str),e.pv]=some [fP (e.aI ds f)]
 |0,e,_,z,_,_=>by cases z
 |n+1,e,o,z,f,hl=>by
  have B:∀i,∀x∈e.ch,(az AP).p 366 [.aq (ds.map Dt.pv),.aq ((f++dv e i).map .str),x.pv]=some [fP (x.aI ds (f++dv e i))]:=fun i x hx=>
   c366 hS hc n (o.c hx) (z.c x hx) _ (by have:=ku o.ok (i:=i);simp;omega)
  obtain⟨j,h⟩:=aas o (by omega) B _ 0 rfl (by omega) (eS ds f e) Hr;have k1:=c145 o.ok;rw[zaj]at h;rw[Ex.Hq]
  change _=some [fP (QP (eS ds f e) (r5 (fun i x=>x.aI ds (f++dv e i)) 0 e.ch))]
  clear B;have k2:=c364 (s:=f) (by unfold Sm;omega) (y:=e.name);have k3:=c191 hS hc (s:=e.name);have k4:=c379 hS hc o.ok;have k5:=c186 hS (l:=[]) (by simp[Sm]) o.ok.t o.cw.h;have A:=c365 (a:=9) (b:=e.pos);have fT:=c365 (a:=e.ty.formed ds []) (b:=e.pos);generalize QP (eS ds f e) (r5 (fun i x=>x.aI ds (f++dv e i)) 0 e.ch)=G at*;generalize e.ch=C at*;rw[aw g366];rw[g366L0e]at h;simp at k1 k2 k3 k4 k5 A fT;generalize D:oY ds e=Q at*;generalize hT:e.ty.formed ds []=T at*;by_cases m:e.kind=1
  .simp only[m]at k1;by_cases v:e.name∈f
   .simp[eS,m,v]at h;simp[v]at k2;simp[g366,m,k1,k2,g366L0e,h]
   .simp[eS,m,v]at h;simp[v]at k2;simp[g366,m,k1,k2,A,g366L0e,h]
  .by_cases k:e.kind=2
   .simp only[k]at k1;cases u:ix ds e.name 0 with
    |none=>
     rw[u]at k3;simp[rF]at k3;simp[eS,k,u]at h;simp[g366,k,k1,k3,A,g366L0e,h]
    |some r=>
     rw[u]at k3;simp[rF]at k3;simp[eS,k,u]at h;simp[g366,k,k1,k3,g366L0e,h]
   .by_cases q:e.kind=8
    .simp only[q]at k1;simp[q]at k4;simp[eS,q,D]at h;simp[g366,q,k1,k4,g366L0e,h]
    .by_cases g:e.kind=9
     .simp only[g]at k1;by_cases w:T=0
      .subst w;simp[eS,g,hT]at h;simp[g366,g,k1,k5,g366L0e,h]
      .simp[eS,g,hT,w]at h;simp[g366,g,w,k1,k5,fT,g366L0e,h]
     .simp[eS,m,k,q,g]at h;simp[g366,m,k,q,g,k1,g366L0e,h]
structure Vg(ds:List Dt)(T:List Bd->bj)(bs:List Bd)(x:Ex):Prop where
 b:∀b∈bs,r_ b.body/\b.body.Tn/\b.body.rh=false
 ok:∀(i:Nat)(b:Bd)(p:List Int),bs[i]?=some b->p∈b.body.hl->(pt x p b.body).Ok/\(pt x p b.body).sz<=100000000
 tx:∀(i:Nat)(b:Bd)(p:List Int),bs[i]?=some b->p∈b.body.hl->(az AP).p 312 [.agg [.aq ((ds.map Dt.strip).map Dt.pv),.aq ((eG bs i b p x).map Bd.pv)]]=some [.str (T (eG bs i b p x))]/\(T (eG bs i b p x)).length<=130000000000000
def Bd.wb(b:Bd)(r:Ex):Bd:=⟨b.pos,b.rc,b.name,b.sg,b.sig,r⟩
def MT{bs:List Bd}{i:Nat}{b:Bd}{p:List Int}{x:Ex}(hp:p∈b.body.hl):(bs.set i (b.wb (pt x p b.body))).map Bd.strip=eG bs i b p x:=by
 rw[zcz];show(bs.map Bd.strip).set i (⟨0,b.rc,b.name,b.sg,b.sig,(pt x p b.body).strip⟩:Bd)=_;rw[D2 x b.body p hp];rfl
def c537{ds:List Dt}{T:List Bd->bj}{bs:List Bd}{h:Int}{x:Ex}(H:AY ds T bs h x)(R:Vg ds T bs x):
   (az AP).p 537 [.agg [.aq (ds.map Dt.pv),.aq (bs.map Bd.pv)],vI h,x.pv]=some (l0 ds T bs h x):=by
 have k1:=c533 (ds:=ds) H.b H.h1;have k4:=c531 (ds:=ds) H.b.h H.h1;unfold l0;unfold nW at k1;rw[aw g537];cases hf:(if h<0 then none else dh 0 bs h)with
 |none=>
  rw[hf]at k1;simp at k1;simp[g537,pZ,k1]
 |some r=>
  obtain⟨i,p⟩:=r
  have A:dh 0 bs h=some (i,p):=by
   split at hf
   .cases hf
   .exact hf
  obtain⟨j,b,hj,k,hp⟩:=iq A;have:j=i:=by omega
  subst this;have hi:=(zaa.1 k).1;have F:=aK k;have hl:=H.b.h.1;have J:=H.b.dp b F p hp;obtain⟨b1,b2,b3⟩:=R.b b F;rw[hf]at k1 k4;simp only[k]at k1⊢;simp only[kD,pX]at k4;have k2:=c549 x H.sc.ok H.nm;obtain⟨n,w,v⟩:=H.hl;have k3:=c366 (ds:=ds) (by unfold Sm;have:=H.dl;omega) (fun d hd=>by unfold Sm;have:=(H.d d hd).2;omega) n H.sc w (dE (sD bs j b p)) (v j b p k hp);have k5:=c359f (x:=x) p b.body (by omega) b1;obtain⟨o1,o2⟩:=R.ok j b p k hp;have k6:=c550 o1 (aar x b.body H.tn b2 p hp) o2
  have k7:=c551 (ds:=ds) (bs:=bs.set j (b.wb (pt x p b.body))) H.d H.dl (fun c hc=>by
   rcases zaH hc with q|rfl
   .exact(H.b.h.2 c q).1
   .exact o1) (by simp;omega)
  rw[MT hp]at k7;obtain⟨k8,hT⟩:=R.tx j b p k hp;have C:(pt x p b.body).dp=(Ex.cC x.strip p b.body.strip).1.dp:=by rw[<-MS,D2 x b.body p hp];rfl
  rw[C,Xn x b.body b3 p hp]at k6;have hm:=HJ (l:=bs)
  have a:=gU dL k (y:=b.wb (pt x p b.body)) (o:=9) (vs:=(pt x p b.body).cells) (by rw[bo.len];omega) (by
   have h2:=bo.len (pt x p b.body);rw[h2];have e1:b.cells.take 9=[vI b.pos,.bool b.rc,.str b.name,.bool b.sg,vI b.sig.kind,.str b.sig.name,vI b.sig.id,vI b.sig.home,.aq (b.sig.args.map Ty.pv)]:=rfl;have e2:b.cells.drop (9+11)=[]:=zaM (by rw[dL.len];omega);rw[e1,e2,zax];rfl)
  rw[Ex.hU]at a;have G:=sq (l:=bs.set j (b.wb (pt x p b.body)));rw[zaN]at G;have f1:(aI Bd.cells bs).length=bs.length*20:=a_ dL;have f2:(aI Bd.cells (bs.set j (b.wb (pt x p b.body)))).length=bs.length*20:=by rw[a_ dL,zaN]
  have L:bW (aI Bd.cells bs)=false:=bw aN;have E:bs.length*256<=140737488355328:=(by omega);have u:bs≠[]:=by intro e;subst e;simp at hi
  have z:j*20+9+11<=bs.length*20:=(by omega);have I:=Sw x;have M:b=⟨b.pos,b.rc,b.name,b.sg,b.sig,b.body⟩:=rfl;have e5:(Ex.cC x p b.body).1=pt x p b.body:=rfl;rw[e5]at k5;have K:∀aH ts,bg aH ts [some (aI Bd.cells bs)]=([some (aI Bd.cells bs)],aH,ts):=(aG.one aN).norm;have t:∀aH ts,bg aH ts [some (aI Bd.cells (bs.set j (b.wb (pt x p b.body))))]=([some (aI Bd.cells (bs.set j (b.wb (pt x p b.body))))],aH,ts):=(aG.one aN).norm;clear A hf hp J b1 b2 b3 w v o1 o2 R e5 C;generalize bs.set j (b.wb (pt x p b.body))=S at*;generalize eG bs j b p x=B at*;generalize (Ex.cC x p b.body).2=r2 at*;generalize pt x p b.body=y at*;generalize (Ex.cC x.strip p b.body.strip).1=r at*;generalize ds.map Dt.strip=D at*;generalize dE (sD bs j b p)=N at*;generalize x.aI ds N=f at*;generalize T B=TX at*;generalize aI Bd.cells S=Q at*;generalize aI Bd.cells bs=TB at*;simp[fP]at k1 k2 k3 k4 k5 k6 k7 k8;cases m:x.lH with
  |false=>
   rw[m]at k2;simp[g537,pZ,k1,k2]
  |true=>
  rw[m]at k2;rw[I m]at k6;by_cases g:f.1=0
  rotate_left
  .simp[g537,pZ,k1,k2,k3,g]
  have O:(TX.length:Int)<=130000000000000:=(by omega);simp[Ex.cl]at a;simp at G hm;by_cases c1:40<r.dp
  .have P:40<(r.dp:Int):=(by omega);simp[c1]at k6;simp(disch:=omega)[-getElem?_pos,g537,pZ,k1,k2,k3,g,k4,k5,k6,hi,k,c1]
  cases c2:x.yq with
  |true=>
   rw[c2]at k6;simp at k6;simp(disch:=omega)[-getElem?_pos,g537,pZ,k1,k2,k3,g,k4,k5,k6,hi,k,c1]
  |false=>
   rw[c2]at k6;simp[c1]at k6;by_cases c3:4000<TX.length
   .have s:4000<(TX.length:Int):=(by omega);simp(config:={maxSteps:=1000000}) (disch:=omega) [-getElem?_pos,g537,pZ,k1,k2,k3,g,k4,k5,k6,k7,k8,hi,k,c1,u,E,hm,K,t,L,f1,f2,z,a,G,c3,s]
   .have s:¬4000<(TX.length:Int):=(by omega);simp(config:={maxSteps:=1000000}) (disch:=omega) [-getElem?_pos,g537,pZ,k1,k2,k3,g,k4,k5,k6,k7,k8,hi,k,c1,u,E,hm,K,t,L,f1,f2,z,a,G,c3,s]
structure Xp(d:Dt):Prop where
 l:(pU d).length<=1000
 p:d.params.length<=1000
 c:d.cons.length<=1000
 f:∀c∈d.cons,c.fields.length<=1000
 t:∀c∈d.cons,∀x∈c.fields,(az AP).p 270 [x.pv]=some [.str (tX x)]
theorem D3:∀(l:List cd)(i:Nat),lZ i (l.map cd.p0)=lZ i l
 |[],_=>rfl
 |c::r,i=>by simp only[zal,lZ,D3 r];rfl
def wP(d:Dt):pU d.strip=pU d:=by
 unfold pU;show[100,97,116,97,32]++(d.name++(d.params.flatMap (fun s=>32::s)++([32,61]++(lZ 0 (d.cons.map cd.p0)++[59,10]))))=_;rw[D3]
def HQ{d:Dt}(hd:d∈bf):Xp d.strip where
 l:=by rw[wP];exact QG d hd
 p:=by obtain⟨e1,_,e2,e3⟩:=nK d hd;show d.params.length<=1000;omega
 c:=by obtain⟨e1,_,e2,e3⟩:=nK d hd;show(d.cons.map cd.p0).length<=1000;rw[zak];omega
 f:=fun c hc=>by
  obtain⟨e1,_,e2,e3⟩:=nK d hd;obtain⟨c0,h0,rfl⟩:=zat.1 hc;have:=e3 c0 h0;show c0.fields.length<=1000;omega
 t:=fun c hc x hx=>by
  obtain⟨c0,h0,rfl⟩:=zat.1 hc;exact c270f d hd c0 h0 x hx
def c336t:∀d∈bf,(az AP).p 336 [d.strip.pv]=some [.str (pU d)]:=by
 intro d hd;simp only[bf,zau,zbu,zci]at hd;rcases hd with rfl|rfl|rfl|rfl|rfl|rfl|rfl<;>exact Fc.L6 (k:=400) (n:=40) (by kernel_rfl)
def TI{d:Dt}(hd:d∈bf):D0 d=pU d:=by
 have h:=(c336s d hd).symm.trans (c336t d hd);simpa using h
def Vh{ds:List Dt}{bs:List Bd}(f:∀d∈ds,Xp d)(g:ds.length<=1000):∀(n i:Nat),ds.length-i=n->i<=ds.length->∀acc:bj,acc.length+((ds.drop i).flatMap pU).length<=1000000000000000000->
   cl AP g312L0 ⟨[(1,.au 1 0),(3,.pv (.str acc)),(4,.pv (vI i))],[(1,ev ds bs)],[],[]⟩=
     some (.exit 0,⟨[(1,.au 1 0),(3,.pv (.str (acc++(ds.drop i).flatMap pU))),(4,.pv (vI ds.length)),(15,.pv (.bool false))],[(1,ev ds bs)],[],[]⟩)
 |0,i,hn,hi,acc,a=>by
  have:i=ds.length:=by omega
  subst this;rw[g312L0e];simp[g312B0,ev]
 |n+1,i,hn,hi,acc,a=>by
  have hi:i<ds.length:=(by omega);obtain⟨d,hd⟩:=aQ hi;have e:=f d (aK hd);rw[aR hd,zav]at a⊢;simp only[zad]at a;have b:=Vh (bs:=bs) f g n (i+1) (by omega) (by omega) (acc++pU d) (by simp only[zad];omega);obtain⟨hl,e1,e2,e3,e4⟩:=e;unfold pU at b a hl⊢;simp only[zad,zae,zao]at a hl;have h1:=U7 (ds:=ds) (bs:=bs) (d:=d) (I:=i) (by omega) _ 0 rfl (by omega) (acc++([100,97,116,97,32]++d.name)) (by simp only[zad,zae,zao,zaj];omega);rw[zaj]at h1;have h2:=U9 (ds:=ds) (bs:=bs) (d:=d) (I:=i) (by omega) (fun c hc=>by have:=e3 c hc;omega) e4 _ 0 rfl (by omega) (acc++([100,97,116,97,32]++d.name)++(d.params.flatMap fun s=>32::s)++[32,61]) (by simp only[zad,zae,zao,zaj];omega);rw[zaj]at h2;generalize h:(ds.drop (i+1)).flatMap (fun d=>[100,97,116,97,32]++(d.name++(d.params.flatMap (fun s=>32::s)++([32,61]++(lZ 0 d.cons++[59,10])))))=R at*;generalize d.params.flatMap (fun s=>32::s)=j at*;generalize lZ 0 d.cons=k at*;rw[g312L1e]at h1;rw[g312L2e]at h2;rw[g312L0e]at b⊢;simp[ev,dC]at b h1 h2;simp(disch:=first|omega|(simp only[zad,zae,zao];omega)) [-bu,b_,-getElem?_pos,g312B0,ev,dC,hd,hi,ae,g312L1e,h1];simp(disch:=first|omega|(simp only[zad,zae,zao];omega)) [-bu,b_,-getElem?_pos,ev,dC,ae,g312L2e,h2];rw[g312L0e];simp[b]
structure BdZ(b:Bd)(p:bj×bj):Prop where
 t:(az AP).p 263 [b.sig.pv]=some [.str p.1]
 e:(az AP).p 249 [b.body.pv]=some [.str p.2]
 l1:p.1.length<=10000
 l2:p.2.length<=30000000000000
 n:b.name.length<=100
 k:(az AP).p 337 [b.pv]=some [.str (Ed b p)]
def c337z{b:Bd}(h:Xl b):∃p,BdZ b p:=by
 obtain⟨s,d,k1,k2⟩:=AU Jd b.sig h.st (by have:=h.sn;omega);have hw:=h.w;have a:=h.sn;have hn:=h.nm;obtain⟨u,c,k3,k4⟩:=Jc Jd h.tx (by omega);refine⟨(s,u),k2,k4,by simp only;omega,by simp only;omega,hn,?_⟩;rw[aw g337];simp at k1 k3
 cases hr:b.rc<;>cases hs:b.sg <;>
   simp (disch:=first|omega|(simp only[zad,zae,zao];omega)) [-bu,b_,g337,Ed,hr,hs,k1,k3]
def Vi{ds:List Dt}{bs:List Bd}{f:Bd->bj×bj}(hf:∀b∈bs,BdZ b (f b))(g:bs.length<=1000):∀(n i:Nat),bs.length-i=n->i<=bs.length->∀acc:bj,acc.length+((bs.drop i).flatMap fun b=>Ed b (f b)).length<=1000000000000000000->
   cl AP g312L4 ⟨[(1,.au 1 0),(3,.pv (.str acc)),(9,.pv (vI i))],[(1,ev ds bs)],[],[]⟩=
     some (.exit 8,⟨[(1,.au 1 0),(3,.pv (.str (acc++(bs.drop i).flatMap fun b=>Ed b (f b)))),(9,.pv (vI bs.length)),(95,.pv (.bool false))],[(1,ev ds bs)],[],[]⟩)
 |0,i,hn,hi,acc,a=>by
  have:i=bs.length:=by omega
  subst this;rw[g312L4e];simp[g312B4,ev]
 |n+1,i,hn,hi,acc,a=>by
  have hi:i<bs.length:=(by omega);obtain⟨b,d⟩:=aQ hi;have X:=hf b (aK d);rw[aR d,zav]at a⊢;simp only[zad]at a;have c:=Vi (ds:=ds) hf g n (i+1) (by omega) (by omega) (acc++Ed b (f b)) (by simp only[zad];omega);generalize (bs.drop (i+1)).flatMap (fun b=>Ed b (f b))=R at*;obtain⟨k1,k2,l1,l2,e,_⟩:=X;generalize hp:f b=p at*;obtain⟨s,u⟩:=p;simp only[Ed]at c a k1 k2 l1 l2⊢;simp only[zad,zae,zao]at a;rw[g312L4e]at c⊢;simp at k1 k2
  cases hr:b.rc<;>cases hs:b.sg<;>simp[ev,hr,hs]at c a <;>
    simp (disch:=first|omega|(simp only[zad,zae,zao];omega)) [-bu,b_,-getElem?_pos,g312B4,ev,d,hi,hr,hs,k1,k2,ae]<;>
    rw[g312L4e]<;>simp[c]
def c312s{ds:List Dt}{bs:List Bd}(c:oJ ds)(h4:bs.length<=4)(g:∀b∈bs,Xl b):
   (az AP).p 312 [.agg [.aq ((ds.map Dt.strip).map Dt.pv),.aq (bs.map Bd.pv)]]=some [.str (Je ds bs)]:=by
 obtain⟨f,hf⟩:=skolem fun b n=>c337z (g b n);have m:=c.len
 have hl:=(c311s c h4 g).2
 have t1:ds.flatMap D0=(ds.map Dt.strip).flatMap pU:=by
  rw[List.flatMap_map]
  have:∀l:List Dt,(∀d∈l,d∈bf)->l.flatMap D0=l.flatMap fun d=>pU d.strip:=by
   intro l;induction l with
   |nil=>intro _;rfl
   |cons a r e=>intro h;rw[zav,zav,e fun x hx=>h x (by simp[hx]),TI (h a (by simp)),wP]
  exact this ds c.all
 have t2:bs.flatMap TG=bs.flatMap fun b=>Ed b (f b):=by
  have:∀l:List Bd,(∀b∈l,b∈bs)->l.flatMap TG=l.flatMap fun b=>Ed b (f b):=by
   intro l;induction l with
   |nil=>intro _;rfl
   |cons a r e=>
    intro h;have j:=h a (by simp);have q:=(HO (g a j)).1.symm.trans (hf a j).k;have q:TG a=Ed a (f a):=by simpa using q
    rw[zav,zav,e fun x hx=>h x (by simp[hx]),q]
  exact this bs fun _ h=>h
 unfold Je at hl⊢;rw[t1,t2]at hl⊢;rw[zad]at hl
 have i:∀d∈ds.map Dt.strip,Xp d:=fun d hd=>by
  obtain⟨o,h0,rfl⟩:=zat.1 hd;exact HQ (c.all o h0)
 have e1:=Vh (bs:=bs) i (by simp;omega) _ 0 rfl (by omega) [] (by simp only[zaj,zao];omega);have e2:=Vi (ds:=ds.map Dt.strip) hf (by omega) _ 0 rfl (by omega) ((ds.map Dt.strip).flatMap pU) (by simp only[zaj];omega);rw[zaj]at e1 e2;clear hf;generalize ds.map Dt.strip=D at*;generalize D.flatMap pU=A at*;generalize bs.flatMap (fun b=>Ed b (f b))=B at*;rw[aw g312];rw[g312L0e]at e1;rw[g312L4e]at e2;simp[ev]at e1 e2;simp[g312,g312L0e,e1];simp[g312L4e,e2]
def c536v{ds:List Dt}{T:List Bd->bj}{bs:List Bd}{h:Int}{x:Ex}(B:Xk bs)(h1:h<=9223372036854775807)(c:x.Ok)(hn:x.pW)(hv:x.lH=false):
   (az AP).p 536 [.agg [.aq (ds.map Dt.pv),.aq (bs.map Bd.pv)],vI h,x.pv]=some (l0 ds T bs h x):=by
 have k1:=c532 (ds:=ds) B h1;unfold l0;unfold nW at k1;rw[aw g536];cases hf:(if h<0 then none else dh 0 bs h)with
 |none=>
  rw[hf]at k1;simp at k1;simp[g536,pZ,k1]
 |some r=>
  obtain⟨i,p⟩:=r
  have a:dh 0 bs h=some (i,p):=by
   split at hf
   .cases hf
   .exact hf
  obtain⟨j,b,hj,d,hp⟩:=iq a;have:j=i:=by omega
  subst this;rw[hf]at k1;simp only[d]at k1⊢;have k2:=c483 x c hn;rw[hv]at k2;simp at k1 k2;simp[g536,pZ,k1,k2,hv]
def c537v{ds:List Dt}{T:List Bd->bj}{bs:List Bd}{h:Int}{x:Ex}(B:Xk bs)(h1:h<=9223372036854775807)(c:x.Ok)(hn:x.pW)(hv:x.lH=false):
   (az AP).p 537 [.agg [.aq (ds.map Dt.pv),.aq (bs.map Bd.pv)],vI h,x.pv]=some (l0 ds T bs h x):=by
 have k1:=c533 (ds:=ds) B h1;unfold l0;unfold nW at k1;rw[aw g537];cases hf:(if h<0 then none else dh 0 bs h)with
 |none=>
  rw[hf]at k1;simp at k1;simp[g537,pZ,k1]
 |some r=>
  obtain⟨i,p⟩:=r
  have a:dh 0 bs h=some (i,p):=by
   split at hf
   .cases hf
   .exact hf
  obtain⟨j,b,hj,d,hp⟩:=iq a;have:j=i:=by omega
  subst this;rw[hf]at k1;simp only[d]at k1⊢;have k2:=c549 x c hn;rw[hv]at k2;simp at k1 k2;simp[g537,pZ,k1,k2,hv]
def BdL(bs:List Bd):Prop:=∀b∈bs,b.body.Tn/\b.body.rh=false
def aat{ds:List Dt}{bs:List Bd}{x:Ex}(j:oJ ds)(h4:bs.length<=4)(e:∀b∈bs,BdE b)(hS:BdL bs)(hx:lE x):Vg ds (Je ds) bs x where
 b:=fun b d=>⟨(e b d).sc,(hS b d).1,(hS b d).2⟩
 ok:=fun i b p d hp=>by
  have o:=e b (aK d);obtain⟨m,_,_,f⟩:=mM hx.sc hx.hl p b.body 300 o.sc o.h;have w1:=o.w;have k:=hx.w;exact⟨m.ok,by show(Ex.cC x p b.body).1.sz<=_;omega⟩
 tx:=fun i b p d hp=>by
  have g:∀c∈eG bs i b p x,Xl c:=fun c hc=>by
   rcases zaH hc with h|rfl
   .rw[zat]at h;obtain⟨a,n,rfl⟩:=h;have o:=e a n;exact⟨o.st,o.sn,o.nm,l3 o.tx,by have:=o.w;show a.body.strip.sz<=_;rw[je];omega⟩
   .have o:=e b (aK d);obtain⟨_,_,l,f⟩:=mM (hZ hx.sc) (gi hx.hl) p b.body.strip 300 (hZ o.sc) (gi o.h);have w1:=o.w;have k:=hx.w;rw[je,je]at f;exact⟨o.st,o.sn,o.nm,l (l3 hx.tx) (l3 o.tx),by show(Ex.cC x.strip p b.body.strip).1.sz<=_;omega⟩
  have hl:(eG bs i b p x).length<=4:=(by unfold eG;rw[zaN,zak];exact h4);exact⟨c312s j hl g,(c311s j hl g).2⟩
def l4(x:Ex):Ex:=⟨11,0,[],0,[x],[],bF⟩
theorem k_(x:Ex):(l4 x).ch=[x]:=rfl
def QQ(x:Ex):(l4 x).lH=x.lH:=by
 rw[Ex.rZ,k_];simp[l4,bV,Ex.Ax]
def Jh{x:Ex}(h:x.Ok):(l4 x).Ok:=.mk (by simp[l4]) (by simp[l4]) (by simp[l4]) (cW rfl) (by rw[k_];simpa using h)
def Ji{x:Ex}(h:x.pW):(l4 x).pW:=.mk (by simp[l4,nE]) (.mk (by simp[l4,bF,nE]) (by simp[l4,bF])) (by simp[l4]) (by rw[k_];simpa using h)
def MU{x:Ex}(h:lE x)(hl:x.oZ 99)(hw:x.sz<=400000):lE (l4 x) where
 sc:=⟨Jh h.sc.ok,.mk (by simp[l4]) (by rw[k_];simpa using h.sc.one),.mk (by show bF.Cw;exact .mk (by simp[bF]) (by simp[bF])) (by rw[k_];simpa using h.sc.cw)⟩
 nm:=Ji h.nm
 tn:=.mk (by show bF.nodes.length<=_;rw[Ty.aL];simp[bF]) (by rw[k_];simpa using h.tn)
 hl:=.mk (by rw[k_];simpa using hl)
 tx:=.held rfl rfl rfl h.tx
 w:=by rw[Ex.jd,k_];simp;omega
structure Vj where
 kind:Int
 text:bj
 pos:Int
def Vj.pv(t:Vj):PV:=.agg [vI t.kind,.str t.text,vI t.pos]
@[simp] theorem Vj.kS(t:Vj):t.pv=.agg [vI t.kind,.str t.text,vI t.pos]:=rfl
def rd(L:List Vj)(I:Nat):Sh:=[some [.pv (.aq (L.map Vj.pv)),.pv (vI I),.pv (.bool false),.pv (vI 0)]]
@[simp] theorem aa9(L:List Vj)(I:Nat):rd L I=[some [.pv (.aq (L.map Vj.pv)),.pv (vI I),.pv (.bool false),.pv (vI 0)]]:=rfl
def nd(k p:Int)(s:bj)(n:Int)(l:List Ex):Ex:=⟨k,p,s,n,l,[],bF⟩
def hv:Nat->Ex
 |0=>nd 3 0 [] 7 []
 |b+1=>nd 11 0 [] 0 [hv b]
def Xq(e:Ex):e.oZ e.sz:=by
 refine Ex.recC (p:=fun e=>e.oZ e.sz) ?_ e;intro e a;obtain⟨n,hn⟩:∃n,e.sz=n+1:=⟨e.sz-1,by have:=e.ko;omega⟩;rw[hn];refine .mk fun x hx=>gH (a x hx) ?_;have:=kr (f:=Ex.sz) hx
 have:=e.jd;omega
def TJ(t:Ty):∀l:Int,0<l->0<pV t l->(t.nodes.length:Int)+pV t l<=l:=by
 refine Ty.cD (p:=fun t=>∀l:Int,0<l->0<pV t l->(t.nodes.length:Int)+pV t l<=l) ?_ t;intro t c l h0 hp
 have key:∀(as:List Ty),(∀x∈as,x∈t.args)->∀l:Int,0<=l->0<we as l->((as.flatMap Ty.nodes).length:Int)+we as l<=l:=by
  intro as;induction as with
  |nil=>intro _ l h hp;simp[we]at hp⊢
  |cons a r b=>
   intro hx l h hp;simp only[we]at hp⊢;split at hp
   .rename_i q;rw[zan q];have h1:=wg a l q;have h3:0<pV a l:=by have:=He r (pV a l) h1.1;omega
    have h4:=c a (hx a (by simp)) l q h3;have h5:=b (fun y hy=>hx y (by simp[hy])) (pV a l) h1.1 hp;simp only[zav,zad];omega
   .omega
 rw[Aj]at hp⊢;have h1:=key t.args (fun _ h=>h) (l-1) (by omega) (by omega);rw[Ty.aL];simp only[zae];omega
def TM{t:Ty}{l:Int}(h0:0<l)(h1:l<=1000)(hp:0<pV t l):t.Ok/\t.nodes.length<=1000:=⟨Wj t l h0 (by omega) hp,by have:=TJ t l h0 hp;omega⟩
inductive Ex.Sk:Ex->Prop
 |mk {e:Ex}:e.ty.Ok/\e.ty.nodes.length<=1000->e.kids.length<=1000->e.aB.length<=1000->(∀a∈e.aB,a.vars.length<=20)->(∀x∈e.ch,x.Sk)->e.Sk
def Ex.Sk.t{e:Ex}(h:e.Sk):e.ty.Ok/\e.ty.nodes.length<=1000:=by cases h;assumption
def Ex.Sk.k{e:Ex}(h:e.Sk):e.kids.length<=1000:=by cases h;assumption
def Ex.Sk.a{e:Ex}(h:e.Sk):e.aB.length<=1000:=by cases h;assumption
def Ex.Sk.v{e:Ex}(h:e.Sk):∀a∈e.aB,a.vars.length<=20:=by cases h;assumption
def Ex.Sk.c{e:Ex}(h:e.Sk):∀x∈e.ch,x.Sk:=by cases h;assumption
def Vk{e:Ex}(d:∀x∈e.kids,∀l:Int,0<l->l<=1000->∃r:Int,0<=r/\r<=l-1/\(0<r->x.Sk/\(x.sz:Int)+r<=l)/\(az AP).p 552 [x.pv,vI l]=some [vI r]):∀(k i:Nat),e.kids.length-i=k->i<=e.kids.length->∀l:Int,0<=l->l<=1000->i+l<=1000->
   ∃(j l':Int),0<=l'/\l'<=l/\(0<l'->(∀x∈e.kids.drop i,x.Sk)/\(e.kids.length:Int)+l'<=i+l/\((((e.kids.drop i).map Ex.sz).sum:Nat):Int)+l'<=l)/\
   cl AP g552L0 ⟨[(1,.pv (vI l)),(2,.au 2 0),(5,.pv (vI i))],[(2,e.cells.map .pv)],[],[]⟩=some (.exit 0,⟨[(1,.pv (vI l')),(2,.au 2 0),(5,.pv (vI j)),(19,.pv (.bool false))],[(2,e.cells.map .pv)],[],[]⟩)
 |0,i,h,hi,l,h0,h1,h2=>by
  have:i=e.kids.length:=by omega
  subst this;have a:=Ex.aX e;refine⟨e.kids.length,l,h0,zc7 _,fun _=>⟨by simp,by omega,by simp⟩,?_⟩;rw[g552L0e];simp[g552B0,a]
 |k+1,i,h,hi,l,h0,h1,h2=>by
  have hi:i<e.kids.length:=(by omega);obtain⟨x,hx⟩:=aQ hi;have a:=Ex.aX e;by_cases hp:0<l
  .obtain⟨r,r0,r1,r2,k1⟩:=d x (aK hx) l hp h1;obtain⟨j,l',g,s,f,b⟩:=Vk d k (i+1) (by omega) (by omega) r r0 (by omega) (by omega);refine⟨j,l',g,by omega,?_,?_⟩
   .intro c;obtain⟨w1,n,m⟩:=f c;obtain⟨s1,o⟩:=r2 (by omega);refine⟨?_,by omega,?_⟩
    .rw[aR hx];intro y hy;simp only[zau]at hy;rcases hy with rfl|hy
     .exact s1
     .exact w1 y hy
    .rw[aR hx,zal,zbj];omega
   .rw[g552L0e]at b⊢;simp[a]at b;simp at k1;simp(disch:=omega)[-getElem?_pos,g552B0,a,hi,hx,hp,k1,ae];rw[g552L0e];simp[b]
  .refine⟨i,l,h0,zc7 _,fun q=>absurd q hp,?_⟩;rw[g552L0e];simp(disch:=omega)[-getElem?_pos,g552B0,a,hi,hp]
def Vl{e:Ex}(g:∀a∈e.aB,∀l:Int,0<l->l<=1000->∃r:Int,0<=r/\r<=l-1/\(0<r->a.body.Sk/\(a.body.sz:Int)+r<=l)/\(az AP).p 552 [a.body.pv,vI l]=some [vI r]):∀(k i:Nat),e.aB.length-i=k->i<=e.aB.length->∀l:Int,0<=l->l<=1000->i+l<=1000->
   cl AP g552L1 ⟨[(1,.pv (vI l)),(2,.au 2 0),(6,.pv (vI i))],[(2,e.cells.map .pv)],[],[]⟩=some (.ret,⟨[(4,.pv (vI 0))],[],[],[]⟩)\/
   ∃(j l':Int),0<=l'/\l'<=l/\(0<l'->(∀a∈e.aB.drop i,a.body.Sk/\a.vars.length<=20)/\(e.aB.length:Int)+l'<=i+l/\((((e.aB.drop i).map fun a=>a.body.sz).sum:Nat):Int)+l'<=l)/\
   cl AP g552L1 ⟨[(1,.pv (vI l)),(2,.au 2 0),(6,.pv (vI i))],[(2,e.cells.map .pv)],[],[]⟩=some (.exit 2,⟨[(1,.pv (vI l')),(2,.au 2 0),(6,.pv (vI j)),(37,.pv (.bool false))],[(2,e.cells.map .pv)],[],[]⟩)
 |0,i,n,hi,l,h0,h1,h2=>by
  have:i=e.aB.length:=by omega
  subst this;have c:=Ex.aX e;refine .inr ⟨e.aB.length,l,h0,zc7 _,fun _=>⟨by simp,by omega,by simp⟩,?_⟩;rw[g552L1e];simp[g552B1,c]
 |k+1,i,n,hi,l,h0,h1,h2=>by
  have hi:i<e.aB.length:=(by omega);obtain⟨x,hx⟩:=aQ hi;have c:=Ex.aX e;by_cases hp:0<l
  .obtain⟨r,r0,r1,r2,k1⟩:=g x (aK hx) l hp h1;simp at k1;by_cases hv:20<x.vars.length
   .have b:(20:Int)<x.vars.length:=(by omega);refine .inl ?_;rw[g552L1e];simp(disch:=omega)[-getElem?_pos,g552B1,c,hi,hx,hp,k1,b,ae]
   have b:¬(20:Int)<x.vars.length:=(by omega);rcases Vl g k (i+1) (by omega) (by omega) r r0 (by omega) (by omega)with d|⟨j,l',m,u,h,d⟩
   .refine .inl ?_;rw[g552L1e]at d⊢;simp[c]at d;simp(disch:=omega)[-getElem?_pos,g552B1,c,hi,hx,hp,k1,b,ae];rw[g552L1e];simp[d]
   .refine .inr ⟨j,l',m,by omega,?_,?_⟩
    .intro f;obtain⟨w1,s,o⟩:=h f;obtain⟨s1,t⟩:=r2 (by omega);refine⟨?_,by omega,?_⟩
     .rw[aR hx];intro y hy;simp only[zau]at hy;rcases hy with rfl|hy
      .exact⟨s1,by omega⟩
      .exact w1 y hy
     .rw[aR hx,zal,zbj];omega
    .rw[g552L1e]at d⊢;simp[c]at d;simp(disch:=omega)[-getElem?_pos,g552B1,c,hi,hx,hp,k1,b,ae];rw[g552L1e];simp[d]
  .refine .inr ⟨i,l,h0,zc7 _,fun q=>absurd q hp,?_⟩;rw[g552L1e];simp(disch:=omega)[-getElem?_pos,g552B1,c,hi,hp]
def c552(e:Ex):∀l:Int,0<l->l<=1000->∃r:Int,0<=r/\r<=l-1/\(0<r->e.Sk/\(e.sz:Int)+r<=l)/\(az AP).p 552 [e.pv,vI l]=some [vI r]:=by
 refine Ex.recC (p:=fun e=>∀l:Int,0<l->l<=1000->∃r:Int,0<=r/\r<=l-1/\(0<r->e.Sk/\(e.sz:Int)+r<=l)/\(az AP).p 552 [e.pv,vI l]=some [vI r]) ?_ e;intro e j l h0 h1;have c:=Ex.aX e;have k1:=c88 e.ty l h0 (by omega);have f:=wg e.ty l h0;have g:∀x∈e.kids,x∈e.ch:=fun x hx=>by simp[Ex.ch,hx]
 have h:∀a∈e.aB,a.body∈e.ch:=fun a b=>by simp only[Ex.ch,zaz,zat];exact .inr ⟨a,b,rfl⟩
 obtain⟨j1,l1,o,u,n,A⟩:=Vk (e:=e) (fun x hx=>j x (g x hx)) _ 0 rfl (by omega) (pV e.ty l) f.1 (by omega) (by omega);have B0:=Vl (e:=e) (fun a b=>j a.body (h a b)) _ 0 rfl (by omega) l1 o (by omega) (by omega);rw[g552L0e]at A;simp[c]at A;simp at k1;rcases B0 with B|⟨j2,l2,b1,b2,b3,B⟩
 .rw[g552L1e]at B;simp[c]at B;refine⟨0,by omega,by omega,fun q=>absurd q (by omega),?_⟩;rw[aw g552];simp[g552,k1,c,g552L0e,A,g552L1e,B]
 .rw[g552L1e]at B;simp[c]at B;refine⟨l2,b1,by omega,?_,?_⟩
  .intro hp;obtain⟨w1,s,k⟩:=b3 hp;obtain⟨i,t,m⟩:=n (by omega);rw[zaj]at i w1 m k
   have hs:e.sz=1+((e.kids.map Ex.sz).sum+(e.aB.map fun a=>a.body.sz).sum):=by
    rw[Ex.jd,Ex.ch,zbG,zb9,zbv];rfl
   refine⟨.mk (TM h0 h1 (by omega)) (by omega) (by omega) (fun a b=>(w1 a b).2) ?_,by omega⟩;intro x hx;simp only[Ex.ch,zaz,zat]at hx;rcases hx with hx|⟨a,b,rfl⟩
   .exact i x hx
   .exact(w1 a b).1
  .have d:max l2 0=l2:=(by omega);rw[aw g552];simp[g552,k1,c,g552L0e,A,g552L1e,B,d]
   try (intro _;omega)
def c540(e:Ex):∃b:Bool,(az AP).p 540 [e.pv,vI 60]=some [.bool b]/\(b=true->e.Sk/\e.sz<=60):=by
 obtain⟨r,r0,r1,r2,k1⟩:=c552 e 61 (by omega) (by omega);have a:=Ex.aX e;refine⟨decide (0<r),?_,fun h=>?_⟩
 rotate_left
 .have h':0<r:=(by simpa using h);obtain⟨w1,c⟩:=r2 h';exact⟨w1,by omega⟩
 simp at k1;rw[aw g540];simp[g540,a,k1,show IntKind.i64.wrap 61=61 from by decide]
def aau(t:Ty):(∀w,¬gI t w)->t.dp<=t.pd z0:=by
 refine Ty.cD (p:=fun t=>(∀w,¬gI t w)->t.dp<=t.pd z0) ?_ t;intro t a h;have k:¬t.kind=1:=fun k=>h _ (.var k)
 rw[Ty.nJ];refine Aw (zby _) fun d hd=>?_;rw[zat]at hd;obtain⟨x,hx,rfl⟩:=hd;have h1:=a x hx fun w b=>h w (.arg k hx b)
 have h2:=lB (ht:=z0) k hx;omega
def Ex.Ad.tn{e:Ex}(h:e.Ad):e.Tn:=by
 induction h with
 |mk h _ a=>exact .mk h.1 a
def Ex.Ad.rh{e:Ex}(h:e.Ad):e.rh=false:=by
 induction h with
 | @mk e h _ a=>
  rw[Ex.wv,zbE,zbw];refine⟨?_,fun x hx=>by simpa using a x hx⟩;have h1:=aau e.ty h.2.2;have h2:=h.2.1;have h3:¬40<e.ty.dp:=by omega
  simp[h3]
def bdL{N:Nat}{bs:List Bd}(a:∀b∈bs,lX N b):BdL bs:=fun b c=>⟨(a b c).ad.tn,(a b c).ad.rh⟩
def sE{s:bj}{lo hi:Int}(h:dY s lo hi=true):s.length<=12:=by
 unfold dY at h;split at h
 .simp
 .simp only[zah,za5]at h;exact h.1.1.2
def D4{s:bj}{n:Nat}(h:jD s n=true):s.length<=12:=by
 unfold jD at h;split at h
 .rename_i e;rw[e];decide
 .split at h
  .rename_i e;rw[e];decide
  .simp only[zah]at h;exact sE h.1
def Jj{s:bj}(h:Dh s=true):s.length<=12:=by
 unfold Dh at h;rw[gh]at h;simp at h;exact D4 h
def uA{s:bj}(h:tU s=true):s.length<=12:=by
 unfold tU at h;rw[gh]at h;simp at h;exact sE h
def aav(t:Ty):ck t=true->t.wr=true->t.Kn KT:=by
 refine Ty.cD (p:=fun t=>ck t=true->t.wr=true->t.Kn KT) ?_ t;intro t a h w;rw[gh]at h;rw[Ty.IC]at w;simp only[zah,zbs,za5,zaq]at w;obtain⟨k,w⟩:=w;rcases k with k|k
 .simp[k]at h;obtain⟨⟨_,h1⟩,h2⟩:=h;exact .mk (fun q=>absurd k q) (by have:=D4 h1;omega) fun x hx=>a x hx (h2 x hx) (w x hx)
 .simp[k]at h;obtain⟨⟨⟨h1,_⟩,_⟩,h2⟩:=h;exact .mk (fun _=>⟨.inr k,h1⟩) (by have:=sE h2;omega) (by rw[h1];simp)
def Xr:bF.Kn KT:=.bare rfl (by simp[bF]) (by simp[bF])
def QR{e:Ex}(h:e.C3=true):e.ty.Kn KT:=by
 unfold Ex.C3 at h;split at h
 .rw[zah]at h;exact aav _ h.1 h.2
 .simp only[za5]at h;rw[h];exact Xr
def QS{e:Ex}(h:e.lH=true):(∃nm kd,bV e.kind=some (nm,kd)/\e.nv kd=true)/\e.xE=true/\e.C3=true/\(∀a∈e.aB,Mr a=true)/\∀x∈e.ch,x.lH=true:=by
 rw[Ex.rZ]at h;simp only[zah,zaq]at h;obtain⟨h1,h2,h3⟩:=h;cases b:bV e.kind with
 |none=>rw[b]at h1;simp at h1
 |some p=>
  obtain⟨nm,kd⟩:=p;rw[b]at h1;simp only at h1;rw[Hm b]at h1;simp only[zah]at h1;exact⟨⟨nm,kd,rfl,h1.1⟩,h1.2.1,h1.2.2,h2,h3⟩
def TN{e:Ex}:e.aB.length+1<=e.sz:=by
 rw[Ex.jd,Ex.ch,zbG,zb9]
 have:∀l:List Ar,l.length<=((l.map cX.body).map Ex.sz).sum:=by
  intro l;induction l with
  |nil=>simp
  |cons a r b=>
   have:=a.body.ko;simp only[zal,zbj,zae];omega
 have:=this e.aB;omega
def aaw(x:Ex):x.Sk->x.sz<=60->x.lH=true->kH x:=by
 refine Ex.recC (p:=fun x=>x.Sk->x.sz<=60->x.lH=true->kH x) ?_ x;intro e o m hs hv;obtain⟨⟨nm,kd,d,h1⟩,h2,h3,h4,h5⟩:=QS hv;have d6:∀y∈e.ch,kH y:=fun y hy=>o y hy (m.c y hy) (by have:=Ex.lA hy;omega) (h5 y hy)
 have w:=TN (e:=e);unfold Ex.nv at h1;simp only[zah,za5,zc1,zch,zbs]at h1;obtain⟨_,hl,hA,s,r,k⟩:=h1;have f:∀y∈e.kids,kH y:=fun y hy=>d6 y (by simp[Ex.ch,hy])
 have g:e.kind≠8->e.aB=[]:=fun q=>by
  unfold Uf at hA;simp[q]at hA;exact hA
 have one:kd=1->∃a,e.kids=[a]:=fun q=>by
  rw[q]at hl
  match h:e.kids,hl with
  |[a],_=>exact⟨a,rfl⟩
 have i:kd=2->∃a b,e.kids=[a,b]:=fun q=>by
  rw[q]at hl
  match h:e.kids,hl with
  |[a,b],_=>exact⟨a,b,rfl⟩
 unfold bV at d;unfold Ex.xE at h2;split at d
 .rename_i q;cases d;have hz:=g (by omega);refine .leaf (.inl ⟨q,?_⟩) (zaR.1 hl) hz;rcases q with q|q
  .simp[q]at h2;have:=uA h2;omega
  .simp[q]at h2;have:=Jj h2;omega
 split at d
 .rename_i q;cases d;have hz:=g (by omega);rcases q with q|q
  .exact .leaf (.inr (.inl ⟨q,by omega,by omega⟩)) (zaR.1 hl) hz
  .refine .leaf (.inr (.inr ⟨q,by simpa[q]using h2,?_,?_⟩)) (zaR.1 hl) hz
   .rcases k with h|h
    .exact h
    .omega
   .unfold Ex.C3 at h3;simpa[q]using h3
 split at d
 .rename_i q;cases d;obtain⟨a,e1⟩:=one rfl;simp[q]at h2;exact .lam q (by have:=uA h2;omega) e1 (g (by omega)) (f a (by simp[e1]))
 split at d
 .rename_i q;cases d;obtain⟨a,b,e1⟩:=i rfl;exact .app q e1 (g (by omega)) (f a (by simp[e1])) (f b (by simp[e1]))
 split at d
 .rename_i q;cases d;obtain⟨a,b,e1⟩:=i rfl
  have l:e.name.length<=12:=by
   rcases q with q|q<;>simp[q]at h2<;>exact uA h2
  exact .rY q (by omega) e1 (g (by omega)) (f a (by simp[e1])) (f b (by simp[e1]))
 split at d
 .rename_i q;cases d;obtain⟨a,e1⟩:=one rfl;have j:=f a (by simp[e1]);rcases q with q|q|q
  .refine .mT q e1 j (by omega) (fun x hx=>?_) fun x hx=>d6 x.body (by simp only[Ex.ch,zaz,zat];exact .inr ⟨x,hx,rfl⟩);have:=h4 x hx
   unfold Mr at this;simp only[zah,za5,zc1,zch,zaq]at this;obtain⟨_,w1,u,n⟩:=this;exact⟨by have:=Jj w1;omega,by omega,fun v hv=>by have:=uA (n v hv);omega⟩
  .exact .Mp q e1 (g (by omega)) (QR h3) (by have:=m.t.2;omega) j
  .exact .held q e1 (g (by omega)) j
 .cases d
def aax(x:Ex):x.Sk->x.lH=true->x.Ok/\x.One/\(x.IF fun y=>y.ty.Cw)/\x.Tn:=by
 refine Ex.recC (p:=fun x=>x.Sk->x.lH=true->x.Ok/\x.One/\(x.IF fun y=>y.ty.Cw)/\x.Tn) ?_ x;intro e f b hv;obtain⟨⟨nm,kd,d,h1⟩,h2,h3,h4,h5⟩:=QS hv;have d6:=fun y hy=>f y hy (b.c y hy) (h5 y hy)
 refine⟨.mk b.k b.a (fun a g=>by have:=b.v a g;omega) b.t.1 fun y hy=>(d6 y hy).1,.mk (fun q=>?_) fun y hy=>(d6 y hy).2.1,.mk (QR h3).cw fun y hy=>(d6 y hy).2.2.1,.mk (by have:=b.t.2;omega) fun y hy=>(d6 y hy).2.2.2⟩;unfold Ex.nv at h1;simp only[zah,za5]at h1;unfold bV at d;simp[q]at d;have:=h1.2.1;omega
def Jk{x:Ex}(a:x.Sk)(hs:x.sz<=60)(hn:x.pW)(hv:x.lH=true):lE x/\x.oZ 99:=by
 obtain⟨e,d,c,b⟩:=aax x a hv;have hl:=Xq x;exact⟨⟨⟨e,d,c⟩,hn,b,gH hl (by omega),aaw x a hs hv,by omega⟩,gH hl (by omega)⟩
def hvC(k p:Int)(s:bj):List PV:=[.int .i64 k,.int .i64 p,.str s,.int .i64 0,.aq [],.aq [],.int .i64 0,.str [],.int .i64 0,.int .i64 0,.aq []]
def spP(b:List PV):PV:=.agg [.aq [],.aq [
 .agg ([.int .i64 0,.bool false,.str [120],.bool false,.int .i64 0,.str [],.int .i64 0,.int .i64 0,.aq []]++hvC 10 8 []),
 .agg ([.int .i64 11,.bool false,.str [121],.bool false,.int .i64 0,.str [],.int .i64 0,.int .i64 0,.aq []]++[.int .i64 4,.int .i64 19,.str [120],.int .i64 0,.aq [.agg b],.aq [],.int .i64 0,.str [],.int .i64 0,.int .i64 0,.aq []])]]
def spT(b:UInt8):bj:=[108,101,116,32,120,32,61,32,63,59,32,108,101,116,32,121,32,61,32,92,120,46,32,b,59]
def c535a:(az AP).p 535 [.str (spT 63)]=some [spP (hvC 10 23 [])]:=Fc.L6 (k:=400) (n:=40) (by kernel_rfl)
def c535b:(az AP).p 535 [.str (spT 120)]=some [spP (hvC 1 23 [120])]:=Fc.L6 (k:=400) (n:=40) (by kernel_rfl)
def ovP(g:Nat)(x:List PV):Option (List PV):=if g=535 then match x with
 |[.str s]=>if s=spT 63 then some [spP (hvC 10 23 [])]else if s=spT 120 then some [spP (hvC 1 23 [120])]else none
 |_=>none
 else none
def Xs:∀g x r,ovP g x=some r->(az AP).p g x=some r:=by
 intro g x r h;unfold ovP at h;split at h
 .rename_i e;subst e;split at h
  .split at h
   .rename_i e;subst e;rw[<-h];exact c535a
   .split at h
    .rename_i e;subst e;rw[<-h];exact c535b
    .cases h
  .cases h
 .cases h
def c527:(az AP).p 527 []=some [.bool true]:=Fc.T8 (k:=400) (n:=40) Xs (by kernel_rfl)
def QT{ds:List Dt}{T:List Bd->bj}{bs:List Bd}{h:Int}{x:Ex}:(∃e:Int,e≠0/\l0 ds T bs h x=[pZ,vI e])\/
   ∃(i:Nat)(b:Bd)(p:List Int),bs[i]?=some b/\p∈b.body.hl/\l0 ds T bs h x=[.agg [.aq ((ds.map Dt.strip).map Dt.pv),.aq ((eG bs i b p x).map Bd.pv)],vI 0]:=by
 unfold l0;cases c:(if h<0 then none else dh 0 bs h)with
 |none=>exact .inl ⟨16,by omega,rfl⟩
 |some r=>
  obtain⟨i,p⟩:=r
  have a:dh 0 bs h=some (i,p):=by
   split at c
   .cases c
   .exact c
  obtain⟨j,b,hj,d,hp⟩:=iq a;have:j=i:=by omega
  subst this;simp only[d];split
  .exact .inl ⟨17,by omega,rfl⟩
  split
  .rename_i q;exact .inl ⟨_,q,rfl⟩
  split
  .exact .inl ⟨4,by omega,rfl⟩
  split
  .exact .inl ⟨4,by omega,rfl⟩
  split
  .exact .inl ⟨1,by omega,rfl⟩
  exact .inr ⟨j,b,p,d,hp,rfl⟩
def QU{bs:List Bd}{i:Nat}{b:Bd}{p:List Int}{x:Ex}:(eG bs i b p x).length=bs.length:=by unfold eG;rw[zaN,zak]
inductive Ex.Nr:Ex->Prop
 |mk {e:Ex}:nE e.name->e.ty.Nm->(∀a∈e.aB,nE a.cv/\∀v∈a.vars,nE v)->(∀x∈e.ch,x.Nr)->e.Nr
def Ex.Nr.nm{e:Ex}(h:e.Nr):e.Sk->e.pW:=by
 induction h with
 | @mk e h1 h2 h3 _ d=>exact fun k=>.mk h1 h2 (fun a b=>⟨(h3 a b).1,by have:=k.v a b;omega,(h3 a b).2⟩) fun x hx=>d x hx (k.c x hx)
def Gd(x:Ex):Prop:=lE x/\x.oZ 99/\x.sz<=400000\/x.Ok/\x.pW/\x.lH=false
def aay(x:Ex):x.Sk->x.Ok:=by
 refine Ex.recC (p:=fun x=>x.Sk->x.Ok) ?_ x;intro e b h;exact .mk h.k h.a (fun a d=>by have:=h.v a d;omega) h.t.1 fun y hy=>b y hy (h.c y hy)
def aaz{x:Ex}(h:x.Sk)(hs:x.sz<=60)(hn:x.pW):Gd x:=by
 cases hv:x.lH with
 |true=>exact .inl ⟨(Jk h hs hn hv).1,(Jk h hs hn hv).2,by omega⟩
 |false=>exact .inr ⟨aay x h,hn,hv⟩
def QV{ds:List Dt}(a:oJ ds){n:Nat}(hn:n<=2){e:Ex}(h:fC ds n e):Gd e:=by
 have t:=(h.tyE a).up (m:=12) (by omega);exact .inl ⟨h.fill a hn,gH t.h (by omega),by have:=t.w;simp[wN]at this;omega⟩
def Xt{x:Ex}(h:Gd x):Gd (l4 x)\/lE (l4 x):=by
 rcases h with⟨h1,h2,h3⟩|⟨h1,h2,h3⟩
 .exact .inr (MU h1 h2 h3)
 .exact .inl (.inr ⟨Jh h1,Ji h2,by rw[QQ];exact h3⟩)
def QW{ds:List Dt}{bs:List Bd}(l:oJ ds)(h4:bs.length<=4)(g:∀b∈bs,lX 200 b){x:Ex}(hx:lE x){h:Int}(h1:h<=9223372036854775807):∃(u v:List PV)(n:Int),
   (az AP).p 536 [.agg [.aq (ds.map Dt.pv),.aq (bs.map Bd.pv)],vI h,x.pv]=some [.agg [.aq u,.aq v],vI n]/\
   (az AP).p 537 [.agg [.aq (ds.map Dt.pv),.aq (bs.map Bd.pv)],vI h,x.pv]=some [.agg [.aq u,.aq v],vI n]/\
   (az AP).p 538 [.agg [.aq u,.aq v],.agg [.aq u,.aq v]]=some [.bool true]:=by
 obtain⟨s,j⟩:=dsC l;have q:=c536 (QN l j h4 g (h:=h) h1 hx);have m:=c537 (QN l j h4 g (h:=h) h1 hx) (aat l h4 (fun b t=>QM (g b t)) (bdL g) hx);rcases QT (ds:=ds) (T:=Je ds) (bs:=bs) (h:=h) (x:=x)with⟨n,_,e⟩|⟨i,b,p,t,_,e⟩
 .rw[e]at q m;exact⟨[],[],n,q,m,c538 (ds:=[]) (es:=[]) (bs:=[]) (cs:=[]) ⟨by simp,by simp⟩ ⟨by simp,by simp⟩ ⟨by simp,by simp⟩ rfl rfl⟩
 .rw[e]at q m
  have hs:BsC (eG bs i b p x):=by
   refine⟨by rw[QU];omega,fun c hc=>?_⟩;rcases zaH hc with h|rfl
   .rw[zat]at h;obtain⟨a,k,rfl⟩:=h;exact⟨(g a k).so,q_ (g a k).sc.ok⟩
   .have o:=g b (aK t);exact⟨o.so,(mM (hZ hx.sc) (gi hx.hl) p b.body.strip 200 (hZ o.sc) (gi o.h)).1.ok⟩
  have r:DsC (ds.map Dt.strip):=by
   obtain⟨B,A⟩:=s;refine⟨by rw[zak];exact B,fun d hd=>?_⟩;rw[zat]at hd;obtain⟨a,k,rfl⟩:=hd;obtain⟨z,y,w⟩:=A a k;refine⟨z,by show(a.cons.map cd.p0).length<=_;rw[zak];exact y,fun c hc=>?_⟩;have f:c∈a.cons.map cd.p0:=hc;rw[zat]at f;obtain⟨c',f,rfl⟩:=f;exact w c' f
  exact⟨_,_,0,q,m,c538 r hs hs rfl rfl⟩
def Xu{ds:List Dt}{bs:List Bd}(h4:bs.length<=4)(k:∀b∈bs,lX 200 b){x:Ex}(d:x.Ok)(hn:x.pW)(hv:x.lH=false){h:Int}(h1:h<=9223372036854775807):∃(u v:List PV)(n:Int),
   (az AP).p 536 [.agg [.aq (ds.map Dt.pv),.aq (bs.map Bd.pv)],vI h,x.pv]=some [.agg [.aq u,.aq v],vI n]/\
   (az AP).p 537 [.agg [.aq (ds.map Dt.pv),.aq (bs.map Bd.pv)],vI h,x.pv]=some [.agg [.aq u,.aq v],vI n]/\
   (az AP).p 538 [.agg [.aq u,.aq v],.agg [.aq u,.aq v]]=some [.bool true]:=by
 have B:=bdN h4 k;have g:=c536v (ds:=ds) (T:=Je ds) B h1 d hn hv;have f:=c537v (ds:=ds) (T:=Je ds) B h1 d hn hv
 have e:∃n:Int,l0 ds (Je ds) bs h x=[pZ,vI n]:=by
  unfold l0;cases c:(if h<0 then none else dh 0 bs h)with
  |none=>exact⟨16,rfl⟩
  |some r=>
   have a:dh 0 bs h=some r:=by
    split at c
    .cases c
    .exact c
   obtain⟨i,p⟩:=r;obtain⟨j,b,hj,l,hp⟩:=iq a;have:j=i:=by omega
   subst this;simp only[l,hv];exact⟨17,by simp⟩
 obtain⟨n,e⟩:=e;rw[e]at g f;exact⟨[],[],n,g,f,c538 (ds:=[]) (es:=[]) (bs:=[]) (cs:=[]) ⟨by simp,by simp⟩ ⟨by simp,by simp⟩ ⟨by simp,by simp⟩ rfl rfl⟩
def HR{ds:List Dt}{bs:List Bd}(e:oJ ds)(h4:bs.length<=4)(d:∀b∈bs,lX 200 b){x:Ex}(hx:Gd x){h:Int}(h1:h<=9223372036854775807):∃(u v:List PV)(n:Int),
   (az AP).p 536 [.agg [.aq (ds.map Dt.pv),.aq (bs.map Bd.pv)],vI h,x.pv]=some [.agg [.aq u,.aq v],vI n]/\
   (az AP).p 537 [.agg [.aq (ds.map Dt.pv),.aq (bs.map Bd.pv)],vI h,x.pv]=some [.agg [.aq u,.aq v],vI n]/\
   (az AP).p 538 [.agg [.aq u,.aq v],.agg [.aq u,.aq v]]=some [.bool true]:=by
 rcases hx with⟨h,_,_⟩|⟨a,b,c⟩
 .exact QW e h4 d h h1
 .exact Xu h4 d a b c h1
def Xv{ds:List Dt}{bs:List Bd}(d:oJ ds)(h4:bs.length<=4)(c:∀b∈bs,lX 200 b){x:Ex}(hx:Gd x){h:Int}(h1:h<=9223372036854775807):∃(u v:List PV)(n:Int),
   (az AP).p 541 [.agg [.aq (ds.map Dt.pv),.aq (bs.map Bd.pv)],vI h,x.pv]=some [.agg [.aq u,.aq v],vI n]/\
   (az AP).p 542 [.agg [.aq (ds.map Dt.pv),.aq (bs.map Bd.pv)],vI h,x.pv]=some [.agg [.aq u,.aq v],vI n]/\
   (az AP).p 538 [.agg [.aq u,.aq v],.agg [.aq u,.aq v]]=some [.bool true]:=by
 have k:∃(u v:List PV)(n:Int),
     (az AP).p 536 [.agg [.aq (ds.map Dt.pv),.aq (bs.map Bd.pv)],vI h,(l4 x).pv]=some [.agg [.aq u,.aq v],vI n]/\
     (az AP).p 537 [.agg [.aq (ds.map Dt.pv),.aq (bs.map Bd.pv)],vI h,(l4 x).pv]=some [.agg [.aq u,.aq v],vI n]/\
     (az AP).p 538 [.agg [.aq u,.aq v],.agg [.aq u,.aq v]]=some [.bool true]:=by
   rcases Xt hx with q|q
   .exact HR d h4 c q h1
   .exact QW d h4 c q h1
 obtain⟨u,v,n,k1,k2,k3⟩:=k;refine⟨u,v,n,?_,?_,k3⟩
 .simp[l4,bF]at k1;have a:=Ex.aX x;rw[aw g541];simp[g541,k1,a]
 .simp[l4,bF]at k2;have a:=Ex.aX x;rw[aw g542];simp[g542,k2,a]
def xC(x:Ex):List AV:=x.cells.map .pv
def aaA{ds:List Dt}{bs:List Bd}{M:List Int}{j:Int}{w r:Int}{x:Ex}{l:List Ex}(d:l.length<=3)
   (hF:∀e∈l,∃(u v:List PV)(n:Int),
     (az AP).p 536 [.agg [.aq (ds.map Dt.pv),.aq (bs.map Bd.pv)],vI r,e.pv]=some [.agg [.aq u,.aq v],vI n]/\
     (az AP).p 537 [.agg [.aq (ds.map Dt.pv),.aq (bs.map Bd.pv)],vI r,e.pv]=some [.agg [.aq u,.aq v],vI n]/\
     (az AP).p 538 [.agg [.aq u,.aq v],.agg [.aq u,.aq v]]=some [.bool true])
   (g:∀e∈l,∃(u v:List PV)(n:Int),
     (az AP).p 541 [.agg [.aq (ds.map Dt.pv),.aq (bs.map Bd.pv)],vI r,e.pv]=some [.agg [.aq u,.aq v],vI n]/\
     (az AP).p 542 [.agg [.aq (ds.map Dt.pv),.aq (bs.map Bd.pv)],vI r,e.pv]=some [.agg [.aq u,.aq v],vI n]/\
     (az AP).p 538 [.agg [.aq u,.aq v],.agg [.aq u,.aq v]]=some [.bool true]):∀(k i:Nat),l.length-i=k->i<=l.length->
   cl AP g526L0 ⟨[(3,.pv (vI w)),(11,.au 11 0),(13,.au 13 0),(15,.pv (vI r)),(66,.own (l.map Ex.pv) 0),(67,.pv (vI l.length)),(68,.pv (vI i))],[(11,xC x),(13,[.pv (.aq (ds.map Dt.pv)),.pv (.aq (bs.map Bd.pv))])],tp M j,[l.length]⟩=
     some (.exit 0,⟨[(3,.pv (vI w)),(11,.au 11 0),(13,.au 13 0),(15,.pv (vI r)),(66,.own (l.map Ex.pv) 0),(67,.pv (vI l.length)),(68,.pv (vI l.length)),(69,.pv (.bool false))],[(11,xC x),(13,[.pv (.aq (ds.map Dt.pv)),.pv (.aq (bs.map Bd.pv))])],tp M j,[l.length]⟩)
 |0,i,q,hi=>by
  have:i=l.length:=by omega
  subst this;have b:=Ex.aX x;have tn:=(iT (L:=M)).norm;have a:=(iT (L:=M)).shift;rw[g526L0e];simp[g526B0,xC,b,tn,a]
 |k+1,i,q,hi=>by
  have hi:i<l.length:=(by omega);obtain⟨e,f⟩:=aQ hi;obtain⟨u,v,n,o,m,h⟩:=hF e (aK f);obtain⟨t,s,n2,b1,b2,b3⟩:=g e (aK f);have c:=aaA d hF g k (i+1) (by omega) (by omega) (M:=M) (j:=j) (w:=w) (x:=x);have b:=Ex.aX x;have tn:=(iT (L:=M)).norm;have a:=(iT (L:=M)).shift;rw[g526L0e]at c⊢;simp[xC,b]at c;simp at o m h b1 b2 b3;simp(disch:=omega)[-getElem?_pos,g526B0,xC,b,hi,f,o,m,h,b1,b2,b3,tn,a,ae];rw[g526L0e];simp[c]
def Xw(bits:Int)(L:List Int)(g h:Int)(M:List Int)(x:Ex)(N:h<=9223372036854775807)(hn:x.Nr):(az AP).p 526 [vI bits,.aq (L.map vI),vI g,vI h,.aq (M.map vI),x.pv]=some [.bool true]:=by
 have c0:=c527;have c1:=c15 (l:=L);have a:=c15 (l:=M);have t:=Ex.aX x;obtain⟨b,c2,P⟩:=c540 x;rw[aw g526];by_cases D:L.length<=60
 rotate_left
 .simp[D]at c1;simp[g526,c0,c1]
 by_cases F:M.length<=60
 rotate_left
 .simp[D]at c1;simp[F]at a;simp[g526,c0,c1,a]
 simp[D]at c1;simp[F]at a;cases b with
 |false=>
  simp at c2;simp[g526,c0,c1,a,t,c2]
 |true=>
 obtain⟨E,hs⟩:=P rfl;have R:=aaz E hs (hn.nm E);obtain⟨ds,bs,c,_,h4,k,e1⟩:=c310 (L:=L) (by omega) bits g;have H:=bdN h4 k;have k1:=c529 (ds:=ds) H.h;have hc:=Xm k;have O:MA bs<=56000000:=by omega
 obtain⟨r,k3,r0,r1⟩:=c26 (n:=h) (m:=(MA bs:Int)+1) (by omega) (by omega);have q:Sm M:=by unfold Sm;omega
 have h8:ds.length<=8:=c.len;have s:∀d∈ds,D8 d:=fun d hd=>nK d (c.all d hd)
 obtain⟨x1,f1,f2,f3,j,e2,hx,hj⟩:=S6 (iT (L:=M)) q h8 s 2 (by omega) 0 (by omega);obtain⟨y,g1,g2,G,j2,e3,hy,K⟩:=S6 (iT (L:=M)) q h8 s 1 (by omega) j hj;have Q:=QV c (by omega) hx;have U:=QV c (by omega) hy;have hA:=d3 f1 f2 f3 x1;have f:=d3 g1 g2 G y;generalize et f1 f2 f3 x1=A at e2 hA;generalize et g1 g2 G y=B at e3 f;have T:=Ex.aX x1;have S:=Ex.aX y;have J:List.take 11 A=A:=zaf (by rw[hA.len];omega);have I:List.take 11 B=B:=zaf (by rw[f.len];omega);have tn:=(iT (L:=M)).norm;have i:=(iT (L:=M)).shift;obtain⟨u,v,n,C,z,_⟩:=HR c h4 k R (h:=h) N;simp at e1 e2 e3 c2 k1;simp at C z;simp(disch:=omega)[-getElem?_pos,g526,c0,c1,a,t,c2,e1,k1,tn,i,e2,e3,k3,C,z,hA.gr,hA.flat,hA.tV,hA.len,hA.leaf,f.gr,f.flat,f.tV,f.len,f.leaf,J,I,T,S,ae]
 have hl:=aaA (M:=M) (j:=(j2:Int)) (w:=h) (x:=x) (l:=[x1,y,x]) (by simp) (fun e o=>HR c h4 k (by
  simp at o;rcases o with rfl|rfl|rfl<;>assumption) (h:=r) (by omega)) (fun e o=>Xv c h4 k (by
  simp at o;rcases o with rfl|rfl|rfl<;>assumption) (h:=r) (by omega)) _ 0 rfl (by omega)
 rw[g526L0e]at hl;simp[xC,t]at hl;simp[g526L0e,hl,t,tn,i,C,z]
def A5{P:Program}{d ts Z Q w u R z o:TypeId}{f0 f1 f2 f3 f4 k0 k1 k2 k3 k4 k5 k6 a0 a1 a2 a3:Field}(hi:P.underlying d=some (.int .i64))(hs:P.underlying ts=some .string)(hl:P.underlying Z=some (.slice Q))
   (ht:P.underlying Q=some (.struct #[f0,f1,f2,f3,f4])) (g:P.underlying u=some (.slice w)) (v7:P.underlying z=some (.slice R)) (f:P.underlying o=some (.slice ts))
   (X:P.underlying w=some (.struct #[k0,k1,k2,k3,k4,k5,k6])) (Y:P.underlying R=some (.struct #[a0,a1,a2,a3]))
   (e0:f0.type=d) (e1:f1.type=ts) (e2:f2.type=d) (e3:f3.type=d) (e4:f4.type=Z)
   (O:k0.type=d) (N:k1.type=d) (M:k2.type=ts) (L:k3.type=d) (K:k4.type=u) (J:k5.type=z) (I:k6.type=Q)
   (H:a0.type=d) (w1:a1.type=ts) (G:a2.type=o) (F:a3.type=w):
   ∀(n:Nat)(p:PV),kg P n w p->∃x:Ex,p=x.pv/\x.Nr
 |0,p,h=>by simp[kg]at h
 |n+1,p,h=>by
  have e:∀{s:List UInt8},s.length<=maxLen->nE s:=fun h=>by unfold maxLen at h;simp only[nE];omega
  simp only[kg,X]at h;obtain⟨ps,rfl,h⟩:=h
  match ps,h with
  |[p0,p1,p2,p3,p4,p5,p6],⟨h0,h1,h2,h3,h4,h5,h6,_⟩=>
   rw[O]at h0;rw[N]at h1;rw[M]at h2;rw[L]at h3;rw[K]at h4;rw[J]at h5;rw[I]at h6;obtain⟨k,rfl⟩:=iS hi h0;obtain⟨i,rfl⟩:=iS hi h1;obtain⟨m,rfl⟩:=iS hi h3;obtain⟨t,rfl,T⟩:=Iv hi hs hl ht e0 e1 e2 e3 e4 n p6 h6;cases n with
   |zero=>simp[kg]at h4
   |succ n=>
    simp only[kg,hs]at h2;obtain⟨s,rfl,U⟩:=h2;simp only[kg,g]at h4;obtain⟨els,rfl,_,h4⟩:=h4;simp only[kg,v7]at h5;obtain⟨E,rfl,_,h5⟩:=h5
    have key:∀els:List PV,(∀q∈els,kg P n w q)->∃l:List Ex,els=l.map Ex.pv/\∀x∈l,x.Nr:=by
     intro els;induction els with
     |nil=>intro _;exact⟨[],rfl,by simp⟩
     |cons q r C=>
      intro h;obtain⟨x,rfl,hx⟩:=A5 hi hs hl ht g v7 f X Y e0 e1 e2 e3 e4 O N M L K J I H w1 G F n q (h q (by simp));obtain⟨l,rfl,hl⟩:=C (fun q b=>h q (by simp[b]));refine⟨x::l,rfl,?_⟩;intro y hy;simp at hy;rcases hy with rfl|hy
      .exact hx
      .exact hl y hy
    have B:∀els:List PV,(∀q∈els,kg P n R q)->∃l:List Ar,els=l.map Ar.pv/\∀a∈l,(nE a.cv/\∀v∈a.vars,nE v)/\a.body.Nr:=by
     intro els;induction els with
     |nil=>intro _;exact⟨[],rfl,by simp⟩
     |cons q r C=>
      intro h;have b:=h q (by simp);obtain⟨l,rfl,W⟩:=C (fun q b=>h q (by simp[b]));cases n with
      |zero=>simp[kg]at b
      |succ n=>
       simp only[kg,Y]at b;obtain⟨ps,rfl,b⟩:=b
       match ps,b with
       |[q0,q1,q2,q3],⟨g0,g1,g2,g3,_⟩=>
        rw[H]at g0;rw[w1]at g1;rw[G]at g2;rw[F]at g3;obtain⟨i,rfl⟩:=iS hi g0;obtain⟨x,rfl,hx⟩:=A5 hi hs hl ht g v7 f X Y e0 e1 e2 e3 e4 O N M L K J I H w1 G F n q3 g3;cases n with
        |zero=>simp[kg]at g1
        |succ n=>
         simp only[kg,hs]at g1;obtain⟨c,rfl,hc⟩:=g1;simp only[kg,f]at g2;obtain⟨j,rfl,_,g2⟩:=g2
         have A:∀els:List PV,(∀q∈els,kg P n ts q)->∃l:List bj,els=l.map .str/\∀v∈l,nE v:=by
          intro els;induction els with
          |nil=>intro _;exact⟨[],rfl,by simp⟩
          |cons q r C=>
           intro h;have b:=h q (by simp);obtain⟨l,rfl,hl⟩:=C (fun q b=>h q (by simp[b]));cases n with
           |zero=>simp[kg]at b
           |succ n=>
            simp only[kg,hs]at b;obtain⟨v,rfl,hv⟩:=b;refine⟨v::l,rfl,?_⟩;intro y hy;simp at hy;rcases hy with rfl|hy
            .exact e hv
            .exact hl y hy
         obtain⟨vs,rfl,S⟩:=A j g2;refine⟨⟨i,c,vs,x⟩::l,by simp[aZ],?_⟩;intro y hy;simp at hy;rcases hy with rfl|hy
         .exact⟨⟨e hc,S⟩,hx⟩
         .exact W y hy
    obtain⟨l,rfl,V⟩:=key els h4;obtain⟨as,rfl,D⟩:=B E h5;refine⟨⟨k,i,s,m,l,as,t⟩,by simp[aZ],.mk (e U) T (fun a h=>(D a h).1) ?_⟩;intro x hx;simp only[Ex.ch,zaz,zat]at hx;rcases hx with hx|⟨a,hx,rfl⟩
    .exact V x hx
    .exact(D a hx).2
 termination_by n=>n
end Go.Ab.Lw
