import Derived.Test.YtnpbcnjoljebfaaGreatLibB
/- What functions of the given program answer, told of their slim code on the abstract machine. -/
set_option linter.unusedVariables false
set_option linter.defProp false
set_option linter.unusedSimpArgs false
set_option linter.unnecessarySimpa false
set_option maxRecDepth 100000
set_option maxHeartbeats 8000000
namespace Go.Ab
def zcg:=@Bool.false_and
def zc5:=@Option.isSome_iff_exists
end Go.Ab
namespace Go.Ab.Lw
open Ev
def KY(k:Nat):List AV:=[.pv (vI 0),.pv (vI 0),.pv (.str []),.pv (vI 0),.pv (vI 0),.own [] k]
theorem SI{m:Mc}{r:Ty}{E:List En}(e:E.length<=1000000){F:Int}:∀(k i:Nat),E.length-i=k->i<=E.length->∀acc:List Ty,acc.length=i->
   cl AP g370L0 ⟨[(0,.aI 0 0),(3,.pv (vI F)),(10,.au 10 0),(12,.au 12 0),(14,.own (acc.map Ty.pv) 0),(15,.pv (.aq (E.map En.pv))),(16,.pv (vI i))],[(10,KY 1),(12,tC r)],[some (m.cx 2)],[acc.length,0,m.rc.length,m.hd.length]⟩=
     some (.exit 0,⟨[(0,.aI 0 0),(3,.pv (vI F)),(10,.au 10 0),(12,.au 12 0),(14,.own ((acc++(E.drop i).map fun x=>x.sc.ty).map Ty.pv) 0),(15,.pv (.aq (E.map En.pv))),(16,.pv (vI E.length)),(55,.pv (.bool false))],[(10,KY 1),(12,tC r)],[some (m.cx 2)],[E.length,0,m.rc.length,m.hd.length]⟩)
 |0,i,c,hi,acc,b=>by
  have:i=E.length:=by omega
  subst this;rw[g370L0e];simp[g370B0,KY,tC,Mc.cx,b]
 |k+1,i,c,hi,acc,b=>by
  have hi:i<E.length:=(by omega);obtain⟨x,hx⟩:=aP hi;have a:=SI (m:=m) (r:=r) e (F:=F) k (i+1) (by omega) (by omega) (acc++[x.sc.ty]) (by simp;omega);have d:(acc.length+1)*64<=140737488355328:=(by omega);rw[aV hx];rw[g370L0e]at a⊢;simp[KY,tC,Mc.cx]at a;simp(disch:=omega)[-getElem?_pos,g370B0,KY,tC,Mc.cx,hi,hx,d,ah];rw[g370L0e];simp[a]
theorem Ox{m:Mc}{r:Ty}{kept v:List Int}(c:Sm kept)(d:v.length<=1000000):∀(n i:Nat),v.length-i=n->i<=v.length->∀gen:List Int,gen.length<=i->
   cl AP g370L1 ⟨[(10,.au 10 0),(12,.au 12 0),(17,.pv (.aq (kept.map vI))),(18,.pv (.aq (v.map vI))),(19,.own (gen.map vI) 0),(20,.pv (vI i))],[(10,KY 1),(12,tC r)],[some (m.cx 2)],[gen.length,0,m.rc.length,m.hd.length]⟩=
     some (.exit 2,⟨[(10,.au 10 0),(12,.au 12 0),(17,.pv (.aq (kept.map vI))),(18,.pv (.aq (v.map vI))),(19,.own ((gen++(v.drop i).filter fun w=>decide (w∉kept)).map vI) 0),(20,.pv (vI v.length)),(87,.pv (.bool false))],[(10,KY 1),(12,tC r)],[some (m.cx 2)],[(gen++(v.drop i).filter fun w=>decide (w∉kept)).length,0,m.rc.length,m.hd.length]⟩)
 |0,i,hn,hi,gen,f=>by
  have:i=v.length:=by omega
  subst this;rw[g370L1e];simp[g370B1,KY,tC,Mc.cx]
 |n+1,i,hn,hi,gen,f=>by
  have hi:i<v.length:=(by omega);obtain⟨x,hx⟩:=aP hi;have b:=c95 c (y:=x);have e:a7 1 (gen.map vI)=true:=eV.head gen;have g:(gen.length+1)*8<=140737488355328:=(by omega);rw[aV hx];by_cases q:x∈kept
  ·have a:=Ox (m:=m) (r:=r) c d n (i+1) (by omega) (by omega) gen (by omega);rw[zaG q]at b;rw[g370L1e]at a⊢;simp[KY,tC,Mc.cx]at a;simp(disch:=omega)[-getElem?_pos,g370B1,KY,tC,Mc.cx,hi,hx,b,ah,q];rw[g370L1e];simp[a,List.filter_cons,q]
  ·have a:=Ox (m:=m) (r:=r) c d n (i+1) (by omega) (by omega) (gen++[x]) (by simp;omega);rw[zaC q]at b;rw[g370L1e]at a⊢;simp[KY,tC,Mc.cx]at a;simp(disch:=omega)[-getElem?_pos,g370B1,KY,tC,Mc.cx,hi,hx,b,ah,q,g,e];rw[g370L1e];simp[a,q,List.filter_cons]
structure mJ(n:Nat)(h:Ho):Prop where
 ctx:∀x∈h.ctx,kA n x.sc
 len:h.ctx.length<=1000000
 goal:dM n h.goal
theorem mJ.bX{n m:Nat}{h:Ho}(r:mJ n h)(hm:n<=m):mJ m h:=⟨fun x hx=>(r.ctx x hx).bX hm,r.len,r.goal.bX hm⟩
theorem mJ.kB{n:Nat}{l:List Ho}(hl:∀h∈l,mJ n h):∀t∈aU l,t.Ok∧∀w,fE t w->w∈oe n:=by
 intro t b;simp only[aU,zam,zai,zat,zaJ]at b;obtain⟨h,a,⟨x,hx,rfl⟩|rfl⟩:=b
 ·exact⟨((hl h a).ctx x hx).ok,((hl h a).ctx x hx).ig⟩
 ·exact⟨(hl h a).goal.ok,(hl h a).goal.ig⟩
def Vw(f:Bool)(c:Sc):AV:=.agg [.pv (vI c.id),.pv (vI c.ty.kind),.pv (.str c.ty.name),.pv (vI c.ty.id),.pv (vI c.ty.home),eI f (c.ty.args.map Ty.pv)]
def KZ(m:Mc)(c:Sc)(gen:List Int)(b:Bool):List AV×Sh×aG:=([Vw b c,.own (gen.map vI) 0],[some (m.cx 1)],[gen.length,m.rc.length,m.hd.length])
theorem c370{m:Mc}{n:Nat}(I:p8 n m.s)(hn:n<=1000000){t:Ty}(G:dM n t){env:List En}(hE:env.length<=1000000)(he:∀x∈env,kA n x.sc)(hr:∀h∈m.rc,mJ n h)(hl:m.rc.length<=100000){F:Nat}(hF:F<=m.rc.length)(p:Int):
   ∃(c:Sc)(gen:List Int)(b:Bool)(e' p':Int),(aC AP).i 370 [.aI 0 0,.pv t.pv,.pv (.aq (env.map En.pv)),.pv (vI F),.pv (vI p)] m.sh m.tk=some (KZ {m with err:=e',pos:=p'} c gen b)∧kA n c∧gen.length<=1000 ∧
     ∀w,fE c.ty w->¬nc m.s.sl w∧((∃x∈a8 env,RT m.s.sl x.sc.ty w)∨∃u∈aU (m.rc.drop F),RT m.s.sl u w):=by
 have zS:kA n ⟨0,ca⟩:=⟨bQ rfl,.bare rfl (by simp[ca]) (by simp[ca]),⟨0,rfl,by omega,by intro y hy hk;rw[Ty.aM]at hy;simp[ca]at hy;subst hy;simp at hk⟩,by
  intro w h;cases h with
  |var q=>simp[ca]at q
  |arg _ hm _=>simp[ca]at hm⟩
 have zO:∀w,fE (As.mk 0 ca).ty w->¬nc m.s.sl w∧((∃x∈a8 env,RT m.s.sl x.sc.ty w)∨∃u∈aU (m.rc.drop F),RT m.s.sl u w):=by
  intro w h;cases h with
  |var q=>simp[ca]at q
  |arg _ hm _=>simp[ca]at hm
 have z:Sm m.s.sl:=by unfold Sm;rw[I.len];omega
 by_cases h0:m.err=0
 ·obtain⟨r,D,_,_,kT⟩:=c355 z I.ok (m:=200) (by omega) G.ok;by_cases h2:200<r
  ·refine⟨⟨0,ca⟩,[],true,15,p,?_,zS,by simp,zO⟩;have j:(200:Int)<r:=by omega
   simp at D;rw[aA g370];simp[g370,Mc.sh,Mc.tk,Mc.cells,h0,D,j,KZ,eI,Vw,ca,Mc.cx]
  ·obtain⟨u,k2,J,uN,U⟩:=c358y z I.ok G.ok (kT (by omega)) (by omega);have V:=U.kw I.wf G.wf;have H:=U.ig I.xj;have k3:=c201 (l:=env) (by unfold Sm;omega);have a3:=d6 env;have hs:∀x∈a8 env,kA n x.sc:=fun x hx=>he x (cS env x hx)
   have A:=SI (m:=m) (r:=u) (E:=a8 env) (by omega) (F:=F) _ 0 rfl (by omega) [] rfl;have f:∀h∈m.rc.drop F,mJ n h:=fun h g=>hr h (zbL g)
   have Z:=c356 (l:=m.rc.drop F) (by simp;omega) (fun h g=>(f h g).len);have N:=mr (l:=m.rc.drop F) (fun h g=>(f h g).len);have O:(m.rc.drop F).length<=100000:=(by simp;omega);have a1:(aU (m.rc.drop F)).length<=100000*1000001:=zaR N (zaH _ O);have kB:=mJ.kB f
   obtain⟨kept,Y,kC,W⟩:=c372 (s:=m.s) (S:=(oe n).ids) (by rw[I.len];exact hn) I.xj I.ok I.ig (N5 hn).vT (l:=(a8 env).map (fun x=>x.sc.ty)++aU (m.rc.drop F)) (by unfold Sm;simp;omega) (by
    intro t d;simp only[zai,zat]at d;rcases d with⟨x,hx,rfl⟩|d
    ·exact(hs x hx).ok
    ·exact(kB t d).1) (by
    intro t d;simp only[zai,zat]at d;rcases d with⟨x,hx,rfl⟩|d
    ·exact(hs x hx).ig
    ·exact(kB t d).2)
   have a4:=nO (k:=1) (t:=u);have T:Qy u:=⟨J,V.wf,u.fw 1,by omega,fun y hy=>bQ (lC y hy),fun y hy=>hy⟩;obtain⟨S1,f1,f2,f3⟩:=T.vT;have K:=c56 f1 f2 (l:=[u]) (by simp[Sm]) (by simpa using J) (by simpa using f3);rw[kg (by simpa using T.wf)]at K;have a2:=zw (u:=u);have B:=Ox (m:=m) (r:=u) (kept:=kept) kC.len (v:=vars [u]) (by omega) _ 0 rfl (by omega) [] (by simp);have a5:((vars [u]).filter fun w=>decide (w∉kept)).length<=(vars [u]).length:=zcA _ _;have X:=c208 T (ids:=(vars [u]).filter fun w=>decide (w∉kept)) (by unfold Sm;omega)
   obtain⟨c1,c2⟩:=KX (n:=n) J V (by omega) (fun w hw=>by
    obtain⟨⟨o,P,hr⟩,_⟩:=(H w).1 hw
    have key:∀{a b:Int},F3 m.s.sl a b->a∈oe n->b∈oe n:=by
     intro a b h;induction h with
     |refl=>exact fun h=>h
     |step e _ ih=>
      intro _;obtain⟨k,x,_,hx,_,P⟩:=e;exact ih (I.ig x (aN hx) _ P)
    exact key hr (G.ig o P)) ((vars [u]).filter fun w=>decide (w∉kept))
   refine⟨dB ((vars [u]).filter fun w=>decide (w∉kept)) u (vars [u]),(vars [u]).filter fun w=>decide (w∉kept),false,0,m.pos,?_,c1,by omega,?_⟩
   ·have g:=jw.head ((a8 env).map fun x=>x.sc.ty);rw[zb0]at g;have C:=Sq (sz:=8) (τ:=2) (l:=m.rc.map Ho.pv) (k:=.i64) (h:=(F:Int)) (by omega) (by simp;omega) (R5.head _);have hT:Sm (aU (m.rc.drop F)):=(by unfold Sm;omega);have ab:(F:Int)<=m.rc.length:=(by omega);have bb:((a8 env).length+(aU (m.rc.drop F)).length)*64<=140737488355328:=(by omega);have R:a7 1 (((vars [u]).filter fun w=>decide (w∉kept)).map vI)=true:=eV.head _;clear c1 c2 H W kB hs f;generalize dB ((vars [u]).filter fun w=>decide (w∉kept)) u (vars [u])=c at*;generalize hG:((vars [u]).filter fun w=>decide (w∉kept))=gen at*;generalize vars [u]=v at*;generalize a8 env=E at*;rw[g370L0e]at A;rw[g370L1e]at B;rw[zar]at A B;rw[hG]at B;have j:¬(200:Int)<r:=(by omega);simp[KY,tC,Mc.cx,h0]at A B;simp at D k2 k3 Z Y K X C;rw[aA g370];simp(disch:=omega)[-getElem?_pos,g370,Mc.sh,Mc.tk,Mc.cells,h0,D,j,k2,k3,g370L0e,A,Z,Y,K,g370L1e,B,X,KZ,eI,Vw,Mc.cx,C,g,R,bb]
   ·intro w hw;obtain⟨hu,Q⟩:=c2 w hw;obtain⟨_,hf⟩:=(H w).1 hu;refine⟨hf,?_⟩;obtain⟨y,hy,yk,ye⟩:=Cz hu;have L:w∈vars [u]:=by rw[<-ye];exact lH (by simpa using hy) yk
    have M:w∈kept:=by
     by_cases q:w∈kept
     ·exact q
     ·exact absurd (List.mem_filter.2 ⟨L,by simpa using q⟩) Q
    obtain⟨t',d,hr,_⟩:=(W w).1 M;simp only[zai,zat]at d;rcases d with⟨x,hx,rfl⟩|d
    ·exact .inl ⟨x,hx,hr⟩
    ·exact .inr ⟨t',d,hr⟩
 ·refine⟨⟨0,ca⟩,[],true,m.err,m.pos,?_,zS,by simp,zO⟩;rw[aA g370];simp[g370,Mc.sh,Mc.tk,Mc.cells,h0,KZ,eI,Vw,ca,Mc.cx]
def Oy(F G:Ca):Ca:=if F.1≠0 then F else G
theorem XI{ds:List Dt}{b:List bD}{e:Ex}(f:Uw e)(hn:b.length<=900000000)
   (o:∀i,∀x∈e.ch,(aC AP).p 366 [.aq (ds.map Dt.pv),.aq ((b++cd e i).map .str),x.pv]=some [fP (x.bR ds (b++cd e i))]):∀(n i:Nat),e.ch.length-i=n->i<=e.ch.length->∀F:Ca,(F.1=0->F=(0,0))->∃j:Int,
   cl AP g366L0 ⟨[(0,.pv (.aq (ds.map Dt.pv))),(1,.pv (.aq (b.map .str))),(5,.au 5 0),(6,.au 6 0),(7,.au 7 0),(12,.pv (.aq (e.ch.map Ex.pv))),(13,.pv (vI i))],[(5,e.cl),(6,m2 (0,0)),(7,m2 F)],[],[]⟩=
     some (.exit 1,⟨[(0,.pv (.aq (ds.map Dt.pv))),(1,.pv (.aq (b.map .str))),(5,.au 5 0),(6,.au 6 0),(7,.au 7 0),(12,.pv (.aq (e.ch.map Ex.pv))),(13,.pv (vI j)),(69,.pv (.bool false))],[(5,e.cl),(6,m2 (0,0)),(7,m2 (Oy F (xg (fun i x=>x.bR ds (b++cd e i)) i (e.ch.drop i))))],[],[]⟩)
 |0,i,y,hi,F,t=>by
  have:i=e.ch.length:=by omega
  subst this;refine⟨e.ch.length,?_⟩;rw[za1]
  have:Oy F (xg (fun i x=>x.bR ds (b++cd e i)) e.ch.length [])=F:=by
   unfold Oy;split
   ·rfl
   ·rename_i q;exact(t (by simpa using q)).symm
  rw[this];generalize e.ch=C;rw[g366L0e];simp[g366B0]
 |n+1,i,y,hi,F,t=>by
  have hi:i<e.ch.length:=(by omega);by_cases c:F.1=0
  ·obtain⟨x,hx⟩:=aP hi;have u:=Ex.gZ (e:=e);have w:=f.ok.k;have v:=f.ok.a;obtain⟨j,hr⟩:=XI f hn o n (i+1) (by omega) (by omega) (x.bR ds (b++cd e i)) NU;refine⟨j,?_⟩;have g:=c380 hi f.one.h f.ok;have z:=ki f.ok (i:=i);have A:(b.length+(cd e i).length)*16<=140737488355328:=by omega
   have m:b.length*16<=140737488355328:=(by omega);have r:(cd e i).length*16<=140737488355328:=(by omega);have d:=o i x (aN hx);rw[aV hx]
   have l:Oy F (xg (fun i x=>x.bR ds (b++cd e i)) i (x::e.ch.drop (i+1)))=Oy (x.bR ds (b++cd e i)) (xg (fun i x=>x.bR ds (b++cd e i)) (i+1) (e.ch.drop (i+1))):=by
    simp only[Oy,xg,c];simp
   rw[l];clear l;generalize D:Oy (x.bR ds (b++cd e i)) (xg (fun i x=>x.bR ds (b++cd e i)) (i+1) (e.ch.drop (i+1)))=G at*;generalize E:x.bR ds (b++cd e i)=H at*;clear o D;have s:=t c;subst s;generalize cd e i=B at*;generalize e.ch=C at*;rw[g366L0e]at hr⊢;simp at g d hr;by_cases h1:b=[]
   ·subst h1;simp only[zbk]at hr;by_cases h2:B=[]
    ·subst h2;simp at d;simp(disch:=omega)[-getElem?_pos,g366B0,hi,hx,g,d,ah];rw[g366L0e];simp[hr]
    ·simp at d;simp(disch:=omega)[-getElem?_pos,g366B0,hi,hx,g,d,h2,r,ah];rw[g366L0e];simp[hr]
   ·by_cases h2:B=[]
    ·subst h2;simp at d;simp(disch:=omega)[-getElem?_pos,g366B0,hi,hx,g,d,h1,m,ah];rw[g366L0e];simp[hr]
    ·simp(disch:=omega)[-getElem?_pos,g366B0,hi,hx,g,d,h1,h2,A,m,ah];rw[g366L0e];simp[hr]
  ·refine⟨i,?_⟩;have:Oy F (xg (fun i x=>x.bR ds (b++cd e i)) i (e.ch.drop i))=F:=by simp[Oy,c]
   rw[this];generalize e.ch=C at*;rw[g366L0e];simp[g366B0,hi,c]
theorem c366{ds:List Dt}(hS:Sm ds)(H:∀d∈ds,Sm d.cons):∀(n:Nat){e:Ex},Uw e->e.KM n->∀f:List bD,f.length+1000*n<=900000000->(aC AP).p 366 [.aq (ds.map Dt.pv),.aq (f.map .str),e.pv]=some [fP (e.bR ds f)]
 |0,e,_,F,_,_=>by cases F
 |n+1,e,u,F,f,hl=>by
  have J:∀i,∀x∈e.ch,(aC AP).p 366 [.aq (ds.map Dt.pv),.aq ((f++cd e i).map .str),x.pv]=some [fP (x.bR ds (f++cd e i))]:=fun i x hx=>
   c366 hS H n (u.c hx) (F.c x hx) _ (by have:=ki u.ok (i:=i);simp;omega)
  obtain⟨j,h⟩:=XI u (by omega) J _ 0 rfl (by omega) (gF ds f e) F8;have g:=c145 u.ok;rw[zar]at h;rw[Ex.F6]
  change _=some [fP (Oy (gF ds f e) (xg (fun i x=>x.bR ds (f++cd e i)) 0 e.ch))]
  clear J;have w:=c364 (s:=f) (by unfold Sm;omega) (y:=e.name);have q:=c191 hS H (s:=e.name);have E:=c379 hS H u.ok;have D:=c186 hS (l:=[]) (by simp[Sm]) u.ok.t u.cw.h;have I:=c365 (a:=9) (b:=e.pos);have fT:=c365 (a:=e.ty.formed ds []) (b:=e.pos);generalize Oy (gF ds f e) (xg (fun i x=>x.bR ds (f++cd e i)) 0 e.ch)=G at*;generalize e.ch=C at*;rw[az g366];rw[g366L0e]at h;simp at g w q E D I fT;generalize K:sn ds e=Q at*;generalize hT:e.ty.formed ds []=T at*;by_cases o:e.kind=1
  ·simp only[o]at g;by_cases A:e.name∈f
   ·simp[gF,o,A]at h;simp[A]at w;simp[g366,o,g,w,g366L0e,h]
   ·simp[gF,o,A]at h;simp[A]at w;simp[g366,o,g,w,I,g366L0e,h]
  ·by_cases m:e.kind=2
   ·simp only[m]at g;cases z:gA ds e.name 0 with
    |none=>
     rw[z]at q;simp[rF]at q;simp[gF,m,z]at h;simp[g366,m,g,q,I,g366L0e,h]
    |some r=>
     rw[z]at q;simp[rF]at q;simp[gF,m,z]at h;simp[g366,m,g,q,g366L0e,h]
   ·by_cases v:e.kind=8
    ·simp only[v]at g;simp[v]at E;simp[gF,v,K]at h;simp[g366,v,g,E,g366L0e,h]
    ·by_cases k:e.kind=9
     ·simp only[k]at g;by_cases B:T=0
      ·subst B;simp[gF,k,hT]at h;simp[g366,k,g,D,g366L0e,h]
      ·simp[gF,k,hT,B]at h;simp[g366,k,B,g,D,fT,g366L0e,h]
     ·simp[gF,o,m,v,k]at h;simp[g366,o,m,v,k,g,g366L0e,h]
structure Step(H:Prop)(m:Mc)(n a r:Nat)(m':Mc)(n':Nat):Prop where
 st:p8 n' m'.s
 le:n<=n'
 up:n'<=n+a
 ext:Ext m.s.sl m'.s.sl
 ds:m'.ds=m.ds
 home:m'.home=m.home
 lI:∃rs hs,m'.rc=m.rc++rs∧m'.hd=m.hd++hs∧rs.length<=r∧hs.length=rs.length∧(∀h∈rs,mJ n' h)∧(H->∀b∈hs,b=false)
theorem Step.same{H:Prop}{m m':Mc}{n:Nat}(st:p8 n m'.s)(ext:Ext m.s.sl m'.s.sl)(ds:m'.ds=m.ds)(home:m'.home=m.home)(rc:m'.rc=m.rc)(hd:m'.hd=m.hd):Step H m n 0 0 m' n:=⟨st,zaj _,by omega,ext,ds,home,[],[],by simp[rc],by simp[hd],by simp,rfl,by simp,by simp⟩
theorem Step.trans{H:Prop}{m j m2:Mc}{n i g a k r f:Nat}(h:Step H m n a r j i)(h':Step H j i k f m2 g):Step H m n (a+k) (r+f) m2 g:=by
 obtain⟨rs,hs,e1,e2,e3,e4,e5,o⟩:=h.lI;obtain⟨d,e,f1,f2,f3,p,f5,l⟩:=h'.lI;refine⟨h'.st,zaR h.le h'.le,by have:=h.up;have:=h'.up;omega,h.ext.trans h'.ext,h'.ds.trans h.ds,h'.home.trans h.home,rs++d,hs++e,by rw[f1,e1,zaQ],by rw[f2,e2,zaQ],by simp;omega,by simp;omega,?_,?_⟩
 ·intro x hx;simp only[zai]at hx;rcases hx with hx|hx
  ·exact(e5 x hx).bX h'.le
  ·exact f5 x hx
 ·intro q b c;simp only[zai]at c;rcases c with c|c
  ·exact o q b c
  ·exact l q b c
theorem Step.bX{H:Prop}{m m':Mc}{n n' a c r b:Nat}(h:Step H m n a r m' n')(e:a<=c)(hr:r<=b):Step H m n c b m' n':=by
 obtain⟨rs,hs,e1,e2,e3,e4,e5,d⟩:=h.lI;exact⟨h.st,h.le,by have:=h.up;omega,h.ext,h.ds,h.home,rs,hs,e1,e2,by omega,e4,e5,d⟩
theorem Step.fresh{H:Prop}{m:Mc}{n:Nat}(I:p8 n m.s):Step H m n 1 0 {m with s:=bC m.s m.home false} (n+1):=⟨I.fresh _,by omega,by omega,Ext.fresh _ _ _,rfl,rfl,[],[],by simp,by simp,by simp,rfl,by simp,by simp⟩
theorem Step.open{H:Prop}{m:Mc}{n:Nat}(I:p8 n m.s)(K:Nat):Step H m n K 0 (nT m K) (n+K):=⟨zz I _ K,by omega,by omega,Ht _ _ K,rfl,rfl,[],[],by simp[nT],by simp[nT],by simp,rfl,by simp,by simp⟩
theorem Step.record{H:Prop}{m:Mc}{n:Nat}(I:p8 n m.s){h:Ho}{b:Bool}(hr:mJ n h)(a:H->b=false):Step H m n 0 1 {m with rc:=m.rc++[h],hd:=m.hd++[b]} n:=⟨I,zaj _,by omega,.refl _,rfl,rfl,[h],[b],rfl,rfl,by simp,by simp,by simpa using hr,fun q x hx=>by simp at hx;rw[hx];exact a q⟩
structure Room(ds:List Dt)(m:Mc)(n A R E:Nat)(env:List En):Prop where
 st:p8 n m.s
 nb:n+A<=1000000
 rc:m.rc.length+R<=100000
 hd:m.hd.length+R<=100000
 lI:∀h∈m.rc,mJ n h
 zA:∀x∈env,kA n x.sc
 el:env.length+E<=1000000
 ds:m.ds=ds
theorem Room.step{H:Prop}{ds:List Dt}{m m':Mc}{n n' A R E a r A' R' E':Nat}{env:List En}(h:Room ds m n A R E env)(s:Step H m n a r m' n')(d:A'+a<=A)(b:R'+r<=R)(c:E'<=E):Room ds m' n' A' R' E' env:=by
 obtain⟨rs,hs,e1,e2,e3,e4,e5,e⟩:=s.lI;refine⟨s.st,by have:=s.up;have:=h.nb;omega,by rw[e1];have:=h.rc;simp;omega,by rw[e2];have:=h.hd;simp;omega,?_,fun x hx=>(h.zA x hx).bX s.le,by have:=h.el;omega,by rw[s.ds,h.ds]⟩;intro x hx;rw[e1,zai]at hx;rcases hx with hx|hx
 ·exact(h.lI x hx).bX s.le
 ·exact e5 x hx
theorem Room.push{ds:List Dt}{m:Mc}{n A R E E':Nat}{env:List En}(h:Room ds m n A R E env){s:bD}{c:Sc}(a:kA n c)(b:E'+1<=E):Room ds m n A R E' (env++[⟨s,c⟩]):=⟨h.st,h.nb,h.rc,h.hd,h.lI,by
 intro x hx;simp only[zai,zaJ]at hx;rcases hx with hx|rfl
 ·exact h.zA x hx
 ·exact a,by have:=h.el;simp;omega,h.ds⟩
theorem Room.bX{ds:List Dt}{m:Mc}{n A R E A' R' E':Nat}{env:List En}(h:Room ds m n A R E env)(c:A'<=A)(a:R'<=R)(b:E'<=E):Room ds m n A' R' E' env:=⟨h.st,by have:=h.nb;omega,by have:=h.rc;omega,by have:=h.hd;omega,h.lI,h.zA,by have:=h.el;omega,h.ds⟩
theorem Room.n'{ds:List Dt}{m:Mc}{n A R E:Nat}{env:List En}(h:Room ds m n A R E env):n<=1000000:=by have:=h.nb;omega
theorem lF.YA{n:Nat}{c:Sc}(h:lF c):kA n c:=by
 obtain⟨K,h1,h2,h3⟩:=h.Od;exact⟨h.ok,h.kn.imp NW,⟨K,h1,by omega,h3⟩,fun _ a=>(zk a h.kn (by simp)).elim⟩
theorem gB{n k:Nat}(h:k<n):dM n (aQ k):=mm (d8.2 (by omega))
theorem xz{n:Nat}{a b:Ty}(e:dM n a)(d:dM n b):dM n ⟨4,[45,62],0,0,[a,b]⟩ where
 ok:=⟨by simp[Sm],by intro x hx;simp at hx;rcases hx with rfl|rfl;exact e.ok;exact d.ok⟩
 wf:=.mk (by simp) (by simp) (by intro x hx;simp at hx;rcases hx with rfl|rfl;exact e.wf;exact d.wf)
 ig:=by
  intro w c;cases c with
  |var q=>simp at q
  |arg _ hm c=>
   simp at hm;rcases hm with rfl|rfl
   ·exact e.ig w c
   ·exact d.ig w c
 vn:=trivial
theorem Q_{n:Nat}{s:bD}(hs:s.length<=100){l:List Ty}(hS:Sm l)(hl:∀x∈l,dM n x):dM n ⟨4,s,0,0,l⟩ where
 ok:=⟨hS,fun x hx=>(hl x hx).ok⟩
 wf:=.mk (by simp) hs fun x hx=>(hl x hx).wf
 ig:=by
  intro w a;cases a with
  |var q=>simp at q
  |arg _ hm a=>exact(hl _ hm).ig w a
 vn:=trivial
theorem Hx{n:Nat}{c:Sc}(h:kA n c){K:Nat}(hK:c.id=K){n':Nat}(hn:n<=n'){as:List Ty}(e:as.length=K)(hf:∀x∈as,dM n' x):dM n' (c.ty.fQ as):=by
 obtain⟨K',h1,_,h3⟩:=h.Od;have:K'=K:=by omega
 subst this;refine⟨nd (fun a h=>(hf a h).ok) h.ok,zc h.kn (by simp only[KV,KS];omega) (fun a h=>(hf a h).wf) (fun y hy d=>by have:=h3 y hy d;omega),?_,trivial⟩;intro w b;rcases Hh w b with h'|⟨x,hx,h'⟩
 ·exact lE hn w (h.ig w h')
 ·exact(hf x hx).ig w h'
theorem Gf{n:Nat}{ds:List Dt}(k:ni ds){s:bD}{as:List Ty}(i:∀a∈as,dM n a):((fieldsOf ds s as).getD []).length<=8∧∀f∈(fieldsOf ds s as).getD [],dM n f:=by
 cases e:fieldsOf ds s as with
 |none=>simp
 |some fs=>
  simp only[fieldsOf,zaz]at e;obtain⟨q,_,d,hd,c,g,e⟩:=e;split at e
  ·rename_i hl;cases e;have h:=k.all d (aN hd);obtain⟨_,_,h8⟩:=bV d h;obtain⟨j,b⟩:=zy d h;refine⟨by simpa using(h8 c (aN g)).1,?_⟩;intro f hf;simp only[zbi,zat]at hf;obtain⟨x,hx,rfl⟩:=hf;exact Hx (n:=0) (lF.YA (nR rfl j (b c (aN g) x hx))) rfl (by omega) hl i
  ·cases e
theorem Hy{n:Nat}:∀{l:List En}{s:bD},(∀x∈l,kA n x.sc)->kA n ((m8 l s).getD ee)
 |[],s,_=>(lF.YA ⟨bQ rfl,.bare rfl (by simp[m8,ee]) (by simp[m8,ee]),0,rfl,by omega,by intro y hy d;simp[m8,ee,Ty.aM]at hy;rw[hy]at d;simp at d⟩)
 |a::r,s,h=>by
  have b:=Hy (l:=r) (s:=s) fun x hx=>h x (by simp[hx]);unfold m8;split
  ·rename_i c e;rw[e]at b;exact b
  ·split
   ·exact h a (by simp)
   ·rename_i hn _;rw[hn]at b;exact b
inductive Oz (ds:List Dt):Ex->Prop
 |mk {e:Ex}:(e.kind=8->∃i d,eL ds e.aF=some i∧ds[i]?=some d)->(e.kind=9->e.ty.formed ds []=0)->(∀x∈e.ch,Oz ds x)->Oz ds e
theorem Oz.c{ds:List Dt}{e:Ex}(h:Oz ds e):∀x∈e.ch,Oz ds x:=by cases h;assumption
theorem Oz.a{ds:List Dt}{e:Ex}(h:Oz ds e):e.kind=8->∃i d,eL ds e.aF=some i∧ds[i]?=some d:=by cases h;assumption
theorem Oz.t{ds:List Dt}{e:Ex}(h:Oz ds e):e.kind=9->e.ty.formed ds []=0:=by cases h;assumption
theorem Hz{f:Nat->Ex->Ca}:∀{l:List Ex}{i:Nat},(xg f i l).1=0->∀x∈l,∃j,(f j x).1=0
 |[],_,_=>by simp
 |x::r,i,h=>by
  simp only[xg]at h;by_cases q:(f i x).1=0
  ·rw[zad (by simpa using q)]at h;intro y hy;simp only[zah]at hy;rcases hy with rfl|hy
   ·exact⟨i,q⟩
   ·exact Hz h y hy
  ·rw[zak q]at h;exact absurd h q
theorem OA{ds:List Dt}{as:List Ar}{F:Ca}(h:findF ds as=some F):F.1≠0:=by
 induction as with
 |nil=>simp[findF]at h
 |cons a r b=>
  simp only[findF]at h;split at h
  ·first|exact b h|(cases h;simp)
  ·first|exact b h|(cases h;simp)
theorem OB{ds:List Dt}{n:Nat}:∀{e:Ex}{a:List bD},e.KM n->(e.bR ds a).1=0->Oz ds e:=by
 induction n with
 |zero=>intro e a b;cases b
 |succ n f=>
  intro e a b h;rw[Ex.F6]at h
  have h1:(gF ds a e).1=0:=by
   by_cases q:(gF ds a e).1=0
   ·exact q
   ·rw[zak q]at h;exact absurd h q
  rw[zad (by simpa using h1)]at h;refine .mk (fun k=>?_) (fun k=>?_) fun x hx=>?_
  ·simp[gF,k]at h1;unfold sn at h1;cases e1:findF ds e.aF with
   |some F=>rw[e1]at h1;exact absurd h1 (OA e1)
   |none=>
    rw[e1]at h1;cases e2:eL ds e.aF with
    |none=>rw[e2]at h1;simp at h1
    |some i=>
     obtain⟨d,hd⟩:=aP (He e2);exact⟨i,d,rfl,hd⟩
  ·simp[gF,k]at h1;by_cases q:e.ty.formed ds []=0
   ·exact q
   ·rw[zad q]at h1;exact absurd h1 q
  ·obtain⟨j,hj⟩:=Hz h x hx;exact f (b.c x hx) hj
theorem ss{ds:List Dt}{l:List bD}:∀{as:List Ty},Ty.gw ds l as=0->∀x∈as,x.formed ds l=0
 |[],_=>by simp
 |a::r,h=>by
  simp only[Ty.gw]at h;by_cases q:a.formed ds l=0
  ·rw[zad (by simpa using q)]at h;intro x hx;simp only[zah]at hx;rcases hx with rfl|hx
   ·exact q
   ·exact ss h x hx
  ·rw[zak q]at h;exact absurd h q
theorem Gg{ds:List Dt}{n:Nat}{t:Ty}(d:t.Ok)(c:t.Kn KT)(h:t.formed ds []=0):dM n t:=by
 have key:t.Kn (·=0):=by
  clear d;induction c with
  | @mk t g hn _ e=>
   rw[Ty.xe]at h
   have h1:kP ds [] t=0:=by
    by_cases q:kP ds [] t=0
    ·exact q
    ·rw[zak q]at h;exact absurd h q
   rw[zad (by simpa using h1)]at h;refine .mk (fun q=>?_) hn fun x hx=>e x hx (ss h x hx);obtain⟨a,b⟩:=g q;refine⟨?_,b⟩;rcases a with a|a
   ·exact a
   ·simp[kP,a]at h1
 exact⟨d,key.imp (by intro k c;simp[c]),fun w f=>(zk f key (by simp)).elim,trivial⟩
mutual
def Dv.jM:Dv->Nat
 |⟨_,_,_,ks⟩=>1+Dv.OC ks
def Dv.OC:List Dv->Nat
 |[]=>0
 |d::r=>Dv.jM d+Dv.OC r
end
theorem Dv.HA:∀l:List Dv,Dv.OC l=(l.map Dv.jM).sum
 |[]=>by simp[Dv.OC]
 |d::r=>by simp[Dv.OC,Dv.HA r]
theorem Dv.iT(d:Dv):d.jM=1+(d.kids.map Dv.jM).sum:=by
 cases d;simp only[Dv.jM,Dv.HA]
inductive Dv.Fi (n:Nat):Dv->Prop
 |mk {d:Dv}:dM n d.ty->(∀t∈d.inst,dM n t)->d.inst.length<=200->d.gen.length<=1000->(∀x∈d.kids,x.Fi n)->d.Fi n
theorem Dv.Fi.t{n:Nat}{d:Dv}(h:d.Fi n):dM n d.ty:=by cases h;assumption
theorem Dv.Fi.i{n:Nat}{d:Dv}(h:d.Fi n):∀t∈d.inst,dM n t:=by cases h;assumption
theorem Dv.Fi.il{n:Nat}{d:Dv}(h:d.Fi n):d.inst.length<=200:=by cases h;assumption
theorem Dv.Fi.k{n:Nat}{d:Dv}(h:d.Fi n):∀x∈d.kids,x.Fi n:=by cases h;assumption
theorem Dv.Fi.bX{n m:Nat}(hm:n<=m){d:Dv}(h:d.Fi n):d.Fi m:=by
 induction h with
 |mk h1 h2 h3 h4 _ a=>exact .mk (h1.bX hm) (fun t b=>(h2 t b).bX hm) h3 h4 a
structure OD(n N:Nat)(d:Dv):Prop where
 f:d.Fi n
 n:d.jM<=N
theorem OD.t{n N:Nat}{d:Dv}(h:OD n N d):dM n d.ty:=h.f.t
theorem OE{n N:Nat}{t:Ty}{l:List Ty}(a:dM n t)(hl:∀x∈l,dM n x)(h2:l.length<=200)(hN:1<=N):OD n N ⟨t,l,[],[]⟩:=⟨.mk a hl h2 (by simp) (by simp),by rw[Dv.iT];simpa using hN⟩
theorem UN{n N:Nat}{t:Ty}{l:List Ty}{g:List Int}{ks:List Dv}(a:dM n t)(hl:∀x∈l,dM n x)(h2:l.length<=200)(c:g.length<=1000)(b:∀x∈ks,x.Fi n)(hN:(ks.map Dv.jM).sum+1<=N):OD n N ⟨t,l,g,ks⟩:=⟨.mk a hl h2 c b,by rw[Dv.iT];simp only;omega⟩
theorem UO{n n' N M:Nat}{t:Ty}{d:Dv}(a:dM n t)(hd:OD n' M d)(hn:n'<=n)(hN:M+1<=N):OD n N ⟨t,[],[],[d]⟩:=UN a (by simp) (by simp) (by simp) (by simpa using hd.f.bX hn) (by have:=hd.n;simp;omega)
theorem UP{n n' c N M h:Nat}{t:Ty}{g:List Int}{d e:Dv}(i:dM n t)(j:g.length<=1000)(hd:OD n' M d)(hn:n'<=n)(a:OD c h e)(b:c<=n)(hN:M+h+1<=N):OD n N ⟨t,[],g,[d,e]⟩:=UN i (by simp) (by simp) j (by intro x hx;simp at hx;rcases hx with rfl|rfl;exact hd.f.bX hn;exact a.f.bX b) (by have:=hd.n;have:=a.n;simp;omega)
def ku(ds:List Dt)(H:Prop)(e:Ex):Prop:=∀(m:Mc)(n:Nat)(env:List En),Room ds m n (201*e.sz) e.sz (20*e.sz) env->∃(d:Dv)(a b c k:Bool)(m':Mc)(n':Nat),jj 368 [.pv (.aq (env.map En.pv)),.pv e.pv] m [.agg (iA a b c k d)] m'∧Step H m n (201*e.sz) e.sz m' n'∧OD n' e.sz d
theorem Q'{n:Nat}:dM n ca:=⟨bQ rfl,.bare rfl (by simp[ca]) (by simp[ca]),by
 intro w h;cases h with
 |var q=>simp[ca]at q
 |arg _ hm _=>simp[ca]at hm,trivial⟩
theorem i4{ds:List Dt}{H:Prop}{e:Ex}{m:Mc}{n:Nat}{env:List En}(R:Room ds m n (201*e.sz) e.sz (20*e.sz) env)(h0:¬m.err=0):∃(d:Dv)(a b c k:Bool)(m':Mc)(n':Nat),jj 368 [.pv (.aq (env.map En.pv)),.pv e.pv] m [.agg (iA a b c k d)] m'∧Step H m n (201*e.sz) e.sz m' n'∧OD n' e.sz d:=by
 refine⟨⟨ca,[],[],[]⟩,true,true,true,true,m,n,?_,(Step.same R.st (.refl _) rfl rfl rfl rfl).bX (by omega) (by omega),OE Q' (by simp) (by simp) e.k_⟩;unfold jj;rw[aA g368];simp[g368,Mc.sh,Mc.tk,Mc.cells,h0,iA,eI,ca]
theorem Vx{e a:Ex}(h:e.kids=[a])(h':e.aF=[]):e.sz=1+a.sz:=by rw[Ex.sr,Ex.ch,h,h'];simp
theorem XJ{e a b:Ex}(h:e.kids=[a,b])(h':e.aF=[]):e.sz=1+a.sz+b.sz:=by rw[Ex.sr,Ex.ch,h,h'];simp;omega
theorem OF{n:Nat}{c:Sc}(h:kA n c):∃K:Nat,c.id=K∧K<=200∧dM (n+K) (c.ty.fQ (fh n K)):=by
 obtain⟨K,h1,h2,_⟩:=h.Od;exact⟨K,h1,h2,Hx h h1 (by omega) (nj n K) qf⟩
theorem OG{ds:List Dt}(j:ni ds){H:Prop}{e:Ex}(b:e.kind=1∨e.kind=2):ku ds H e:=by
 intro m n env R;by_cases h0:m.err=0
 ·have hs:=e.k_;have p:=R.el;have d:=R.ds;have f:=c181 (l:=env) (by unfold Sm;omega) (s:=e.name);have g:=j.c193 (s:=e.name);have o:=Hy (s:=e.name) R.zA;have k:kA n ((gm ds e.name).getD ee):=lF.YA (qW j.all);have hN:=R.nb
  have key:∀c:Sc,kA n c->∃K:Nat,K<=200∧dM (n+K) (c.ty.fQ (fh n K))∧(aC AP).i 382 [.aI 0 0,.pv c.pv] m.sh m.tk=some ([Hu (c.ty.fQ (fh n K)),.own ((fh n K).map Ty.pv) 0],[some ((nT m K).cx 1)],[K,m.rc.length,m.hd.length]):=by
   intro c h;obtain⟨K,h1,h2,h3⟩:=OF h;exact⟨K,h2,h3,c382 R.st h1 (by omega) h.ok⟩
  rcases b with b|b
  ·obtain⟨K,h2,h3,a⟩:=key _ o;refine⟨⟨((m8 env e.name).getD ee).ty.fQ (fh n K),fh n K,[],[]⟩,false,false,true,true,nT m K,n+K,?_,(Step.open R.st K).bX (by omega) (by omega),OE h3 qf (by simpa using h2) hs⟩;simp[ta]at f;unfold jj;generalize (m8 env e.name).getD ee=c at*;generalize c.ty.fQ (fh n K)=u at*;generalize fh n K=I at*;simp[Mc.sh,Mc.tk,Mc.cells,Mc.cx,nT,Hu,h0]at a;rw[aA g368];simp[g368,Mc.sh,Mc.tk,Mc.cells,h0,b,f,a,iA,eI,nT]
  ·obtain⟨K,h2,h3,a⟩:=key _ k;refine⟨⟨((gm ds e.name).getD ee).ty.fQ (fh n K),fh n K,[],[]⟩,false,false,true,true,nT m K,n+K,?_,(Step.open R.st K).bX (by omega) (by omega),OE h3 qf (by simpa using h2) hs⟩;simp[ta]at f g;unfold jj;generalize (gm ds e.name).getD ee=c at*;generalize c.ty.fQ (fh n K)=u at*;generalize fh n K=I at*;simp[Mc.sh,Mc.tk,Mc.cells,Mc.cx,nT,Hu,h0,d]at a;rw[aA g368];simp[g368,Mc.sh,Mc.tk,Mc.cells,h0,b,d,f,g,a,iA,eI,nT]
 ·exact i4 R h0
theorem Ra{ds:List Dt}{H:Prop}{e:Ex}(a:e.kind=3):ku ds H e:=by
 intro m n env R;by_cases h0:m.err=0
 ·refine⟨⟨bj,[],[],[]⟩,false,true,true,true,m,n,?_,(Step.same R.st (.refl _) rfl rfl rfl rfl).bX (by omega) (by omega),OE tE.fit (by simp) (by simp) e.k_⟩;have k:=c34;unfold jj;simp[bj]at k;rw[aA g368];simp[g368,Mc.sh,Mc.tk,Mc.cells,h0,a,k,iA,eI,bj]
 ·exact i4 R h0
theorem OH{ds:List Dt}{H:Prop}{e:Ex}(c:e.kind=10):ku ds H e:=by
 intro m n env R;by_cases h0:m.err=0
 ·have hs:=e.k_;have h:=R.el;have hN:=R.nb;have f:=c367 R.st R.n';have b:=Step.fresh (H:=H) R.st;have R1:=R.step b (A':=0) (R':=1) (E':=1) (by omega) (by omega) (by omega);have d:=c384 (m:={m with s:=bC m.s m.home false}) (env:=env) (by unfold Sm;omega) e (aQ n) (by have:=R1.rc;simp only at*;omega) (by have:=R1.hd;simp only at*;omega);have g:=d6 env;have a:mJ (n+1) ⟨m.home,e.pos,a8 env,aQ n⟩:=⟨fun y hy=>(R.zA y (cS env y hy)).bX (by omega),by simp only;omega,gB (by omega)⟩;refine⟨⟨aQ n,[],[],[]⟩,false,true,true,true,{m with s:=bC m.s m.home false,rc:=m.rc++[⟨m.home,e.pos,a8 env,aQ n⟩],hd:=m.hd++[e.kind == 11]},n+1,?_,(b.trans (Step.record b.st a (fun _=>by simp[c]))).bX (by omega) (by omega),OE (gB (by omega)) (by simp) (by simp) hs⟩;unfold jj at*;simp[Mc.sh,Mc.tk,Mc.cells,aQ,h0,c]at f d;rw[aA g368];simp[g368,Mc.sh,Mc.tk,Mc.cells,h0,c,f,d,iA,eI,aQ]
 ·exact i4 R h0
theorem Rb{ds:List Dt}{H:Prop}{e a:Ex}(A:e.kind=4)(h1:e.kids=[a])(h2:e.aF=[])(E:ku ds H a):ku ds H e:=by
 intro m n env R;by_cases h0:m.err=0
 ·have hs:=Vx h1 h2;have B:=R.el;have w:=c367 R.st R.n';have p:=Step.fresh (H:=H) R.st;have G:=(R.step p (A':=201*a.sz) (R':=a.sz) (E':=20*a.sz+1) (by omega) (by omega) (by omega)).push (s:=e.name) (c:=⟨0,aQ n⟩) (gB (by omega)).mono (zaj _);have v:=c176 (t:=aQ n);have u:=c179 (l:=env) (by unfold Sm;omega) (n:=e.name) (c:=⟨0,aQ n⟩);obtain⟨d,f1,f2,f3,y,m2,z,r,o,x⟩:=E _ _ _ G;have q:=c69 (a:=aQ n) (b:=d.ty);have D:=eW f1 f2 f3 y d;generalize iA f1 f2 f3 y d=C at*;refine⟨⟨⟨4,[45,62],0,0,[aQ n,d.ty]⟩,[],[],[d]⟩,false,true,true,true,m2,z,?_,(p.trans o).bX (by omega) (by omega),UO (xz (gB (by have:=o.le;omega)) x.t) x (zaj _) (by omega)⟩;have F:=Dv.aE d;have i:=D.len;have f:=D.leaf;have j:=D.ej;have h:=D.flat;have k:=D.oB;have g:=D.kill;have hf:∀S:Sh,ej S (.au 11 0)=none:=fun _=>rfl
  unfold jj at*;simp[Mc.sh,Mc.tk,Mc.cells,aQ,h0]at w v u r q;rw[aA g368];simp[g368,Mc.sh,Mc.tk,Mc.cells,h0,A,h1,w,v,u,r,q,i,f,j,h,k,g,hf,F,iA,eI,aQ,aS]
 ·exact i4 R h0
theorem Rc{ds:List Dt}{H:Prop}{e a b:Ex}(U:e.kind=5)(h1:e.kids=[a,b])(h2:e.aF=[])(M:ku ds H a)(L:ku ds H b):ku ds H e:=by
 intro m n env R;by_cases h0:m.err=0
 ·have hs:=XJ h1 h2;obtain⟨x,f1,f2,f3,P,Y,X,K,z,CA⟩:=M _ _ _ (R.bX (by omega) (by omega) (by omega));have R1:=R.step z (A':=201*b.sz+1) (R':=b.sz) (E':=20*b.sz) (by omega) (by omega) (by omega);obtain⟨v,g1,g2,N,g4,m2,p,J,w,o⟩:=L _ _ _ (R1.bX (by omega) (by omega) (by omega));have R2:=R1.step w (A':=1) (R':=0) (E':=0) (by omega) (by omega) (by omega);have I:=c367 R2.st R2.n';have y:=Step.fresh (H:=H) R2.st;have R3:=R2.step y (A':=0) (R':=0) (E':=0) (by omega) (by omega) (by omega);have O:dM (p+1) (aQ p):=gB (by omega);have G:=c69 (a:=v.ty) (b:=aQ p);have W:=w.le;obtain⟨s',Q,p',F,T,E⟩:=c369 (m:={m2 with s:=bC m2.s m2.home false}) R3.st R3.n' (CA.t.bX (by omega)) (xz (o.t.bX (by omega)) O) e.pos;have D:=eW f1 f2 f3 P x;generalize iA f1 f2 f3 P x=C at*;have D':=eW g1 g2 N g4 v;generalize iA g1 g2 N g4 v=Z at*;refine⟨⟨aQ p,[],[],[x,v]⟩,false,true,true,true,{m2 with s:=s',err:=Q,pos:=p'},p+1,?_,(((z.trans w).trans y).trans (Step.same (m':={m2 with s:=s',err:=Q,pos:=p'}) T E rfl rfl rfl rfl)).bX (by omega) (by omega),UP O (by simp) CA (by omega) o (by omega) (by omega)⟩;have V:=Dv.aE x;have B:=Dv.aE v;have q:=D.len;have h:=D.leaf;have r:=D.ej;have l:=D.flat;have u:=D.oB;have i:=D.kill;have g:=D'.len;have c:=D'.leaf;have j:=D'.ej;have f:=D'.flat;have k:=D'.oB;have d:=D'.kill;have hf:∀S:Sh,ej S (.au 12 0)=none:=fun _=>rfl
  have A:∀S:Sh,ej S (.au 13 0)=none:=fun _=>rfl;clear D D' z w y R R1 R2 R3 CA o T E M L;unfold jj at*;simp[Mc.sh,Mc.tk,Mc.cells,aQ,h0]at K J I G F;rw[aA g368];simp[g368,Mc.sh,Mc.tk,Mc.cells,h0,U,h1,K,J,I,G,F,q,h,r,l,u,i,hf,V,g,c,j,f,k,d,A,B,iA,eI,aQ,aS]
 ·exact i4 R h0
theorem Re{ds:List Dt}{H:Prop}{e a:Ex}(y:e.kind=9)(h1:e.kids=[a])(h2:e.aF=[])(r:∀n,dM n e.ty)(u:ku ds H a):ku ds H e:=by
 intro m n env R;by_cases h0:m.err=0
 ·have hs:=Vx h1 h2;obtain⟨d,f1,f2,f3,v,m2,k,q,j,l⟩:=u _ _ _ (R.bX (by omega) (by omega) (by omega));have R1:=R.step j (A':=0) (R':=0) (E':=0) (by omega) (by omega) (by omega);obtain⟨s',w,p',p,x,o⟩:=c369 (m:=m2) R1.st R1.n' l.t (r k) e.pos;have D:=eW f1 f2 f3 v d;generalize iA f1 f2 f3 v d=C at*;refine⟨⟨e.ty,[],[],[d]⟩,false,true,true,true,{m2 with s:=s',err:=w,pos:=p'},k,?_,(j.trans (Step.same (m':={m2 with s:=s',err:=w,pos:=p'}) x o rfl rfl rfl rfl)).bX (by omega) (by omega),UO (r k) l (zaj _) (by omega)⟩;have z:=Dv.aE d;have g:=D.len;have b:=D.leaf;have h:=D.ej;have f:=D.flat;have i:=D.oB;have c:=D.kill;have hf:∀S:Sh,ej S (.au 21 0)=none:=fun _=>rfl
  clear D j R R1 l x o u;unfold jj at*;simp[Mc.sh,Mc.tk,Mc.cells,h0]at q p;rw[aA g368];simp[g368,Mc.sh,Mc.tk,Mc.cells,h0,y,h1,q,p,g,b,h,f,i,c,hf,z,iA,eI,aS]
 ·exact i4 R h0
theorem OI{ds:List Dt}{H:Prop}{e a:Ex}(s:e.kind=11)(z:¬H)(h1:e.kids=[a])(h2:e.aF=[])(u:ku ds H a):ku ds H e:=by
 intro m n env R;by_cases h0:m.err=0
 ·have hs:=Vx h1 h2;have x:=R.el;obtain⟨d,f1,f2,f3,v,m2,o,r,k,l⟩:=u _ _ _ (R.bX (by omega) (by omega) (by omega));have R1:=R.step k (A':=0) (R':=1) (E':=0) (by omega) (by omega) (by omega);have p:=c384 (m:=m2) (env:=env) (by unfold Sm;omega) e d.ty (by have:=R1.rc;omega) (by have:=R1.hd;omega);have w:=d6 env;have b:mJ o ⟨m2.home,e.pos,a8 env,d.ty⟩:=⟨fun y hy=>R1.zA y (cS env y hy),by simp only;omega,l.t⟩;have D:=eW f1 f2 f3 v d;generalize iA f1 f2 f3 v d=C at*;refine⟨⟨d.ty,[],[],[d]⟩,false,true,true,true,{m2 with rc:=m2.rc++[⟨m2.home,e.pos,a8 env,d.ty⟩],hd:=m2.hd++[e.kind == 11]},o,?_,(k.trans (Step.record k.st b (fun q=>absurd q z))).bX (by omega) (by omega),UO l.t l (zaj _) (by omega)⟩;have A:=Dv.aE d;have h:=D.len;have c:=D.leaf;have i:=D.ej;have g:=D.flat;have j:=D.oB;have f:=D.kill;have hf:∀S:Sh,ej S (.au 22 0)=none:=fun _=>rfl
  clear D k R R1 l u b;unfold jj at*;simp[Mc.sh,Mc.tk,Mc.cells,h0,s,h1]at r p;rw[aA g368];simp[g368,Mc.sh,Mc.tk,Mc.cells,h0,s,h1,r,p,h,c,i,g,j,f,hf,A,iA,eI,aS]
 ·exact i4 R h0
theorem Step.ZI{H:Prop}{m m':Mc}{n n' a r:Nat}(h:Step H m n a r m' n'):m.rc.length<=m'.rc.length:=by
 obtain⟨rs,hs,e1,_⟩:=h.lI;rw[e1];simp
theorem Rf{ds:List Dt}{H:Prop}{e a b:Ex}(Y:e.kind=6)(h1:e.kids=[a,b])(h2:e.aF=[])(Q:ku ds H a)(P:ku ds H b):ku ds H e:=by
 intro m n env R;by_cases h0:m.err=0
 ·have hs:=XJ h1 h2;have Z:=R.el;have X:=R.rc;obtain⟨z,f1,f2,f3,U,L,K,O,y,CA⟩:=Q _ _ _ (R.bX (by omega) (by omega) (by omega));have R1:=R.step y (A':=201*b.sz) (R':=b.sz) (E':=20*b.sz+1) (by omega) (by omega) (by omega);have G:=y.ZI;obtain⟨c,gen,fl,e',p',E,sc,u,_⟩:=c370 R1.st R1.n' CA.t (env:=env) (by omega) R1.zA R1.lI (by have:=R1.rc;omega) (F:=m.rc.length) G e.pos;have B:Step H L K 0 0 {L with err:=e',pos:=p'} K:=Step.same R1.st (.refl _) rfl rfl rfl rfl;have V:=(R1.step B (A':=201*b.sz) (R':=b.sz) (E':=20*b.sz+1) (by omega) (by omega) (by omega)).push (s:=e.name) sc (zaj _);have N:=c179 (l:=env) (by unfold Sm;omega) (n:=e.name) (c:=c);obtain⟨x,g1,g2,T,g4,m2,W,M,A,q⟩:=P _ _ _ V;have D:=eW f1 f2 f3 U z;generalize iA f1 f2 f3 U z=C at*;have D':=eW g1 g2 T g4 x;generalize iA g1 g2 T g4 x=C' at*;refine⟨⟨x.ty,[],gen,[z,x]⟩,false,true,false,true,m2,W,?_,((y.trans B).trans A).bX (by omega) (by omega),UP q.t u CA (by have:=A.le;omega) q (zaj _) (by omega)⟩;have dc:=Dv.aE z;have J:=Dv.aE x;have r:=D.len;have i:=D.leaf;have v:=D.ej;have p:=D.flat;have w:=D.oB;have j:=D.kill;have h:=D'.len;have d:=D'.leaf;have k:=D'.ej;have g:=D'.flat;have o:=D'.oB;have f:=D'.kill;have hf:∀S:Sh,ej S (.au 17 0)=none:=fun _=>rfl
  have I:∀S:Sh,ej S (.au 20 0)=none:=fun _=>rfl;clear D D' y B A R R1 V CA q sc u Q P;unfold jj at*;simp[Mc.sh,Mc.tk,Mc.cells,h0]at O N M;simp[Mc.sh,Mc.tk,Mc.cells,KZ,Mc.cx,Vw]at E;rw[aA g368];cases fl<;>simp[eI]at E<;>simp[g368,Mc.sh,Mc.tk,Mc.cells,h0,Y,h1,O,E,N,M,r,i,v,p,w,j,hf,dc,h,d,k,g,o,f,I,J,iA,eI,aS]
 ·exact i4 R h0
theorem Rg{ds:List Dt}{H:Prop}{e a b:Ex}(hk:e.kind=7)(h1:e.kids=[a,b])(h2:e.aF=[])(ha:ku ds H a)(hb:ku ds H b):ku ds H e:=by
 intro m n env R;by_cases h0:m.err=0
 ·have hs:=XJ h1 h2;have a2:=R.el;have a1:=R.rc;have Z:=c367 R.st R.n';have L:=Step.fresh (H:=H) R.st;have R0:=R.step L (A':=201*a.sz+201*b.sz) (R':=a.sz+b.sz) (E':=20*a.sz+20*b.sz+1) (by omega) (by omega) (by omega);have U:=c176 (t:=aQ n);have T:=c179 (l:=env) (by unfold Sm;omega) (n:=e.name) (c:=⟨0,aQ n⟩);obtain⟨E,f1,f2,f3,f4,v,B,Y,u,CA⟩:=ha _ _ _ ((R0.push (s:=e.name) (c:=⟨0,aQ n⟩) (gB (by omega)).mono (zaj _)).bX (by omega) (by omega) (by omega));have R1:=R0.step u (A':=201*b.sz) (R':=b.sz) (E':=20*b.sz+1) (by omega) (by omega) (by omega);have q1:=u.le;obtain⟨G,ex,px,V,Ix,Q⟩:=c369 (m:=v) R1.st R1.n' (gB (k:=n) (by omega)) CA.t e.pos;have I:Step H v B 0 0 {v with s:=G,err:=ex,pos:=px} B:=Step.same Ix Q rfl rfl rfl rfl;have RE:=R1.step I (A':=201*b.sz) (R':=b.sz) (E':=20*b.sz+1) (by omega) (by omega) (by omega);have N:=u.ZI;obtain⟨c,gen,fl,e',p',M,sc,x,_⟩:=c370 RE.st RE.n' CA.t (env:=env) (by omega) RE.zA RE.lI (by have:=RE.rc;omega) (F:=m.rc.length) N e.pos;have K:Step H {v with s:=G,err:=ex,pos:=px} B 0 0 {v with s:=G,err:=e',pos:=p'} B:=Step.same RE.st (.refl _) rfl rfl rfl rfl;have R2:=(RE.step K (A':=201*b.sz) (R':=b.sz) (E':=20*b.sz+1) (by omega) (by omega) (by omega)).push (s:=e.name) sc (zaj _);have X:=c179 (l:=env) (by unfold Sm;omega) (n:=e.name) (c:=c);obtain⟨A,g1,g2,g3,g4,m2,n2,W,J,r⟩:=hb _ _ _ R2;have D:=eW f1 f2 f3 f4 E;generalize iA f1 f2 f3 f4 E=C at*;have D':=eW g1 g2 g3 g4 A;generalize iA g1 g2 g3 g4 A=C' at*;refine⟨⟨A.ty,[],gen,[E,A]⟩,false,true,false,true,m2,n2,?_,((((L.trans u).trans I).trans K).trans J).bX (by omega) (by omega),UP r.t x CA (by have:=J.le;omega) r (zaj _) (by omega)⟩;have dc:=Dv.aE E;have P:=Dv.aE A;have w:=D.len;have i:=D.leaf;have y:=D.ej;have q:=D.flat;have z:=D.oB;have j:=D.kill;have h:=D'.len;have d:=D'.leaf;have o:=D'.ej;have g:=D'.flat;have p:=D'.oB;have f:=D'.kill;have hf:∀S:Sh,ej S (.au 17 0)=none:=fun _=>rfl
  have O:∀S:Sh,ej S (.au 20 0)=none:=fun _=>rfl;clear D D' L u K J I R R0 R1 R2 RE CA r sc x ha hb Ix Q;unfold jj at*;simp[Mc.sh,Mc.tk,Mc.cells,h0,aQ]at Z Y X W V U T;simp[Mc.sh,Mc.tk,Mc.cells,KZ,Mc.cx,Vw]at M;rw[aA g368];cases fl<;>simp[eI]at M<;>simp[g368,Mc.sh,Mc.tk,Mc.cells,h0,hk,h1,Z,Y,M,X,W,V,U,T,w,i,y,q,z,j,hf,dc,h,d,o,g,p,f,O,P,iA,eI,aS]
 ·exact i4 R h0
def zD(k:Nat):List AV:=[.pv (vI 0),.pv (.str []),.pv (vI 0),.pv (vI 0),.own [] k,.own [] (k+1),.own [] (k+2),.own [] (k+3)]
theorem SJ{m:Mc}{n:Nat}(I:p8 n m.s){i0:Nat}{d:Dt}(hd:m.ds[i0]?=some d)(hn:n+d.params.length<=1000000)(hp:d.params.length<=8){e:Ex}{env:PV}{x:Dv}:∀(k i:Nat),d.params.length-i=k->i<=d.params.length->
   cl AP g383L0 ⟨[(0,.aI 0 0),(1,.pv env),(5,.au 5 0),(6,.au 6 0),(7,.au 7 0),(8,.pv (vI i0)),(10,.au 10 0),(11,.pv (vI i))],[(5,e.cl),(6,zD 0),(7,x.cells.map .pv),(10,[.pv (vI 0),.pv (.str []),.pv (vI 0),.pv (vI 0),.own [] 4,.own ((fh n i).map Ty.pv) 5,.own [] 6,.own [x.pv] 7])],[some ((nT m i).cx 8)],[0,0,0,0,0,i,0,1,m.rc.length,m.hd.length]⟩=
     some (.exit 0,⟨[(0,.aI 0 0),(1,.pv env),(5,.au 5 0),(6,.au 6 0),(7,.au 7 0),(8,.pv (vI i0)),(10,.au 10 0),(11,.pv (vI d.params.length)),(49,.pv (.bool false))],[(5,e.cl),(6,zD 0),(7,x.cells.map .pv),(10,[.pv (vI 0),.pv (.str []),.pv (vI 0),.pv (vI 0),.own [] 4,.own ((fh n d.params.length).map Ty.pv) 5,.own [] 6,.own [x.pv] 7])],[some ((nT m d.params.length).cx 8)],[0,0,0,0,0,d.params.length,0,1,m.rc.length,m.hd.length]⟩)
 |0,i,f,hi=>by
  have:i=d.params.length:=by omega
  subst this;have a:=(zaa.1 hd).1;have xc:=Dv.aE x;have c:=Ex.aE e;rw[g383L0e];simp[-getElem?_pos,g383B0,zD,Mc.cx,nT,hd,a,xc,Ex.cl,c]
 |k+1,i,f,hi=>by
  have hi:i<d.params.length:=(by omega);have a:=(zaa.1 hd).1;have xc:=Dv.aE x;have c:=Ex.aE e;have e1:=c367 (m:=nT m i) (n:=n+i) (zz I m.home i) (by omega);have b:=SJ I hd hn hp (e:=e) (env:=env) (x:=x) k (i+1) (by omega) (by omega);have g:(i+1)*64<=140737488355328:=(by omega);have hl:=nj n i;rw[xy]at b;unfold jj at e1;simp[Mc.sh,Mc.tk,Mc.cells,nT,aQ]at e1;rw[g383L0e]at b⊢;simp[zD,Mc.cx,nT,Pe,aQ,xc,Ex.cl,c]at b;generalize fh n i=acc at*;generalize bC (Pe m.home m.s i) m.home false=h at*;subst hl;simp(disch:=omega)[-getElem?_pos,g383B0,zD,hi,Mc.cx,nT,hd,a,xc,Ex.cl,c,e1,ah,g];rw[g383L0e];simp[b]
def dD(T:Ty)(I:List Ty)(ks:List Dv):List AV:=[.pv (vI T.kind),.pv (.str T.name),.pv (vI T.id),.pv (vI T.home),.pv (.aq (T.args.map Ty.pv)),.own (I.map Ty.pv) 4,.own [] 5,.own (ks.map Dv.pv) 6]
def qZ(a:Ar):List AV:=[.pv (vI a.pos),.pv (.str a.dK),.pv (.aq (a.vars.map .str)),.pv (vI a.body.kind),.pv (vI a.body.pos),.pv (.str a.body.name),.pv (vI a.body.num),.pv (.aq (a.body.kids.map Ex.pv)),.pv (.aq (a.body.aF.map Ar.pv)),.pv (vI a.body.ty.kind),.pv (.str a.body.ty.name),.pv (vI a.body.ty.id),.pv (vI a.body.ty.home),.pv (.aq (a.body.ty.args.map Ty.pv))]
theorem SK{m:Mc}{n:Nat}{e:Ex}{env:PV}{T:Ty}{I:List Ty}{ks:List Dv}{i:Nat}{a:Ar}(w:a.vars.length<=1000){f:List Ty}(p:f.length<=8)(hf:∀t∈f,dM n t){B:Nat}(z:B<=2000000):∀(k j:Nat),f.length-j=k->j<=f.length->∀l:List En,(∀x∈l,kA n x.sc)->l.length+k<=B->∃(l':List En)(d:Nat),(∀x∈l',kA n x.sc)∧l'.length<=B ∧
   cl AP g383L2 ⟨[(0,.aI 0 0),(1,.pv env),(5,.au 5 0),(6,.au 6 0),(10,.au 10 0),(12,.pv (vI i)),(13,.au 13 0),(14,.pv (.aq (f.map Ty.pv))),(16,.pv (.aq (l.map En.pv))),(17,.pv (vI j))],[(5,e.cl),(6,zD 0),(10,dD T I ks),(13,qZ a)],[some (m.cx 7)],[0,0,0,0,I.length,0,ks.length,m.rc.length,m.hd.length]⟩=
     some (.exit 4,⟨[(0,.aI 0 0),(1,.pv env),(5,.au 5 0),(6,.au 6 0),(10,.au 10 0),(12,.pv (vI i)),(13,.au 13 0),(14,.pv (.aq (f.map Ty.pv))),(16,.pv (.aq (l'.map En.pv))),(17,.pv (vI d)),(114,.pv (.bool false))],[(5,e.cl),(6,zD 0),(10,dD T I ks),(13,qZ a)],[some (m.cx 7)],[0,0,0,0,I.length,0,ks.length,m.rc.length,m.hd.length]⟩)
 |0,j,y,hj,l,hl,r=>by
  have:j=f.length:=by omega
  subst this;have b:=Ex.aE e;refine⟨l,f.length,hl,by omega,?_⟩;rw[g383L2e];simp[g383B2,zD,dD,qZ,Mc.cx,Ex.cl,b]
 |k+1,j,y,hj,l,hl,r=>by
  have hj:j<f.length:=(by omega);obtain⟨t,o⟩:=aP hj;have b:=Ex.aE e;by_cases q:j<a.vars.length
  ·obtain⟨v,h⟩:=aP q;have u:=c176 (t:=t);have s:=c179 (l:=l) (by unfold Sm;omega) (n:=v) (c:=⟨0,t⟩)
   obtain⟨l',d,h1,h2,g⟩:=SK (m:=m) (e:=e) (env:=env) (T:=T) (I:=I) (ks:=ks) (i:=i) w p hf z k (j+1) (by omega) (by omega) (l++[⟨v,⟨0,t⟩⟩]) (by
    intro x hx;simp only[zai,zaJ]at hx;rcases hx with hx|rfl
    ·exact hl x hx
    ·exact(hf t (aN o)).mono) (by simp;omega)
   refine⟨l',d,h1,h2,?_⟩;rw[g383L2e]at g⊢;simp[zD,dD,qZ,Mc.cx,Ex.cl,b]at g;simp at u s;simp(disch:=omega)[-getElem?_pos,g383B2,zD,dD,qZ,Mc.cx,Ex.cl,b,hj,o,q,h,u,s,ah];rw[g383L2e];simp[g]
  ·refine⟨l,j,hl,by omega,?_⟩;rw[g383L2e];simp(disch:=omega)[-getElem?_pos,g383B2,zD,dD,qZ,Mc.cx,Ex.cl,b,hj,o,q]
def bP(l:List Ar):Nat:=(l.map fun a=>a.body.sz).sum
theorem SL{ds:List Dt}(Z:ni ds){H:Prop}{e:Ex}{env:List En}{T:Ty}{I:List Ty}{n0:Nat}(hv:∀a∈e.aF,a.vars.length<=1000)(ha:e.aF.length<=1000)(X:∀a∈e.aF,ku ds H a.body)(fT:dM n0 T)(Y:I.length<=8)(fI:∀t∈I,dM n0 t):∀(k i:Nat),e.aF.length-i=k->i<=e.aF.length->∀(m:Mc)(n:Nat)(ks:List Dv),n0<=n->ks.length<=i+1->(∀x∈ks,x.Fi n)->Room ds m n (201*bP (e.aF.drop i)) (bP (e.aF.drop i)) (20*bP (e.aF.drop i)+8) env->∃(m':Mc)(n':Nat)(b:List Dv),Step H m n (201*bP (e.aF.drop i)) (bP (e.aF.drop i)) m' n'∧(∀x∈b,x.Fi n')∧(b.map Dv.jM).sum<=(ks.map Dv.jM).sum+bP (e.aF.drop i)∧
   cl AP g383L1 ⟨[(0,.aI 0 0),(1,.pv (.aq (env.map En.pv))),(5,.au 5 0),(6,.au 6 0),(10,.au 10 0),(12,.pv (vI i))],[(5,e.cl),(6,zD 0),(10,dD T I ks)],[some (m.cx 7)],[0,0,0,0,I.length,0,ks.length,m.rc.length,m.hd.length]⟩=
     some (.exit 2,⟨[(0,.aI 0 0),(1,.pv (.aq (env.map En.pv))),(5,.au 5 0),(6,.au 6 0),(10,.au 10 0),(12,.pv (vI e.aF.length)),(83,.pv (.bool false))],[(5,e.cl),(6,zD 0),(10,dD T I b)],[some (m'.cx 7)],[0,0,0,0,I.length,0,b.length,m'.rc.length,m'.hd.length]⟩)
 |0,i,hk,hi,m,n,ks,hn,N,c,R=>by
  have:i=e.aF.length:=by omega
  subst this;have u:=Ex.aE e;refine⟨m,n,ks,(Step.same R.st (.refl _) rfl rfl rfl rfl).bX (by omega) (by omega),c,by omega,?_⟩;rw[g383L1e];simp[g383B1,zD,dD,Mc.cx,Ex.cl,u]
 |k+1,i,hk,hi,m,n,ks,hn,N,c,R=>by
  have hi:i<e.aF.length:=(by omega);obtain⟨a,hx⟩:=aP hi;have hm:=aN hx;have L:bP (e.aF.drop i)=a.body.sz+bP (e.aF.drop (i+1)):=(by rw[aV hx];simp[bP]);rw[L]at R⊢;have a1:=R.el;have V:=R.ds;have K:=hv a hm;have G:=c207 Z.small (as:=I) (by unfold Sm;omega) (s:=a.dK);obtain⟨U,hf⟩:=Gf (n:=n) Z (s:=a.dK) (as:=I) (fun t ht=>(fI t ht).bX hn);generalize P:fieldsOf ds a.dK I=F at*;generalize Q:F.getD []=f at*;obtain⟨l',j',q1,q2,E⟩:=SK (m:=m) (n:=n) (e:=e) (env:=.aq (env.map En.pv)) (T:=T) (I:=I) (ks:=ks) (i:=i) (a:=a) K U hf (B:=env.length+8) (by omega) _ 0 rfl (by omega) env R.zA (by omega);have R1:Room ds m n (201*a.body.sz) a.body.sz (20*a.body.sz) l':=⟨R.st,by have:=R.nb;omega,by have:=R.rc;omega,by have:=R.hd;omega,R.lI,q1,by omega,R.ds⟩;obtain⟨d,f1,f2,f3,f4,A,z,k3,v,w⟩:=X a hm m n l' R1;have R2:=R.step v (A':=201*bP (e.aF.drop (i+1))) (R':=bP (e.aF.drop (i+1))) (E':=20*bP (e.aF.drop (i+1))+8) (by omega) (by omega) (by omega);have M:=v.le;obtain⟨sx,ex,px,k4,Ix,xx⟩:=c369 (m:=A) R2.st R2.n' (fT.bX (by omega)) w.t a.pos;have y:Step H A z 0 0 {A with s:=sx,err:=ex,pos:=px} z:=Step.same Ix xx rfl rfl rfl rfl;have R3:=R2.step y (A':=201*bP (e.aF.drop (i+1))) (R':=bP (e.aF.drop (i+1))) (E':=20*bP (e.aF.drop (i+1))+8) (by omega) (by omega) (by omega)
  obtain⟨m',n',b,s3,h,g,J⟩:=SL Z (e:=e) hv ha X fT Y fI k (i+1) (by omega) (by omega) _ z (ks++[d]) (by omega) (by simp;omega) (by
   intro x hx;simp only[zai,zaJ]at hx;rcases hx with hx|rfl
   ·exact(c x hx).bX M
   ·exact w.f) R3
  have W:=w.n;have D:=eW f1 f2 f3 f4 d;generalize iA f1 f2 f3 f4 d=C at*;refine⟨m',n',b,((v.trans y).trans s3).bX (by omega) (by omega),h,by simp at g;omega,?_⟩;clear c h g W;have dc:=Dv.aE d;have p:=D.len;have j:=D.leaf;have q:=D.ej;have o:=D.flat;have r:=D.oB;have l:=D.kill;have O:∀S:Sh,ej S (.au 18 0)=none:=fun _=>rfl
  have u:=Ex.aE e;have bb:(ks.length+1)*136<=140737488355328:=(by omega);clear D v y s3 R R1 R2 R3 w X fT fI hf q1 Ix xx P;unfold jj at*;rw[g383L2e]at E;rw[g383L1e]at J⊢;rw[<-V]at G;simp[Cm,Q]at G;simp[Mc.sh,Mc.tk,Mc.cells]at k3 k4;simp[zD,dD,qZ,Mc.cx,Ex.cl,u]at E;simp[zD,dD,Mc.cx,Ex.cl,u]at J;simp(disch:=omega)[-getElem?_pos,g383B1,zD,dD,Mc.cx,Ex.cl,u,hi,hx,G,g383L2e,E,k3,k4,p,j,q,o,r,l,O,dc,bb,ah,aS];rw[g383L1e];simp[J]
theorem HB{e x:Ex}(h:e.kids=[x]):e.sz=1+x.sz+bP e.aF:=by
 rw[Ex.sr,Ex.ch,h,zbF,zcb,zb0]
 change 1+((List.map Ex.sz [x]).sum+bP e.aF)=_
 simp;omega
theorem OJ{ds:List Dt}(M:ni ds){H:Prop}{e x:Ex}(E:e.kind=8)(b:e.kids=[x]){i0:Nat}{d:Dt}(J:eL ds e.aF=some i0)(hd:ds[i0]?=some d)(hv:∀a∈e.aF,a.vars.length<=1000)(ha:e.aF.length<=1000)(hx:ku ds H x)(hb:∀a∈e.aF,ku ds H a.body):ku ds H e:=by
 intro m n env R;by_cases h0:m.err=0
 ·have hs:=HB b;have hp:=(bV d (M.all d (aN hd))).1;have W:=(qX d (M.all d (aN hd))).1;have v:=(zaa.1 hd).1;obtain⟨K,f1,f2,f3,f4,j,c,k1,Q,CA⟩:=hx _ _ _ (R.bX (by omega) (by omega) (by omega));have R1:=R.step Q (A':=201*bP e.aF+200) (R':=bP e.aF) (E':=20*bP e.aF+8) (by omega) (by omega) (by omega);have g:=R1.ds;have U:=c390 M.small.num (as:=e.aF) (by unfold Sm;omega);rw[J,<-g]at U;have A:=SJ (m:=j) (n:=c) R1.st (i0:=i0) (d:=d) (by rw[g];exact hd) (by have:=R1.nb;omega) hp (e:=e) (env:=.aq (env.map En.pv)) (x:=K) _ 0 rfl (by omega);have N:Step H j c d.params.length 0 (nT j d.params.length) (c+d.params.length):=Step.open R1.st _;have RA:=R1.step N (A':=201*bP e.aF+100) (R':=bP e.aF) (E':=20*bP e.aF+8) (by omega) (by omega) (by omega);have X:=nj c d.params.length;have h:∀t∈fh c d.params.length,dM (c+d.params.length) t:=qf;have k3:=c62 (s:=d.name) (l:=fh c d.params.length) (by unfold Sm;simp;omega);obtain⟨sx,ex,px,k4,Ix,xx⟩:=c369 (m:=nT j d.params.length) RA.st RA.n' (CA.t.bX (by omega)) (Q_ W (by unfold Sm;simp;omega) h) e.pos;have P:Step H (nT j d.params.length) (c+d.params.length) 0 0 {nT j d.params.length with s:=sx,err:=ex,pos:=px} (c+d.params.length):=Step.same Ix xx rfl rfl rfl rfl;have R2:=RA.step P (A':=201*bP e.aF+100) (R':=bP e.aF) (E':=20*bP e.aF+8) (by omega) (by omega) (by omega);have k5:=c367 R2.st R2.n';have O:=Step.fresh (H:=H) R2.st;have R3:=R2.step O (A':=201*bP e.aF) (R':=bP e.aF) (E':=20*bP e.aF+8) (by omega) (by omega) (by omega);have fT:dM (c+d.params.length+1) (aQ (c+d.params.length:Nat)):=gB (by omega);obtain⟨m',n',r,L,z,o,B⟩:=SL M (H:=H) (e:=e) (env:=env) (T:=aQ (c+d.params.length:Nat)) (I:=fh c d.params.length) (n0:=c+d.params.length+1) hv ha hb fT (by simp;omega) (fun t V=>(h t V).bX (by omega)) _ 0 rfl (by omega) _ _ [K] (zaj _) (by simp) (by intro y hy;simp at hy;subst hy;exact CA.f.bX (by omega)) (by rw[zar];exact R3);rw[zar]at L o;have a1:=CA.n;have a3:=L.le;have D:=eW f1 f2 f3 f4 K;generalize iA f1 f2 f3 f4 K=C at*;refine⟨⟨aQ (c+d.params.length:Nat),fh c d.params.length,[],r⟩,false,false,false,false,m',n',?_,((((Q.trans N).trans P).trans O).trans L).bX (by omega) (by omega),UN (gB (by omega)) (fun t V=>(h t V).bX (by omega)) (by simp;omega) (by simp) z (by simp at o;omega)⟩;clear z o a1;have dc:=Dv.aE K;have w:=D.len;have k:=D.leaf;have F:=D.ej;have q:=D.flat;have G:=D.oB;have p:=D.kill;have Z:∀S:Sh,ej S (.au 7 0)=none:=fun _=>rfl
  have ec:=Ex.aE e;have xc:=Ex.aE x;have Y:fh c 0=[]:=(by simp[fh]);have a2:j.ds[i0]?=some d:=(by rw[g];exact hd);have u:i0<j.ds.length:=(by rw[g];exact v);rw[Y]at A;clear D Q N P O L R R1 RA R2 R3 CA hx hb fT h Ix xx g J hd v hv;unfold jj at*;rw[g383L0e]at A;rw[g383L1e]at B;simp[zD,Mc.cx,nT,Pe,Ex.cl,ec,dc,E,b]at A;simp[zD,dD,Mc.cx,nT,Ex.cl,ec,aQ,E,b]at B;simp[gS]at U;generalize fh c d.params.length=I at*;simp[Mc.sh,Mc.tk,Mc.cells,nT,aQ,h0]at k1 k3 k4 k5
  have key:(aC AP).i 383 [.aI 0 0,.pv (.aq (env.map En.pv)),.pv e.pv] m.sh m.tk=some ([.agg (iA false false false false ⟨aQ (c+d.params.length:Nat),I,[],r⟩)],m'.sh,m'.tk):=by
   rw[aA g383];simp(disch:=omega)[-getElem?_pos,g383,Mc.sh,Mc.tk,Mc.cells,h0,E,b,k1,U,k3,k4,k5,a2,u,g383L0e,A,g383L1e,B,w,k,F,q,G,p,Z,dc,iA,eI,aQ,aS,X]
  clear A B;simp[Mc.sh,Mc.tk,Mc.cells,h0,E,b,iA,eI,aQ]at key;rw[aA g368];simp[g368,Mc.sh,Mc.tk,Mc.cells,h0,E,b,key,iA,eI,aQ]
 ·exact i4 R h0
theorem HC{ds:List Dt}(p:ni ds){H:Prop}{e:Ex}(tx:vE e):e.Ok->Oz ds e->(H->N8 11 e)->ku ds H e:=by
 induction tx with
 | @leaf e f h1 h2=>
  intro _ _ _;rcases f with⟨f,_⟩|⟨f,_⟩|⟨f,_⟩
  ·exact OG p f
  ·exact Ra f
  ·exact OH f
 | @lam e a f _ h1 h2 _ o=>
  intro ok sc g;have hm:a∈e.ch:=by rw[Ex.ch,h1];simp
  exact Rb f h1 h2 (o (ok.c a hm) (sc.c a hm) fun q=>(g q).c a hm)
 | @app e a b f h1 h2 _ _ l k=>
  intro ok sc g;have hm:a∈e.ch:=by rw[Ex.ch,h1];simp
  have j:b∈e.ch:=(by rw[Ex.ch,h1];simp);exact Rc f h1 h2 (l (ok.c a hm) (sc.c a hm) fun q=>(g q).c a hm) (k (ok.c b j) (sc.c b j) fun q=>(g q).c b j)
 | @Q0 e a b f _ h1 h2 _ _ l k=>
  intro ok sc g;have hm:a∈e.ch:=by rw[Ex.ch,h1];simp
  have j:b∈e.ch:=(by rw[Ex.ch,h1];simp);have A:=l (ok.c a hm) (sc.c a hm) fun q=>(g q).c a hm
  have B:=k (ok.c b j) (sc.c b j) fun q=>(g q).c b j;rcases f with f|f
  ·exact Rf f h1 h2 A B
  ·exact Rg f h1 h2 A B
 | @Hq e a f h1 _ _ _ _ l k=>
  intro ok sc g;have hm:a∈e.ch:=by rw[Ex.ch,h1];simp
  have m:∀x∈e.aF,x.body∈e.ch:=fun x hx=>by rw[Ex.ch,zai,zat];exact .inr ⟨x,hx,rfl⟩
  obtain⟨i,d,s,r⟩:=sc.a f;exact OJ p f h1 s r ok.v ok.a (l (ok.c a hm) (sc.c a hm) fun q=>(g q).c a hm) fun x hx=>k x hx (ok.c _ (m x hx)) (sc.c _ (m x hx)) fun q=>(g q).c _ (m x hx)
 | @Yx e a f h1 h2 u _ _ o=>
  intro ok sc g;have hm:a∈e.ch:=by rw[Ex.ch,h1];simp
  exact Re f h1 h2 (fun n=>Gg ok.t u (sc.t f)) (o (ok.c a hm) (sc.c a hm) fun q=>(g q).c a hm)
 | @held e a f h1 h2 _ o=>
  intro ok sc g;have hm:a∈e.ch:=by rw[Ex.ch,h1];simp
  exact OI f (fun q=>(g q).h f) h1 h2 (o (ok.c a hm) (sc.c a hm) fun q=>(g q).c a hm)
def UQ(n:Nat)(a:Ar):Prop:=(a.pos=0∧tD true a.dK∧a.vars.length<=4∧∀v∈a.vars,tD false v)∧vU n a.body
theorem OK{n:Nat}{x:Ex}{as:List Ar}(hx:vU (4*n) x)(d:as.length<=3)(h0:as≠[])(h:∀a∈as,UQ (4*n) a):vU (4*(n+1)) ⟨8,0,[],0,[x],as,ca⟩:=by
 have b:∀y∈(⟨8,0,[],0,[x],as,ca⟩:Ex).ch,vU (4*n) y:=by
  intro y hy;simp[Ex.ch]at hy;rcases hy with rfl|⟨a,d,rfl⟩
  ·exact hx
  ·exact(h a d).2
 refine⟨⟨.mk (by simp) (by simp only;omega) (fun a hm=>by have:=(h a hm).1.2.2.1;omega) ph fun y hy=>(b y hy).sc.ok,.mk (fun _=>rfl) fun y hy=>(b y hy).sc.one,.mk pj fun y hy=>(b y hy).sc.cw⟩,zn (n:=4*n+1) (.mk fun y hy=>(b y hy).h) (by omega),?_,.Hq rfl rfl hx.tx (by simp only;omega) (fun a hm=>⟨(h a hm).1.2.1.1,by have:=(h a hm).1.2.2.1;omega,fun v c=>((h a hm).1.2.2.2 v c).1⟩) (fun a hm=>(h a hm).2.tx),?_⟩
 case refine_2=>
  have h1:(⟨8,0,[],0,[x],as,ca⟩:Ex).ch.all Ex.wv=true:=zaq.2 fun y hy=>(b y hy).vl
  have h2:as.all SB=true:=zaq.2 fun a hm=>by
   obtain⟨⟨k,j,l,i⟩,_⟩:=h a hm;have g:Q1 a.dK=true:=j.2;have f:a.vars.all Ge=true:=zaq.2 fun v c=>(i v c).2
   have e:¬4<a.vars.length:=(by omega);unfold SB;simp only[k,g,f];simp[e]
  have h3:0<as.length:=zaP.2 h0;rw[zq,h1];simp only[h2];simp[zo,cM,Ex.zQ,h3]
 rw[Oh,Ex.sr];exact Cv (by rw[Ex.gZ];simp only[zbt];omega) fun y hy=>by have:=(b y hy).w;rwa [Oh]at this
theorem US:∀d∈bp,0<d.cons.length:=by decide +kernel
theorem SM{L:List Int}{tm:Nat}{TP:Int->Sh}(hT:Tape L tm TP){ds:List Dt}{dep:Nat}{l:List En}{g:Ty}(u:dep<10)(v:ni ds)(R:la L tm TP ds dep)(hl:Ctx (1000-20*(dep+1)) l)(O:bH g)(D:g.nodes.length<=6000-20*(dep+1)){d:Dt}(m:d∈ds){as:List Ty}(J:as.length<=8)(t:∀a∈as,bH a){x:Ex}:∀(n k:Nat),d.cons.length-k=n->k<=d.cons.length->∀(ar:List Ar)(i:Nat),ar.length=k->(∀a∈ar,UQ (4*(dep+1)) a)->i<=L.length->
   ∃(r:List Ar)(j:Nat),r.length=d.cons.length∧(∀a∈r,UQ (4*(dep+1)) a)∧j<=L.length ∧
   cl AP g350L1 ⟨[(0,.aI tm 0),(1,.pv (.aq (ds.map Dt.pv))),(2,.pv (.aq (l.map En.pv))),(4,.pv (vI (dep+1))),(8,.au 8 0),(10,.au 10 0),(11,.au 11 0),(12,.own (as.map Ty.pv) 0),(14,.au 14 0),(15,.pv (vI k))],
     [(8,tC g),(10,pY 1),(11,Gc d),(14,Pd x ar)],TP i,[as.length,0,0,0,1,ar.length,0]⟩=
     some (.exit 2,⟨[(0,.aI tm 0),(1,.pv (.aq (ds.map Dt.pv))),(2,.pv (.aq (l.map En.pv))),(4,.pv (vI (dep+1))),(8,.au 8 0),(10,.au 10 0),(11,.au 11 0),(12,.own (as.map Ty.pv) 0),(14,.au 14 0),(15,.pv (vI d.cons.length)),(66,.pv (.bool false))],
     [(8,tC g),(10,pY 1),(11,Gc d),(14,Pd x r)],TP j,[as.length,0,0,0,1,r.length,0]⟩)
 |0,k,hn,w,ar,i,Q,hm,hi=>by
  have p:=hT.norm;have e:=hT.shift;have q:=hT.take;have:k=d.cons.length:=(by omega);subst this;refine⟨ar,i,Q,hm,hi,?_⟩;rw[g350L1e];simp[p,e,q,g350B1,tC,pY,Gc,Pd]
 |n+1,k,hn,w,ar,i,Q,hm,hi=>by
  have p:=hT.norm;have e:=hT.shift;have q:=hT.take;have w:k<d.cons.length:=(by omega);obtain⟨c,P⟩:=aP w;have Z:=(bV d (v.all d m)).2.1;have M:=c207 v.small (as:=as) (by unfold Sm;omega) (s:=c.name);obtain⟨Y,hf⟩:=Cy v (s:=c.name) t;generalize X:fieldsOf ds c.name as=F at*;generalize E:F.getD []=f at*;obtain⟨vs,l',hv,y,z,e1⟩:=SE hT (L:=L) (I:=i) (p1:=.aq (ds.map Dt.pv)) (p2:=.aq (l.map En.pv)) (p4:=vI (dep+1)) (g:=g) (d:=d) (as:=as) (x:=x) (ar:=ar) (C:=k) (c:=c) (by omega) hf (N:=1000-20*(dep+1)) (by omega) _ 0 rfl (by omega) [] l rfl (by simp) (hl.bX (by omega));obtain⟨b,f1,f2,f3,W,e2,hb,A⟩:=R i l' g hi (z.bX (by omega)) O (by omega)
  obtain⟨r,j,V,U,T,K⟩:=SM hT u v R hl O D m J t (x:=x) n (k+1) (by omega) (by omega) (ar++[⟨0,c.name,vs,b⟩]) W (by simp;omega) (by
   intro a h;simp at h;rcases h with h|rfl
   ·exact hm a h
   ·exact⟨⟨rfl,(zm d (v.all d m) c (aN P)).2.2,by simp only;omega,y⟩,hb⟩) A
  refine⟨r,j,V,U,T,?_⟩;have o:=kq f1 f2 f3 b;generalize jr f1 f2 f3 b=B at e2 o;have bc:=Ex.aE b;have S:B.take 11=B:=zaw (by rw[o.len];omega);have H:(ar.length+1)*200<=140737488355328:=by omega
  have G:(dep:Int)+1-1=dep:=(by omega);rw[g350L2e]at e1;rw[g350L1e]at K;simp[p,e,q,tC,pY,Gc,Pd,Vv]at e1 K e2⊢;simp[p,e,q,Cm,E]at M;rw[g350L1e];simp(disch:=omega)[p,e,q,-getElem?_pos,g350B1,P,w,M,ah,G,g350L2e,e1,e2,H,aS,o.ej,o.flat,o.oB,o.len,o.leaf,S,bc];rw[g350L1e];simp[p,e,q,K]
theorem c350{L:List Int}{tm:Nat}{TP:Int->Sh}(hT:Tape L tm TP){ds:List Dt}{dep:Nat}{l:List En}{g:Ty}{i:Nat}(G:Sm L)(t:dep<10)(c:ni ds)(K:la L tm TP ds dep)(hl:Ctx (1000-20*(dep+1)) l)(I:bH g)(E:g.nodes.length<=6000-20*(dep+1))(hi:i<=L.length):
   nS L tm TP (4*(dep+2)) ((aC AP).i 350 [.aI tm 0,.pv (.aq (ds.map Dt.pv)),.pv (.aq (l.map En.pv)),.pv g.pv,.pv (vI (dep+1:Nat))] (TP i) []):=by
 have v:=hT.norm;have h:=hT.shift;have w:=hT.take;have S:=hl.len;by_cases z:ds=[]
 ·subst z;obtain⟨e,f1,f2,f3,j,k,R,hj⟩:=c348 hT G (ds:=[]) (hl.bX (by omega)) I hi;refine⟨e,f1,f2,f3,j,?_,R.up (by omega),hj⟩;rw[aA g350];cases f1<;>cases f2<;>cases f3<;>simp[v,h,w,jr,eI]at k<;>simp[v,h,w,g350,k,jr,eI,aS]
 ·have hp:0<ds.length:=zaP.2 z;have T:=c.len;have o:∀d∈ds,d.params.length<=8:=fun d hd=>(bV d (c.all d hd)).1
  obtain⟨m,Q,e1,m0,M,D⟩:=vD hT G hi (n:=ds.length) (by omega) (by omega);obtain⟨m,rfl,hm⟩:=uT m0 M;obtain⟨d,hd⟩:=aP hm;have b:=aN hd;obtain⟨as,P,a1,u,C,e2⟩:=SD hT G (by omega) o (fun d hd=>zu d (c.all d hd)) (fun d hd=>(qX d (c.all d hd)).1) (p2:=.aq (l.map En.pv)) (p4:=vI (dep+1)) (g:=g) (o d b) _ 0 rfl (by omega) [] Q rfl (by simp) D;have U:=o d b;have J:=(bV d (c.all d b)).2.1;have V:=UH d (c.all d b);have H:=c62 (s:=d.name) (l:=as) (by unfold Sm;omega);have Y:bH ⟨4,d.name,0,0,as⟩:=⟨⟨by unfold Sm;simp only;omega,fun x hx=>(u x hx).1.ok⟩,.mk (by simp) (qX d (c.all d b)).1 fun x hx=>(u x hx).1.kn,Cs (.inr (.inr (.inr (.inr ⟨rfl,rfl,rfl,by simp only[a1];exact zu d (c.all d b)⟩)))) fun x hx=>(u x hx).1.vn⟩
  have X:(⟨4,d.name,0,0,as⟩:Ty).nodes.length<=100:=by
   rw[Ty.aM];simp only[zax,zaZ];have:=gp (f:=fun x:Ty=>x.nodes.length) fun x hx=>(u x hx).2
   omega
  obtain⟨x,f1,f2,f3,O,e3,hx,B⟩:=K P l _ C (hl.bX (by omega)) Y (by omega);obtain⟨r,N,b1,Z,y,e4⟩:=SM hT t c K hl I E b (by omega) (fun a W=>(u a W).1) (x:=x) _ 0 rfl (by omega) [] O rfl (by simp) B;refine⟨⟨8,0,[],0,[x],r,ca⟩,false,false,false,N,?_,(OK hx (by omega) (by intro q;rw[q]at b1;have:=US d (c.all d b);simp at b1;omega) Z).up (by omega),y⟩;have p:=kq f1 f2 f3 x;generalize jr f1 f2 f3 x=A at e3 p;have ac:=Ex.aE x;have F:(dep:Int)+1-1=dep:=by omega
  rw[g350L0e]at e2;rw[g350L1e]at e4;simp[v,h,w,tC,pY,Gc,Pd]at e1 e2 e3 e4 H;rw[aA g350];simp(disch:=omega)[v,h,w,-getElem?_pos,g350,z,F,ah,e1,hd,g350L0e,e2,H,e3,p.ej,p.flat,p.oB,p.len,p.leaf,ac,g350L1e,e4,aS,jr,eI,ca]
theorem c326{L:List Int}{tm:Nat}{TP:Int->Sh}(hT:Tape L tm TP){ds:List Dt}(t:Sm L)(y:ni ds):∀dep:Nat,dep<=10->la L tm TP ds dep
 |0,_=>fun i l g hi hl r _=>Om hT t (hl.bX (by omega)) r hi
 |dep+1,O=>fun i l g hi hl r o=>by
  have h:=hT.norm;have c:=hT.shift;have m:=hT.take;have v:=c326 hT t y dep (by omega);have S:=y.len;have F:∀d∈ds,d.params.length<=8:=fun d hd=>(bV d (y.all d hd)).1
  have E:∀d∈ds,d.name.length<=100:=fun d hd=>(qX d (y.all d hd)).1;have D:∀d∈ds,kZ d.name d.params.length=true:=fun d hd=>zu d (y.all d hd)
  obtain⟨r9,j9,e9,r0,r1,C⟩:=vD hT t hi (n:=9) (by omega) (by omega);by_cases nz:r9=0
  ·subst nz;exact Q6 hT t (by omega) (hl.bX (by omega)) r C e9
  ·obtain⟨a,b,ar,arr,_,_,M⟩:=c194g r.ok;obtain⟨k,j,vG,W,V,hj⟩:=vD hT t C (n:=10) (by omega) (by omega);have P:On L tm TP g i a b ar k r9 j9 j:=⟨nz,e9,arr,vG,hj⟩;have h1:¬((dep:Int)+1<1):=by omega
   have s:(ar=true->7<=k)->(ar=false->¬k<2∧k≠2∧k≠3∧k≠5∧(k=4->¬(g.gk 3=false∧g.gk 1=false)))->vF L tm TP ds (dep+1) l g i:=by
    intro U T;obtain⟨e,f1,f2,f3,A,p,B,u⟩:=c352 hT t (by omega) y v hl r hj;refine⟨e,f1,f2,f3,A,?_,B,u⟩;have c3:=c351 (k:=3) r.ok;have c1:=c351 (k:=1) r.ok
    try simp[h,c,m]at e9 arr vG c3 c1
    rw[aA g326];cases ar with
    |true=>
     have q:=U rfl;have Q:¬k<7:=(by omega);have z:¬k<2:=(by omega);have J:¬k=2:=(by omega);have I:¬k=3:=(by omega);have H:¬k=4:=(by omega);have G:¬k=5:=(by omega);cases f1<;>cases f2<;>cases f3<;>simp[h,c,m,jr,eI]at p<;>simp[h,c,m,g326,h1,nz,e9,arr,vG,Q,z,J,I,H,G,p,jr,eI,aS]
    |false=>
     obtain⟨z,J,I,G,H⟩:=T rfl;by_cases h4:k=4
     ·have:=H h4;subst h4;cases N:g.gk 3 with
      |true=>
       rw[N]at c3;cases f1<;>cases f2<;>cases f3<;>simp[h,c,m,jr,eI]at p<;>simp[h,c,m,g326,h1,nz,e9,arr,vG,c3,p,jr,eI,aS]
      |false=>
       rw[N]at c3
       have g1:g.gk 1=true:=by
        cases g1:g.gk 1 with
        |true=>rfl
        |false=>exact absurd ⟨N,g1⟩ this
       rw[g1]at c1;cases f1<;>cases f2<;>cases f3<;>simp[h,c,m,jr,eI]at p<;>simp[h,c,m,g326,h1,nz,e9,arr,vG,c3,c1,p,jr,eI,aS]
     ·cases f1<;>cases f2<;>cases f3<;>simp[h,c,m,jr,eI]at p<;>simp[h,c,m,g326,h1,nz,e9,arr,vG,z,J,I,h4,G,p,jr,eI,aS]
   cases ar with
   |true=>
    have K:=M rfl;by_cases h7:k<7
    ·exact UJ hT t (by omega) v hl P h7 (r.cY a (by rw[K];simp)) (r.cY b (by rw[K];simp)) (by
      have:=kr (f:=fun x:Ty=>x.nodes.length) (l:=g.args) (x:=b) (by rw[K];simp);rw[Ty.aM]at o;simp only[zax,zaZ]at o;omega)
    ·exact s (fun _=>by omega) (by simp)
   |false=>
    by_cases h2:k<2
    ·exact UK hT t (by omega) (by omega) F D E v hl r o P h2
    ·by_cases h3:k=2
     ·subst h3;obtain⟨e,f1,f2,f3,A,p,B,u⟩:=c349 hT t (by omega) (by omega) F D E v hl r o hj;refine⟨e,f1,f2,f3,A,?_,B,u⟩
      try simp[h,c,m]at e9 arr vG
      rw[aA g326];cases f1<;>cases f2<;>cases f3<;>simp[h,c,m,jr,eI]at p<;>simp[h,c,m,g326,h1,nz,e9,arr,vG,p,jr,eI,aS]
     ·by_cases h4:k=3
      ·subst h4;obtain⟨e,f1,f2,f3,A,p,B,u⟩:=c350 hT t (by omega) y v hl r o hj;refine⟨e,f1,f2,f3,A,?_,B,u⟩
       try simp[h,c,m]at e9 arr vG
       rw[aA g326];cases f1<;>cases f2<;>cases f3<;>simp[h,c,m,jr,eI]at p<;>simp[h,c,m,g326,h1,nz,e9,arr,vG,p,jr,eI,aS]
      ·by_cases h5:k=5
       ·subst h5;exact Q7 hT t (by omega) v hl r o P
       ·by_cases h6:k=4∧g.gk 3=false∧g.gk 1=false
        ·obtain⟨rfl,R,z⟩:=h6;exact UL hT t (by omega) v hl r o P R z
        ·exact s (by simp) (fun _=>⟨h2,h3,h4,h5,fun q=>fun w=>h6 ⟨q,w⟩⟩)
theorem K0{f:Ty->Ty}{l:List Ty}(h:∀x∈l,(f x).nodes.length<=x.nodes.length):((l.map f).flatMap Ty.nodes).length<=(l.flatMap Ty.nodes).length:=by
 induction l with
 |nil=>simp
 |cons a r b=>
  have h1:=h a (by simp);have h2:=b fun x hx=>h x (by simp[hx])
  simp only[zao,zas,zan];omega
theorem Rh{l:List bD}(t:Ty):(t.iQ l).nodes.length<=t.nodes.length:=by
 refine Ty.cB (p:=fun t=>(t.iQ l).nodes.length<=t.nodes.length) ?_ t;intro t a;rw[Ty.vv];split
 ·rw[Ty.aM,Ty.aM t];simp[aX]
 ·rw[Ty.aM,Ty.aM t];have:=K0 (f:=Ty.iQ l) a;simp only[zax];omega
theorem c329{m:Mc}{n:Nat}(I:p8 n m.s)(hn:n<=1000000){t:Ty}(d:t.Ok):∃b:Bool,jj 329 [.pv t.pv] m [.pv (.bool b)] m∧(b=false->∃r:Nat,r<=200∧Tr m.s.sl t r):=by
 obtain⟨r,a,_,_,c⟩:=c355 (by unfold Sm;rw[I.len];omega) I.ok (m:=200) (by omega) d;refine⟨decide ((200:Int)<r),?_,fun h=>⟨r,by simp at h;omega,c (by simp at h;omega)⟩⟩;unfold jj;simp at a;rw[aA g329];simp[g329,Mc.sh,Mc.tk,Mc.cells,a]
theorem XK{m:Mc}{n:Nat}(I:p8 n m.s)(hn:n<=1000000){l:List Ty}(hl:l.length<=2000000)(c:∀t∈l,t.Ok):∀(k i:Nat),l.length-i=k->i<=l.length->
   (∃(T:aG)(j:Nat),cl AP g331L0 ⟨[(0,.aI 0 0),(5,.pv (.aq (l.map Ty.pv))),(6,.pv (vI i))],[],[some (m.cx 0)],[m.rc.length,m.hd.length]⟩=some (.ret,⟨[(4,.pv (.bool true))],[],[some (m.cx j)],T⟩)∧T[j]?=some m.rc.length∧T[j+1]?=some m.hd.length)∨
   cl AP g331L0 ⟨[(0,.aI 0 0),(5,.pv (.aq (l.map Ty.pv))),(6,.pv (vI i))],[],[some (m.cx 0)],[m.rc.length,m.hd.length]⟩=some (.exit 0,⟨[(0,.aI 0 0),(5,.pv (.aq (l.map Ty.pv))),(6,.pv (vI l.length)),(13,.pv (.bool false))],[],[some (m.cx 0)],[m.rc.length,m.hd.length]⟩)∧∀t∈l.drop i,∃r:Nat,r<=200∧Tr m.s.sl t r
 |0,i,f,hi=>by
  have:i=l.length:=by omega
  subst this;refine .inr ⟨?_,by simp⟩;rw[g331L0e];simp[g331B0,Mc.cx]
 |k+1,i,f,hi=>by
  have hi:i<l.length:=(by omega);obtain⟨t,a⟩:=aP hi;obtain⟨b,e,g⟩:=c329 I hn (c t (aN a));unfold jj at e;simp[Mc.sh,Mc.tk,Mc.cells]at e;cases b with
  |true=>
   refine .inl ?_;rw[g331L0e];simp(disch:=omega)[-getElem?_pos,g331B0,Mc.cx,hi,a,e];exact⟨_,_,⟨⟨rfl,rfl⟩,rfl⟩,rfl,rfl⟩
  |false=>
   have d:=XK I hn hl c k (i+1) (by omega) (by omega)
   have e1:cl AP g331L0 ⟨[(0,.aI 0 0),(5,.pv (.aq (l.map Ty.pv))),(6,.pv (vI i))],[],[some (m.cx 0)],[m.rc.length,m.hd.length]⟩=cl AP g331L0 ⟨[(0,.aI 0 0),(5,.pv (.aq (l.map Ty.pv))),(6,.pv (vI (i+1:Nat)))],[],[some (m.cx 0)],[m.rc.length,m.hd.length]⟩:=by
    conv=>lhs;rw[g331L0e]
    simp (disch:=omega) [-getElem?_pos,g331B0,Mc.cx,hi,a,e,ah];conv=>lhs;rw[g331L0e]
    conv=>rhs;rw[g331L0e]
    simp
   rw[e1];refine d.imp_right fun h=>⟨h.1,?_⟩;rw[aV a];intro y hy;simp only[zah]at hy;rcases hy with rfl|hy
   ·exact g rfl
   ·exact h.2 y hy
theorem c331{m:Mc}{n:Nat}(I:p8 n m.s)(hn:n<=1000000){h:Ho}(hr:mJ n h):∃b:Bool,jj 331 [.pv h.pv] m [.pv (.bool b)] m∧(b=false->∀u∈aU [h],∃r:Nat,r<=200∧Tr m.s.sl u r):=by
 have k:=c356 (l:=[h]) (by simp) (by simpa using(show Q8 h from hr.len));have hl:=mr (l:=[h]) (by simpa using(show Q8 h from hr.len));have d:=mJ.kB (l:=[h]) (by simpa using hr);have L:=XK I hn (l:=aU [h]) (by simp at hl;omega) (fun t c=>(d t c).1) _ 0 rfl (by omega);rw[zar]at L;generalize aU [h]=R at*;unfold jj;rw[g331L0e]at L;simp[Mc.cx]at L k;rcases L with⟨T,j,L,t1,a⟩|⟨L,hT⟩
 ·refine⟨true,?_,by simp⟩;rw[aA g331];simp[g331,Mc.sh,Mc.tk,Mc.cells,k,g331L0e,L,t1,a]
 ·refine⟨false,?_,fun _=>hT⟩;rw[aA g331];simp[g331,Mc.sh,Mc.tk,Mc.cells,k,g331L0e,L]
theorem XL{m:Mc}{v:List Int}(d:v.length<=1000000):∀(k i:Nat),v.length-i=k->i<=v.length->∀acc:List As,acc.length=i->
   cl AP g357L0 ⟨[(5,.pv (.aq (v.map vI))),(6,.own (acc.map As.pv) 0),(7,.pv (vI i))],[],[some (m.cx 1)],[acc.length,m.rc.length,m.hd.length]⟩=
     some (.exit 0,⟨[(5,.pv (.aq (v.map vI))),(6,.own ((acc++dv i (v.drop i)).map As.pv) 0),(7,.pv (vI v.length)),(17,.pv (.bool false))],[],[some (m.cx 1)],[v.length,m.rc.length,m.hd.length]⟩)
 |0,i,e,hi,acc,c=>by
  have:i=v.length:=by omega
  subst this;rw[za1];rw[g357L0e];simp[g357B0,Mc.cx,dv,c]
 |k+1,i,e,hi,acc,c=>by
  have hi:i<v.length:=(by omega);obtain⟨x,hx⟩:=aP hi;have a:=XL (m:=m) d k (i+1) (by omega) (by omega) (acc++[⟨x,aQ i⟩]) (by simp;omega);have b:=c63 (n:=i);have f:(acc.length+1)*72<=140737488355328:=(by omega);rw[aV hx];rw[g357L0e]at a⊢;simp[Mc.cx,aQ]at a b;simp(disch:=omega)[-getElem?_pos,g357B0,Mc.cx,hi,hx,b,ah,dv,f,aQ];rw[g357L0e];simp[a]
theorem c357{m:Mc}{l:List Ty}{v:List Int}(a:v.length<=1000000)(k:(aC AP).p 372 [m.s.pv,.aq (l.map Ty.pv)]=some [.aq (v.map vI)]):(aC AP).i 357 [.aI 0 0,.pv (.aq (l.map Ty.pv))] m.sh m.tk=some ([.own ((dv 0 v).map As.pv) 0],[some (m.cx 1)],[v.length,m.rc.length,m.hd.length]):=by
 have h:=XL (m:=m) a _ 0 rfl (by omega) [] rfl;rw[zar,za8]at h;have hl:=jg (i:=0) (l:=v);generalize dv 0 v=L at*;rw[g357L0e]at h;simp[Mc.cx]at h k;rw[aA g357];simp[g357,Mc.sh,Mc.tk,Mc.cells,Mc.cx,k,g357L0e,h,hl]
structure Pf(s:c_)(t u:Ty):Prop where
 e:(aC AP).p 358 [s.pv,t.pv]=some [u.pv,.bool true]
 ok:u.Ok
 n:u.nodes.length<=200
 r:K9 s.sl t u
noncomputable def OL(s:c_)(t:Ty):Ty:=open Classical in if h:∃u,Pf s t u then h.choose else ca
theorem OM{s:c_}{t:Ty}(hs:Sm s.sl)(b:∀x∈s.sl,x.ty.Ok)(a:t.Ok)(h:∃r:Nat,r<=200∧Tr s.sl t r):Pf s t (OL s t):=by
 obtain⟨r,hr,hT⟩:=h;obtain⟨u,e,h1,h2,h3⟩:=c358y hs b a hT (by omega);have hx:∃u,Pf s t u:=⟨u,e,h1,by omega,h3⟩;unfold OL;rw[dif_pos hx];exact hx.choose_spec
noncomputable def Gi(m:Mc)(v:List Int)(t:Ty):Ty:=(OL m.s t).sub (dv 0 v)
theorem c333{m:Mc}{v:List Int}(c:v.length<=1000000){t:Ty}(h:Pf m.s t (OL m.s t)):jj 333 [.pv t.pv,.pv (.aq ((dv 0 v).map As.pv))] m [Hu (Gi m v t)] m:=by
 have b:=h.e;have a:=c46 (s:=dv 0 v) (by unfold Sm;rw[jg];omega) h.ok;unfold jj Gi;generalize dv 0 v=L at*;generalize OL m.s t=u at*;generalize u.sub L=w at*;simp at b a;rw[aA g333];simp[g333,Mc.sh,Mc.tk,Mc.cells,b,a,Hu]
noncomputable def K1(m:Mc)(v:List Int)(x:En):En:=⟨x.name,⟨x.sc.id,Gi m v x.sc.ty⟩⟩
noncomputable def K2(m:Mc)(v:List Int)(h:Ho):Ho:=⟨h.bind,h.pos,h.ctx.map (K1 m v),Gi m v h.goal⟩
def Ri(h:Ho):List AV:=[.pv (vI h.bind),.pv (vI h.pos),.pv (.aq (h.ctx.map En.pv)),.pv (vI h.goal.kind),.pv (.str h.goal.name),.pv (vI h.goal.id),.pv (vI h.goal.home),.pv (.aq (h.goal.args.map Ty.pv))]
def Vy(k:Nat):List AV:=[.pv (vI 0),.pv (vI 0),.own [] k,.pv (vI 0),.pv (.str []),.pv (vI 0),.pv (vI 0),.own [] (k+1)]
theorem XM{m:Mc}{v:List Int}(b:v.length<=1000000){h:Ho}(hl:h.ctx.length<=1000000)(hr:∀x∈h.ctx,Pf m.s x.sc.ty (OL m.s x.sc.ty)){g:Ty}:∀(k i:Nat),h.ctx.length-i=k->i<=h.ctx.length->∀acc:List En,acc.length=i->
   cl AP g334L0 ⟨[(0,.aI 0 0),(2,.pv (.aq ((dv 0 v).map As.pv))),(4,.au 4 0),(6,.au 6 0),(7,.au 7 0),(8,.pv (vI i))],[(4,Ri h),(6,Vy 0),(7,[.pv (vI h.bind),.pv (vI h.pos),.own (acc.map En.pv) 2,.pv (vI g.kind),.pv (.str g.name),.pv (vI g.id),.pv (vI g.home),.pv (.aq (g.args.map Ty.pv))])],[some (m.cx 3)],[0,0,acc.length,m.rc.length,m.hd.length]⟩=
     some (.exit 0,⟨[(0,.aI 0 0),(2,.pv (.aq ((dv 0 v).map As.pv))),(4,.au 4 0),(6,.au 6 0),(7,.au 7 0),(8,.pv (vI h.ctx.length)),(24,.pv (.bool false))],[(4,Ri h),(6,Vy 0),(7,[.pv (vI h.bind),.pv (vI h.pos),.own ((acc++(h.ctx.drop i).map (K1 m v)).map En.pv) 2,.pv (vI g.kind),.pv (.str g.name),.pv (vI g.id),.pv (vI g.home),.pv (.aq (g.args.map Ty.pv))])],[some (m.cx 3)],[0,0,h.ctx.length,m.rc.length,m.hd.length]⟩)
 |0,i,d,hi,acc,c=>by
  have:i=h.ctx.length:=by omega
  subst this;rw[g334L0e];simp[g334B0,Ri,Vy,Mc.cx,c]
 |k+1,i,d,hi,acc,c=>by
  have hi:i<h.ctx.length:=(by omega);obtain⟨x,hx⟩:=aP hi;have a:=XM b hl hr (g:=g) k (i+1) (by omega) (by omega) (acc++[K1 m v x]) (by simp;omega);have e:=c333 b (hr x (aN hx));have f:(acc.length+1)*88<=140737488355328:=(by omega);rw[aV hx];unfold jj at e;rw[g334L0e]at a⊢;simp[Mc.sh,Mc.tk,Mc.cells,Hu]at e;simp[Ri,Vy,Mc.cx,K1]at a;generalize dv 0 v=L at*;simp(disch:=omega)[-getElem?_pos,g334B0,Ri,Vy,Mc.cx,hi,hx,e,ah,f,K1];rw[g334L0e];simp[a]
theorem c334{m:Mc}{v:List Int}(a:v.length<=1000000){h:Ho}(hl:h.ctx.length<=1000000)(hr:∀x∈h.ctx,Pf m.s x.sc.ty (OL m.s x.sc.ty))(b:Pf m.s h.goal (OL m.s h.goal)):jj 334 [.pv h.pv,.pv (.aq ((dv 0 v).map As.pv))] m [.agg (Ri (K2 m v h))] m:=by
 have e:=c333 a b;have L:=XM a hl hr (g:=Gi m v h.goal) _ 0 rfl (by omega) [] rfl;rw[zar,za8]at L;unfold jj K2 at*;rw[g334L0e]at L;generalize h.ctx.map (K1 m v)=E at*;generalize dv 0 v=N at*;generalize Gi m v h.goal=w at*;simp[Mc.sh,Mc.tk,Mc.cells,Hu]at e;simp[Ri,Vy,Mc.cx]at L;rw[aA g334];simp[g334,Mc.sh,Mc.tk,Mc.cells,Mc.cx,e,g334L0e,L,Ri]
structure Rp where
 types:List Sc
 Hw:List Ho
 homes:List Int
def Rp.pv(r:Rp):PV:=.agg [.aq (r.types.map As.pv),.aq (r.Hw.map Ho.pv),.aq (r.homes.map vI)]
@[simp] theorem Rp.kO(r:Rp):r.pv=.agg [.aq (r.types.map As.pv),.aq (r.Hw.map Ho.pv),.aq (r.homes.map vI)]:=rfl
def z2:List AV:=[.pv (vI 0),.pv (vI 0)]
def ZJ(m:Mc)(t:Ty):Prop:=∃r:Nat,r<=200∧Tr m.s.sl t r
theorem vH{l:List Ho}{u:Ty}:u∈aU l<->∃h∈l,u∈aU [h]:=by
 simp[aU]
theorem K3{l:List Ty}:∀{out:List Int}{w:Int},w∈l.foldl bW out->w∈out∨∃y∈l,y.kind=1∧y.id=w:=by
 induction l with
 |nil=>intro out w h;exact .inl h
 |cons a r b=>
  intro out w h;rw[zaU]at h;rcases b h with h|⟨y,hy,e⟩
  ·unfold bW at h;split at h
   ·rename_i q;simp only[zai,zaJ]at h;rcases h with h|rfl
    ·exact .inl h
    ·exact .inr ⟨a,by simp,q.1,rfl⟩
   ·exact .inl h
  ·exact .inr ⟨y,by simp[hy],e⟩
theorem nU{t:Ty}(h:t.Ok):∀y∈t.nodes,y.Ok:=by
 induction h with
 | @mk t hs c b=>
  intro y hy;rw[Ty.aM]at hy;simp only[zah,zam]at hy;rcases hy with rfl|⟨a,d,hy⟩
  ·exact .mk hs c
  ·exact b a d y hy
structure zR(t:Ty):Prop where
 ok:t.Ok
 wf:t.Wf
 n:t.nodes.length<=1000000
def sR(h:Ho):Prop:=h.ctx.length<=1000∧zR h.goal∧∀x∈h.ctx,zR x.sc.ty
theorem sR.kB{h:Ho}(H:sR h):∀t∈aU [h],zR t:=by
 intro t a;simp only[aU,zas,zb8,zaM,zai,zat,zaJ]at a;rcases a with⟨x,hx,rfl⟩|rfl
 ·exact H.2.2 x hx
 ·exact H.2.1
theorem mu{l:List Ho}(H:∀h∈l,sR h):∀t∈aU l,zR t:=by
 intro t a;obtain⟨h,b,a⟩:=vH.1 a;exact(H h b).kB t a
theorem su{l:List Ho}(H:∀h∈l,sR h):(aU l).length<=l.length*1001:=by
 unfold aU;rw[zaZ];refine gp (M:=1001) fun h a=>?_;have:=(H h a).1
 simp;omega
theorem vJ{l:List Ho}(H:∀h∈l,sR h)(hl:l.length<=1000):((aU l).flatMap Ty.nodes).length<=1001000000000:=by
 rw[zaZ];have h1:=gp (l:=aU l) (f:=fun t=>t.nodes.length) (M:=1000000) fun t a=>(mu H t a).n
 have h2:=su H;have:(aU l).length*1000000<=(1000*1001)*1000000:=zaH _ (zaR h2 (zaH _ hl));omega
theorem sw{h:Ho}{l:List Ho}:aU (h::l)=aU [h]++aU l:=by simp[aU]
theorem SN{l:List Ho}{k:Nat}{h:Ho}(hx:l[k]?=some h)(hl:l.length<=1000)(H:sR h):∀(n i:Nat),h.ctx.length-i=n->i<=h.ctx.length->∀acc:List Ty,acc.length<=k*1001+i->
   cl AP g347L1 ⟨[(0,.pv (.aq (l.map Ho.pv))),(3,.own (acc.map Ty.pv) 0),(4,.pv (vI k)),(5,.pv (vI i))],[],[],[acc.length]⟩=
     some (.exit 2,⟨[(0,.pv (.aq (l.map Ho.pv))),(3,.own ((acc++(h.ctx.drop i).map fun x=>x.sc.ty).map Ty.pv) 0),(4,.pv (vI k)),(5,.pv (vI h.ctx.length)),(19,.pv (.bool false))],[],[],[(acc++(h.ctx.drop i).map fun x=>x.sc.ty).length]⟩)
 |0,i,c,hi,acc,f=>by
  have:i=h.ctx.length:=by omega
  subst this;have a:=(zaa.1 hx).1;rw[g347L1e];simp[-getElem?_pos,g347B1,hx,a]
 |n+1,i,c,hi,acc,f=>by
  have hi:i<h.ctx.length:=(by omega);obtain⟨x,hy⟩:=aP hi;have a:=(zaa.1 hx).1;have g:=H.1;have b:=SN hx hl H n (i+1) (by omega) (by omega) (acc++[x.sc.ty]) (by simp;omega);have d:(acc.length+1)*64<=140737488355328:=(by omega);have e:acc++[x.sc.ty]++(h.ctx.drop (i+1)).map (fun x=>x.sc.ty)=acc++(h.ctx.drop i).map fun x=>x.sc.ty:=by rw[aV hy];simp
  rw[e]at b;generalize acc++(h.ctx.drop i).map (fun x=>x.sc.ty)=R at*;rw[g347L1e]at b⊢;simp at b;simp(disch:=omega)[-getElem?_pos,g347B1,hx,a,hi,hy,ah,d];rw[g347L1e];simp[b]
theorem SO{l:List Ho}(hl:l.length<=1000)(H:∀h∈l,sR h):∀(n k:Nat),l.length-k=n->k<=l.length->∀acc:List Ty,acc.length<=k*1001->∃T:Nat,
   cl AP g347L0 ⟨[(0,.pv (.aq (l.map Ho.pv))),(3,.own (acc.map Ty.pv) 0),(4,.pv (vI k))],[],[],[acc.length]⟩=
     some (.exit 0,⟨[(0,.pv (.aq (l.map Ho.pv))),(3,.own ((acc++aU (l.drop k)).map Ty.pv) 0),(4,.pv (vI l.length)),(9,.pv (.bool false))],[],[],[T]⟩)∧T=(acc++aU (l.drop k)).length
 |0,k,hn,b,acc,i=>by
  have:k=l.length:=by omega
  subst this;refine⟨acc.length,?_,by simp[aU]⟩;rw[g347L0e];simp[g347B0,aU]
 |n+1,k,hn,b,acc,i=>by
  have b:k<l.length:=(by omega);obtain⟨h,hx⟩:=aP b;have f:=H h (aN hx);have j:=f.1;have L:=SN hx hl f _ 0 rfl (by omega) acc (by omega)
  have e:aU (l.drop k)=(h.ctx.map fun x=>x.sc.ty)++[h.goal]++aU (l.drop (k+1)):=by
   rw[aV hx,sw];simp[aU]
  rw[zar]at L;obtain⟨T,a,hT⟩:=SO hl H n (k+1) (by omega) (by omega) (acc++(h.ctx.map fun x=>x.sc.ty)++[h.goal]) (by simp;omega);have e2:acc++(h.ctx.map fun x=>x.sc.ty)++[h.goal]++aU (l.drop (k+1))=acc++aU (l.drop k):=by rw[e];simp
  rw[e2]at a hT;refine⟨T,?_,hT⟩;have c:=jw.head (acc++h.ctx.map fun x=>x.sc.ty);have d:(acc++h.ctx.map fun x=>x.sc.ty).length=acc.length+h.ctx.length:=by simp
  have g:((acc++h.ctx.map fun x=>x.sc.ty).length+1)*64<=140737488355328:=(by rw[d];omega);clear d;generalize acc++aU (l.drop k)=R at*;generalize (acc++h.ctx.map fun x=>x.sc.ty)=W at*;rw[g347L0e]at a⊢;rw[g347L1e]at L;simp at a L;simp(disch:=omega)[-getElem?_pos,g347B0,hx,b,ah,g,c,g347L1e,L];rw[g347L0e];simp[a]
theorem c347g{l:List Ho}(hl:l.length<=1000)(H:∀h∈l,sR h):(aC AP).p 347 [.aq (l.map Ho.pv)]=some [.aq ((vars (aU l)).map vI)]:=by
 obtain⟨T,L,hT⟩:=SO hl H _ 0 rfl (by omega) [] (by simp);rw[za8,zar]at L hT;have vT:=vJ H hl;have len:=su H
 have b:∀t∈(aU l).flatMap Ty.nodes,t.Ok:=by
  intro t a;simp only[zam]at a;obtain⟨u,hu,a⟩:=a;exact nU (mu H u hu).ok t a
 have c:=c56 (S:=(aU l).flatMap Ty.nodes) (by omega) b (l:=aU l) (by unfold Sm;omega) (fun t a=>(mu H t a).ok) (by
  intro x hx;simp only[zam]at hx⊢;obtain⟨t,a,hx⟩:=hx;exact⟨t,a,nL hx⟩)
 rw[kg fun t a=>(mu H t a).wf]at c;generalize vars (aU l)=v at*;generalize aU l=R at*;rw[g347L0e]at L;simp at L;rw[az g347];simp(disch:=omega)[g347,g347L0e,L,c]
structure Rd where
 h:Ho
 b:Bool
def Rd.pv(r:Rd):PV:=.agg [vI r.h.bind,vI r.h.pos,.aq (r.h.ctx.map En.pv),vI r.h.goal.kind,.str r.h.goal.name,vI r.h.goal.id,vI r.h.goal.home,.aq (r.h.goal.args.map Ty.pv),.bool r.b]
@[simp] theorem Rd.kO(r:Rd):r.pv=.agg [.int .i64 r.h.bind,.int .i64 r.h.pos,.aq (r.h.ctx.map En.pv),.int .i64 r.h.goal.kind,.str r.h.goal.name,.int .i64 r.h.goal.id,.int .i64 r.h.goal.home,.aq (r.h.goal.args.map Ty.pv),.bool r.b]:=rfl
theorem XN:El Rd.pv 9 true:=⟨fun _=>by simp,fun _=>by simp⟩
@[simp] theorem Vz{l:List Rd}:a7 9 (l.map Rd.pv)=true:=XN.head l
theorem XO{env:List En}(hl:env.length<=1000000):∀(n i:Nat),env.length-i=n->i<=env.length->∀acc:List bD,acc.length=i->
   cl AP g486L0 ⟨[(3,.own (acc.map .str) 0),(6,.pv (.aq (env.map En.pv))),(7,.pv (vI env.length)),(8,.pv (vI i))],[],[],[acc.length]⟩=
     some (.exit 0,⟨[(3,.own ((acc++(env.drop i).map En.name).map .str) 0),(6,.pv (.aq (env.map En.pv))),(7,.pv (vI env.length)),(8,.pv (vI env.length)),(9,.pv (.bool false))],[],[],[env.length]⟩)
 |0,i,hn,hi,acc,b=>by
  have:i=env.length:=by omega
  subst this;rw[g486L0e];simp[g486B0,b]
 |n+1,i,hn,hi,acc,b=>by
  have hi:i<env.length:=(by omega);obtain⟨x,hx⟩:=aP hi;have a:=XO hl n (i+1) (by omega) (by omega) (acc++[x.name]) (by simp;omega);have c:(acc.length+1)*16<=140737488355328:=(by omega);rw[aV hx];rw[g486L0e]at a⊢;simp at a;simp(disch:=omega)[-getElem?_pos,g486B0,hx,hi,ah,c];rw[g486L0e];simp[a]
theorem c486g{env:List En}(hl:env.length<=1000000):(aC AP).p 486 [.aq (env.map En.pv)]=some [.aq ((env.map En.name).map .str)]:=by
 have L:=XO hl _ 0 rfl (by omega) [] rfl;rw[g486L0e]at L;simp at L;rw[az g486];simp[g486,g486L0e,L]
theorem zR.zU{t:Ty}(h:zR t){S:List Ty}(hS:∀y∈t.nodes,y∈S):Good S t:=⟨h.ok,h.wf,fun x hx=>hS x (nL hx)⟩
structure kD(l:List En):Prop where
 len:l.length<=1000
 ty:∀x∈l,zR x.sc.ty
def K4(l:List En):List Ty:=l.flatMap fun x=>x.sc.ty.nodes
theorem kD.vT{l:List En}(h:kD l):(K4 l).length<=1000000000:=by
 unfold K4;rw[zaZ];have h1:=gp (l:=l) (f:=fun x=>x.sc.ty.nodes.length) (M:=1000000) fun x hx=>(h.ty x hx).n
 have h2:=h.len;have:=zaH 1000000 h2;omega
theorem kD.zU{l:List En}(h:kD l):∀x∈l,Good (K4 l) x.sc.ty:=fun x hx=>(h.ty x hx).zU fun y hy=>by
 unfold K4;simp only[zam];exact⟨x,hx,hy⟩
theorem kD.ok{l:List En}(h:kD l):∀x∈K4 l,x.Ok:=by
 intro y hy;unfold K4 at hy;simp only[zam]at hy;obtain⟨x,hx,hy⟩:=hy;exact nU (h.ty x hx).ok y hy
theorem kD.sm{l:List En}(h:kD l):Sm l:=by have:=h.len;unfold Sm;omega
theorem c199r{l:List En}(h:kD l):(aC AP).p 199 [.aq (l.map En.pv)]=some [.aq ((dt l).map vI)]:=c199 (by have:=h.vT;omega) h.sm h.zU
theorem c199ri{l:List En}(h:kD l):(aC AP).i 199 [.pv (.aq (l.map En.pv))] [] []=some ([.own ((dt l).map vI) 0],[],[(dt l).length]):=c199i (by have:=h.vT;omega) h.sm h.zU
theorem c200r{l:List En}(h:kD l):(aC AP).p 200 [.aq (l.map En.pv)]=some [.aq ((dt l).map vI)]:=c200 (by have:=h.vT;omega) h.ok h.sm h.zU
theorem c55r{t:Ty}(h:zR t):(aC AP).p 55 [.aq [t.pv]]=some [.aq ((vars [t]).map vI)]:=by
 have hn:=h.n
 exact c55 (S:=t.nodes.map fun y=>y.id) (by rw[zaT];omega) (l:=[t]) (by simp[Sm]) (by intro u hu;simp at hu;subst hu;exact h.ok) (fun x hx _=>by
  simp at hx;exact zat.2 ⟨x,hx,rfl⟩)
theorem vK{l:List Ty}:(vars l).length<=(l.flatMap Ty.nodes).length:=by
 have:=qY (l:=l.flatMap Ty.nodes) (out:=[]);simp only[vars,List.length_nil]at*;omega
theorem vL{t:Ty}(h:zR t):(vars [t]).length<=1000000:=by
 have:=vK (l:=[t]);have:=h.n;simp only[zas,zb8,zaM]at*;omega
theorem zB{l:List En}(h:kD l):(dt l).length<=l.length*1000000:=by
 unfold dt;refine zaR vK ?_;rw[zaZ];refine zaR (gp (M:=1000000) fun t a=>?_) (zaH _ (by rw[zaT];exact d6 l));simp only[zat]at a;obtain⟨x,hx,rfl⟩:=a;exact(h.ty x (cS l x hx)).n
def zT(h:Ho):List Int:=vars [h.goal]++dt h.ctx
theorem sR.env{h:Ho}(H:sR h):kD h.ctx:=⟨by have:=H.1;omega,H.2.2⟩
theorem ON{h:Ho}(H:sR h):(zT h).length<=1001000000:=by
 have h1:=vL H.2.1;have h2:=zB H.env;have h3:=zaH 1000000 H.1;unfold zT;rw[zan];omega
theorem XP{l:List Rd}(hl:l.length<=1000)(H:∀r∈l,sR r.h):∀(n i:Nat),l.length-i=n->i<=l.length->∀acc:List Int,acc.length<=i*1001000000->∃T:Nat,
   cl AP g513L0 ⟨[(3,.own (acc.map vI) 0),(6,.pv (.aq (l.map Rd.pv))),(7,.pv (vI l.length)),(8,.pv (vI i))],[],[],[acc.length]⟩=
     some (.exit 0,⟨[(3,.own ((acc++(l.drop i).flatMap fun r=>zT r.h).map vI) 0),(6,.pv (.aq (l.map Rd.pv))),(7,.pv (vI l.length)),(8,.pv (vI l.length)),(9,.pv (.bool false))],[],[],[T]⟩)∧T=(acc++(l.drop i).flatMap fun r=>zT r.h).length
 |0,i,hn,hi,acc,j=>by
  have:i=l.length:=by omega
  subst this;refine⟨acc.length,?_,by simp⟩;rw[g513L0e];simp[g513B0]
 |n+1,i,hn,hi,acc,j=>by
  have hi:i<l.length:=(by omega);obtain⟨r,hx⟩:=aP hi;have hr:=H r (aN hx);have g:=ON hr;have f:=c55r hr.2.1;have d:=c199r hr.env;obtain⟨T,c,hT⟩:=XP hl H n (i+1) (by omega) (by omega) (acc++zT r.h) (by rw[zan];omega);have e:acc++zT r.h++(l.drop (i+1)).flatMap (fun r=>zT r.h)=acc++(l.drop i).flatMap fun r=>zT r.h:=by rw[aV hx];simp
  rw[e]at c hT;refine⟨T,?_,hT⟩;generalize acc++(l.drop i).flatMap (fun r=>zT r.h)=R at*;unfold zT at c g;rw[zan]at g;generalize vars [r.h.goal]=v at*;generalize dt r.h.ctx=w at*;have b1:(acc.length+v.length)*8<=140737488355328:=by omega
  have p:(acc.length+v.length+w.length)*8<=140737488355328:=(by omega);have o:(acc.length+w.length)*8<=140737488355328:=(by omega);have k:(acc.length+(v.length+w.length))*8<=140737488355328:=(by omega);have m:acc.length*8<=140737488355328:=(by omega);have h1:=eV.head acc;have h2:=eV.head (acc++v);simp at h2 f d;rw[g513L0e]at c⊢;by_cases b:v=[]<;>by_cases a:w=[]<;>
  ·simp[b,a]at c f d;simp(disch:=omega)[-getElem?_pos,g513B0,hx,hi,f,d,ah,b1,p,o,m,k,h1,h2,b,a,zbp];rw[g513L0e];simp[c,b,a,zbp]
theorem c513g{l:List Rd}(hl:l.length<=1000)(H:∀r∈l,sR r.h):(aC AP).p 513 [.aq (l.map Rd.pv)]=some [.aq ((l.flatMap fun r=>zT r.h).map vI)]:=by
 obtain⟨T,L,hT⟩:=XP hl H _ 0 rfl (by omega) [] (by simp);rw[za8,zar]at L hT;rw[g513L0e]at L;simp at L;rw[az g513];simp[g513,g513L0e,L]
def Rj(gen V O:List Int)(j:Nat):Bool:=!decide (gen[j]?.getD 0∈gen.take j) && decide (gen[j]?.getD 0∈V) && !decide (gen[j]?.getD 0∈O)
def kv(gen V O:List Int)(i:Nat):Bool:=(List.range' i (gen.length-i)).all (Rj gen V O)
theorem xA{gen V O:List Int}{i:Nat}(h:i<gen.length):kv gen V O i=(Rj gen V O i && kv gen V O (i+1)):=by
 unfold kv;rw[show gen.length-i=(gen.length-(i+1))+1 by omega,zcp,zaS]
theorem CB{gen V O:List Int}:kv gen V O gen.length=true:=by simp[kv]
theorem HD{l:List Int}(h:l.length<=1000000){i:Nat}(hi:i<=l.length):cX false 1 false true false [.pv (.aq (l.map vI)),.pv (vI i)]=some (.pv (.aq ((l.take i).map vI))):=by
 have h1:¬(i:Int)<0:=by omega
 have h2:(i:Int)<=l.length:=by omega
 have e:dY false true false (l.map vI).length [.pv (vI i)]=some (0,(i:Int),none):=rfl;have e0:db (.pv (.aq (l.map vI)))=some (l.map vI):=rfl;unfold cX;simp only[zaO,zbg,e0,e];rw[zak ⟨by omega,by omega,by rw[zaT];exact h2,.inl trivial⟩];simp
theorem XQ{gen V O:List Int}(m:gen.length<=1000000)(hV:Sm V)(o:Sm O):∀(n i:Nat),gen.length-i=n->i<=gen.length->
   (kv gen V O i=true∧∃T:aG,cl AP g493L0 ⟨[(0,.pv (.aq (gen.map vI))),(9,.pv (.aq (V.map vI))),(10,.own (O.map vI) 0),(21,.pv (.aq (gen.map vI))),(22,.pv (vI gen.length)),(23,.pv (vI i))],[],[],[O.length]⟩=
     some (.exit 0,⟨[(0,.pv (.aq (gen.map vI))),(9,.pv (.aq (V.map vI))),(10,.own (O.map vI) 0),(21,.pv (.aq (gen.map vI))),(22,.pv (vI gen.length)),(23,.pv (vI gen.length)),(24,.pv (.bool false))],[],[],T⟩))∨
   (kv gen V O i=false∧∃T:aG,cl AP g493L0 ⟨[(0,.pv (.aq (gen.map vI))),(9,.pv (.aq (V.map vI))),(10,.own (O.map vI) 0),(21,.pv (.aq (gen.map vI))),(22,.pv (vI gen.length)),(23,.pv (vI i))],[],[],[O.length]⟩=
     some (.ret,⟨[(8,.pv (.bool false))],[],[],T⟩))
 |0,i,hn,hi=>by
  have:i=gen.length:=by omega
  subst this;refine .inl ⟨CB,[O.length],?_⟩;rw[g493L0e];simp[g493B0]
 |n+1,i,hn,hi=>by
  have hi:i<gen.length:=(by omega);obtain⟨x,hx⟩:=aP hi;have p:=XQ m hV o n (i+1) (by omega) (by omega);rw[xA hi];have f:Rj gen V O i=(!decide (x∈gen.take i) && decide (x∈V) && !decide (x∈O)):=(by simp[Rj,hx]);have d:=c98 (s:=gen.take i) (by unfold Sm;simp;omega) (y:=x);have l:=c98 hV (y:=x);have k:=c98 o (y:=x);rw[f];rw[za9]at d;have e:=HD m (i:=i) (by omega);rw[za9]at e;generalize decide (x∈gen.take i)=c at*;generalize decide (x∈V)=b at*;generalize decide (x∈O)=a at*
  have j:(!c && b && !a)=false->∃T:aG,cl AP g493L0 ⟨[(0,.pv (.aq (gen.map vI))),(9,.pv (.aq (V.map vI))),(10,.own (O.map vI) 0),(21,.pv (.aq (gen.map vI))),(22,.pv (vI gen.length)),(23,.pv (vI i))],[],[],[O.length]⟩=some (.ret,⟨[(8,.pv (.bool false))],[],[],T⟩):=by
   intro h;rw[g493L0e];cases c<;>cases b<;>cases a<;>simp at h<;>simp(disch:=omega)[-getElem?_pos,g493B0,hx,hi,d,l,k,e]
  cases q:(!c && b && !a)with
  |false=>
   refine .inr ⟨by rw[zcg],j q⟩
  |true=>
   rw[zba]
   have e1:cl AP g493L0 ⟨[(0,.pv (.aq (gen.map vI))),(9,.pv (.aq (V.map vI))),(10,.own (O.map vI) 0),(21,.pv (.aq (gen.map vI))),(22,.pv (vI gen.length)),(23,.pv (vI i))],[],[],[O.length]⟩=cl AP g493L0 ⟨[(0,.pv (.aq (gen.map vI))),(9,.pv (.aq (V.map vI))),(10,.own (O.map vI) 0),(21,.pv (.aq (gen.map vI))),(22,.pv (vI gen.length)),(23,.pv (vI (i+1:Nat)))],[],[],[O.length]⟩:=by
    generalize g:cl AP g493L0 ⟨[(0,.pv (.aq (gen.map vI))),(9,.pv (.aq (V.map vI))),(10,.own (O.map vI) 0),(21,.pv (.aq (gen.map vI))),(22,.pv (vI gen.length)),(23,.pv (vI (i+1:Nat)))],[],[],[O.length]⟩=r;rw[g493L0e]at g⊢;simp at g;cases c<;>cases b<;>cases a<;>simp at q;simp(disch:=omega)[-getElem?_pos,g493B0,hx,hi,d,l,k,e,ah];rw[g493L0e];simp[g]
   rw[e1];exact p
theorem c493{gen:List Int}(g:gen.length<=1000000){t:Ty}(e:zR t){env:List En}(b:kD env){l:List Rd}(hl:l.length<=1000)(H:∀r∈l,sR r.h):
   (aC AP).p 493 [.aq (gen.map vI),t.pv,.aq (env.map En.pv),.aq (l.map Rd.pv)]=some [.bool (kv gen (vars [t]) (dt env++l.flatMap fun r=>zT r.h) 0)]:=by
 have d:=c55r e;have c:=c199ri b;have a:=c513g hl H;have n:=vL e;have m:=zB b;have k:=b.len
 have j:(l.flatMap fun r=>zT r.h).length<=l.length*1001000000:=by
  rw[zaZ];exact gp (M:=1001000000) fun r hr=>ON (H r hr)
 generalize (l.flatMap fun r=>zT r.h)=w at*;have L:=XQ (gen:=gen) (V:=vars [t]) (O:=dt env++w) g (by unfold Sm;omega) (by unfold Sm;rw[zan];omega) _ 0 rfl (by omega);generalize kv gen (vars [t]) (dt env++w) 0=R at*;generalize vars [t]=v at*;have h1:=eV.head (dt env);generalize dt env=f at*;have b1:(f.length+w.length)*8<=140737488355328:=by omega
 have i:f.length*8<=140737488355328:=by omega
 rw[g493L0e]at L;simp at d c a;rw[az g493];by_cases hw:w=[]<;>
 ·simp[hw]at L a;rcases L with⟨rfl,T,L⟩|⟨rfl,T,L⟩<;>simp(disch:=omega)[g493,d,c,a,h1,b1,i,hw,g493L0e,L]
def dw(ds:List Dt)(home:Int)(out:List Ho)(hd:List Bool):List AV:=[.pv (.aq (ds.map Dt.pv)),.pv (vI home),.own (out.map Ho.pv) 0,.own (hd.map .bool) 1]
theorem c491{ds:List Dt}{home:Int}{out:List Ho}{hd:List Bool}{env:List En}(a:Sm env)(e:Ex)(d:Dv)(hr:out.length<=1000000)(hl:hd.length<=1000000):
   (aC AP).i 491 [.aI 0 0,.pv (.aq (env.map En.pv)),.pv e.pv,.pv d.pv] [some (dw ds home out hd)] [out.length,hd.length]=
     some ([],[some (dw ds home (out++[⟨home,e.pos,a8 env,d.ty⟩]) (hd++[e.kind == 11]))],[out.length+1,hd.length+1]):=by
 have k:=c201 a;have b1:(out.length+1)*104<=140737488355328:=by omega
 have b:hd.length+1<=140737488355328:=by omega
 have h1:=Ha hd;rw[aA g491];simp[g491,dw,k,b1,b,h1]
theorem XR{ds:List Dt}{home:Int}{out:List Ho}{hd:List Bool}{gen V F W:List Int}(m:gen.length<=1000000)(hV:Sm V)(p:Sm F)(o:Sm W):∀(n i:Nat),gen.length-i=n->i<=gen.length->
   (kv gen V (F++W) i=true∧cl AP g489L0 ⟨[(1,.pv (.aq (gen.map vI))),(11,.pv (.aq (V.map vI))),(12,.pv (.aq (F.map vI))),(13,.pv (.aq (W.map vI))),(14,.pv (vI i))],[],[some (dw ds home out hd)],[out.length,hd.length]⟩=
     some (.exit 0,⟨[(1,.pv (.aq (gen.map vI))),(11,.pv (.aq (V.map vI))),(12,.pv (.aq (F.map vI))),(13,.pv (.aq (W.map vI))),(14,.pv (vI gen.length)),(30,.pv (.bool false))],[],[some (dw ds home out hd)],[out.length,hd.length]⟩))∨
   (kv gen V (F++W) i=false∧cl AP g489L0 ⟨[(1,.pv (.aq (gen.map vI))),(11,.pv (.aq (V.map vI))),(12,.pv (.aq (F.map vI))),(13,.pv (.aq (W.map vI))),(14,.pv (vI i))],[],[some (dw ds home out hd)],[out.length,hd.length]⟩=
     some (.ret,⟨[(10,.pv (.bool false))],[],[some (dw ds home out hd)],[out.length,hd.length]⟩))
 |0,i,hn,hi=>by
  have:i=gen.length:=by omega
  subst this;refine .inl ⟨CB,?_⟩;rw[g489L0e];simp[g489B0,dw]
 |n+1,i,hn,hi=>by
  have hi:i<gen.length:=(by omega);obtain⟨x,hx⟩:=aP hi;have r:=XR (ds:=ds) (home:=home) (out:=out) (hd:=hd) m hV p o n (i+1) (by omega) (by omega);rw[xA hi];have c:Rj gen V (F++W) i=(!decide (x∈gen.take i) && decide (x∈V) && !(decide (x∈F)|| decide (x∈W))):=(by simp[Rj,hx]);have a:=c95 (s:=gen.take i) (by unfold Sm;simp;omega) (y:=x);have l:=c95 hV (y:=x);have k:=c95 p (y:=x);have j:=c95 o (y:=x);rw[c];rw[za9]at a;have b:=HD m (i:=i) (by omega);rw[za9]at b;generalize decide (x∈gen.take i)=h at*;generalize decide (x∈V)=g at*;generalize decide (x∈F)=f at*;generalize decide (x∈W)=e at*;cases q:(!h && g && !(f || e))with
  |false=>
   refine .inr ⟨by rw[zcg],?_⟩;rw[g489L0e];cases h<;>cases g<;>cases f<;>cases e<;>simp at q<;>simp(disch:=omega)[-getElem?_pos,g489B0,dw,hx,hi,a,l,k,j,b]
  |true=>
   rw[zba]
   have e1:cl AP g489L0 ⟨[(1,.pv (.aq (gen.map vI))),(11,.pv (.aq (V.map vI))),(12,.pv (.aq (F.map vI))),(13,.pv (.aq (W.map vI))),(14,.pv (vI i))],[],[some (dw ds home out hd)],[out.length,hd.length]⟩=cl AP g489L0 ⟨[(1,.pv (.aq (gen.map vI))),(11,.pv (.aq (V.map vI))),(12,.pv (.aq (F.map vI))),(13,.pv (.aq (W.map vI))),(14,.pv (vI (i+1:Nat)))],[],[some (dw ds home out hd)],[out.length,hd.length]⟩:=by
    generalize d:cl AP g489L0 ⟨[(1,.pv (.aq (gen.map vI))),(11,.pv (.aq (V.map vI))),(12,.pv (.aq (F.map vI))),(13,.pv (.aq (W.map vI))),(14,.pv (vI (i+1:Nat)))],[],[some (dw ds home out hd)],[out.length,hd.length]⟩=t;rw[g489L0e]at d⊢;simp[dw]at d;cases h<;>cases g<;>cases f<;>cases e<;>simp at q;simp(disch:=omega)[-getElem?_pos,g489B0,dw,hx,hi,a,l,k,j,b,ah];rw[g489L0e];simp[d]
   rw[e1];exact r
theorem Rk{out:List Ho}{i:Nat}{T:Nat}(hi:i<=out.length):cX false 8 true false false [.own (out.map Ho.pv) T,.pv (vI i)]=some (.pv (.aq ((out.drop i).map Ho.pv))):=by
 have e:dY true false false (out.map Ho.pv).length [.pv (vI i)]=some ((i:Int),((out.map Ho.pv).length:Int),none):=rfl;have e0:db (.own (out.map Ho.pv) T)=some (out.map Ho.pv):=rfl;unfold cX;simp only[zaO,zbg,e0,e];rw[zak ⟨by omega,by rw[zaT];omega,by omega,.inr KO⟩];simp;rw[zaw (by simp)]
theorem c489{ds:List Dt}{home:Int}{out:List Ho}{hd:List Bool}{gen:List Int}(j:gen.length<=1000000){t:Ty}(a:zR t){env:List En}(c:kD env){i:Nat}(hi:i<=out.length)(hl:(out.drop i).length<=1000)(e:∀h∈out.drop i,sR h):
   (aC AP).i 489 [.aI 0 0,.pv (.aq (gen.map vI)),.pv t.pv,.pv (.aq (env.map En.pv)),.pv (vI i)] [some (dw ds home out hd)] [out.length,hd.length]=
     some ([.pv (.bool (kv gen (vars [t]) (dt env++vars (aU (out.drop i))) 0))],[some (dw ds home out hd)],[out.length,hd.length]):=by
 have hn:=a.n;have b:=c56 (S:=t.nodes) (by omega) (nU a.ok) (l:=[t]) (by simp[Sm]) (by intro u hu;simp at hu;subst hu;exact a.ok) (by intro x hx;simp at hx;exact nL hx);rw[kg (by intro u hu;simp at hu;subst hu;exact a.wf)]at b;have g:=c200r c;have d:=c347g (l:=out.drop i) hl e;have sl:=Rk (out:=out) (T:=0) hi;have q:=vL a;have p:=zB c;have o:=c.len;have m:=vK (l:=aU (out.drop i));have k:=vJ e hl;generalize vars (aU (out.drop i))=w at*;have L:=XR (ds:=ds) (home:=home) (out:=out) (hd:=hd) (gen:=gen) (V:=vars [t]) (F:=dt env) (W:=w) j (by unfold Sm;omega) (by unfold Sm;omega) (by unfold Sm;omega) _ 0 rfl (by omega);generalize kv gen (vars [t]) (dt env++w) 0=R at*;generalize vars [t]=v at*;generalize dt env=f at*;rw[g489L0e]at L;simp[dw]at L b;rw[zcH]at sl d;rw[aA g489];rcases L with⟨rfl,L⟩|⟨rfl,L⟩<;>simp(disch:=omega)[g489,dw,b,g,d,sl,g489L0e,L]
theorem xB{l:List Ty}{w:Int}:w∈vars l<->∃y∈l.flatMap Ty.nodes,y.kind=1∧y.id=w:=by
 constructor
 ·intro hw;rcases K3 hw with hw|h
  ·cases hw
  ·exact h
 ·rintro⟨y,hy,k,rfl⟩
  exact lH hy k
theorem qg{a b:List Ty}{w:Int}:w∈vars (a++b)<->w∈vars a∨w∈vars b:=by
 simp only[xB,zbU,zai];constructor
 ·rintro⟨y,hy|hy,h⟩
  ·exact .inl ⟨y,hy,h⟩
  ·exact .inr ⟨y,hy,h⟩
 ·rintro(⟨y,hy,h⟩|⟨y,hy,h⟩)
  ·exact⟨y,.inl hy,h⟩
  ·exact⟨y,.inr hy,h⟩
theorem K5{gen V O a:List Int}(h:∀x,x∈O<->x∈a):Rj gen V O=Rj gen V a:=by
 funext j
 unfold Rj;rw[show decide (gen[j]?.getD 0∈O)=decide (gen[j]?.getD 0∈a) from by rw[zaN];simp only[zaW];exact h _]
theorem Gj{gen V O a:List Int}(h:∀x,x∈O<->x∈a){i:Nat}:kv gen V O i=kv gen V a i:=by
 unfold kv;rw[K5 h]
def Rd.Cl(r:Rd):Prop:=a8 r.h.ctx=r.h.ctx
theorem Rl{h:Ho}(a:a8 h.ctx=h.ctx){w:Int}:w∈zT h<->w∈vars (aU [h]):=by
 have e:aU [h]=h.ctx.map (fun x=>x.sc.ty)++[h.goal]:=by simp[aU]
 unfold zT dt;rw[e,qg,zai,a];exact Or.comm
theorem OO{l:List Rd}(c:∀r∈l,r.Cl){w:Int}:w∈(l.flatMap fun r=>zT r.h)<->w∈vars (aU (l.map Rd.h)):=by
 induction l with
 |nil=>simp[aU,xB]
 |cons a r b=>
  have b:=b fun x hx=>c x (by simp[hx]);rw[zas,zai,zao,sw,qg,b,Rl (c a (by simp))]
theorem OP{gen V F:List Int}{l:List Rd}(a:∀r∈l,r.Cl):kv gen V (F++l.flatMap fun r=>zT r.h) 0=kv gen V (F++vars (aU (l.map Rd.h))) 0:=Gj fun x=>by
 rw[zai,zai,OO a]
theorem c518{c:Sc}(b:c.ty.Ok)(a:c.ty.Wb){l:List Ty}(hl:Sm l):(aC AP).p 518 [c.pv,.aq (l.map Ty.pv)]=some (if c.id=l.length then[(c.ty.fQ l).pv,.bool true]else[ca.pv,.bool false]):=by
 have k:=c47 hl b a;rw[az g518];by_cases h:c.id=l.length
 ·rw[zak h];simp at k;simp[g518,h,k]
 ·rw[zad h];have h':¬(l.length:Int)=c.id:=fun q=>h q.symm
  simp[g518,h,h',ca]
noncomputable def jy(c:Sc)(d:Dv):Bool:=decide (c.id=d.inst.length) && decide (c.ty.fQ d.inst=d.ty)
theorem c504{c:Sc}(i:c.ty.Ok)(g:c.ty.Wb){d:Dv}(hd:d.Sd)(f:(c.ty.fQ d.inst).Ok):(aC AP).p 504 [c.pv,d.pv]=some [.bool (jy c d)]:=by
 have hl:=hd.il;have k:=c518 i g (l:=d.inst) (by unfold Sm;omega);have e:=c33 (a:=c.ty.fQ d.inst) (b:=d.ty) f;rw[uX]at e;unfold jy;rw[az g504];by_cases h:c.id=d.inst.length
 ·rw[zak h]at k;simp only[h,decide_true,zba];generalize decide (c.ty.fQ d.inst=d.ty)=b at*;generalize c.ty.fQ d.inst=u at*;simp[h]at k e;simp[g504,h,k,e]
 ·rw[zad h]at k;simp only[h,decide_false,zcg];simp[ca]at k;simp[g504,h,k]
def wx(home:Int)(env:List En)(e:Ex)(d:Dv):Ho:=⟨home,e.pos,a8 env,d.ty⟩
theorem c506g{ds:List Dt}{home:Int}{env:List En}(a:Sm env){e:Ex}{d:Dv}:(aC AP).p 506 [.agg [.aq (ds.map Dt.pv),vI home],.aq (env.map En.pv),e.pv,d.pv]=some [(wx home env e d).pv]:=by
 have k:=c182 a;unfold wx;generalize a8 env=s at*;rw[az g506];simp[g506,k]
def HE(d:Dv)(c:List Ex):Bool->Option (aR×St)
 |false=>some (.exit 0,⟨[(3,.au 3 0),(5,.pv (.aq (c.map Ex.pv))),(6,.pv (vI d.inst.length)),(26,.pv (.bool false))],[(3,fK d)],[],[]⟩)
 |true=>some (.ret,⟨[(4,.pv (.bool false))],[],[],[]⟩)
theorem SP{d:Dv}{c:List Ex}(hd:d.Sd):∀(n i:Nat),d.inst.length-i=n->i<=d.inst.length->
   cl AP g474L0 ⟨[(3,.au 3 0),(5,.pv (.aq (c.map Ex.pv))),(6,.pv (vI i))],[(3,fK d)],[],[]⟩=HE d c ((d.inst.drop i).any fun t=>!eF t)
 |0,i,hn,hi=>by
  have:i=d.inst.length:=by omega
  subst this;rw[g474L0e,za1];simp[g474B0,fK,HE]
 |n+1,i,hn,hi=>by
  have hi:i<d.inst.length:=(by omega);obtain⟨x,hx⟩:=aP hi;have a:=c488 (hd.i x (aN hx));have b:=SP (c:=c) hd n (i+1) (by omega) (by omega);have f:=hd.il;rw[aV hx,zcI];generalize ((d.inst.drop (i+1)).any fun t=>!eF t)=R at*;rw[g474L0e]at b⊢;cases e:eF x with
  |true=>
   rw[e]at a;simp at a;rw[Bool.not_true,Bool.false_or,<-b];simp(disch:=omega)[-getElem?_pos,g474B0,fK,hx,hi,a,ah];rw[g474L0e];simp[g474B0,fK]
  |false=>
   rw[e]at a;simp at a;simp(disch:=omega)[-getElem?_pos,g474B0,fK,hx,hi,a,HE]
def HF(d:Dv)(c:List Ex):Bool->Option (aR×St)
 |true=>some (.exit 2,⟨[(3,.au 3 0),(5,.pv (.aq (c.map Ex.pv))),(7,.pv (vI c.length)),(39,.pv (.bool false))],[(3,fK d)],[],[]⟩)
 |false=>some (.ret,⟨[(4,.pv (.bool false))],[],[],[]⟩)
theorem SQ{d:Dv}{c:List Ex}(hl:c.length=d.kids.length)(j:d.kids.length<=1000)(h:∀p∈c.zip d.kids,(aC AP).p 474 [p.1.pv,p.2.pv]=some [.bool (kx p.1 p.2)]):∀(n i:Nat),c.length-i=n->i<=c.length->
   cl AP g474L1 ⟨[(3,.au 3 0),(5,.pv (.aq (c.map Ex.pv))),(7,.pv (vI i))],[(3,fK d)],[],[]⟩=HF d c (((c.zip d.kids).drop i).all fun p=>kx p.1 p.2)
 |0,i,hn,hi=>by
  have:i=c.length:=by omega
  subst this;have e:(c.zip d.kids).drop c.length=[]:=zaX (by rw[zcz];exact zcU _ _);rw[g474L1e,e];simp[g474B1,fK,HF]
 |n+1,i,hn,hi=>by
  have hi:i<c.length:=(by omega);obtain⟨x,hx⟩:=aP hi;obtain⟨y,hy⟩:=aP (l:=d.kids) (i:=i) (by omega);have g:(c.zip d.kids)[i]?=some (x,y):=(by rw[zbR];exact⟨hx,hy⟩);have a:=h (x,y) (aN g);have f:=SQ hl j h n (i+1) (by omega) (by omega);have b:i<d.kids.length:=(by omega);rw[aV g,zaS];simp only at a⊢;generalize (((c.zip d.kids).drop (i+1)).all fun p=>kx p.1 p.2)=R at*;rw[g474L1e]at f⊢;cases e:kx x y with
  |true=>
   rw[e]at a;simp at a;rw[zba,<-f];simp(disch:=omega)[-getElem?_pos,g474B1,fK,hx,hy,hi,b,a,ah];rw[g474L1e];simp[g474B1,fK]
  |false=>
   rw[e]at a;simp at a;simp(disch:=omega)[-getElem?_pos,g474B1,fK,hx,hy,hi,b,a,HF]
theorem c474{e:Ex}(h:e.Ok):∀{d:Dv},d.Sd->(aC AP).p 474 [e.pv,d.pv]=some [.bool (kx e d)]:=by
 induction h with
 | @mk e o s m n r l=>
  intro d hd;have u:=Ex.Ok.mk o s m n r;have a:=c145 u;have f:=c488 hd.t;have q:=hd.il;have i:=hd.kl;have j:=SP (c:=e.ch) hd _ 0 rfl (by omega);rw[zar,g474L0e]at j;rw[Hc];rw[az g474];by_cases hl:e.ch.length=d.kids.length
  ·have L:=SQ hl i (fun p hp=>l p.1 (zcc hp).1 (hd.k _ (zcc hp).2)) _ 0 rfl (by omega);rw[zar,g474L1e]at L;generalize ((e.ch.zip d.kids).all fun p=>kx p.1 p.2)=R at*;generalize (d.inst.any fun t=>!eF t)=b at*;cases e1:eF d.ty<;>rw[e1]at f<;>cases b<;>cases R<;>simp[HE,HF,fK,hl]at a f j L<;>simp[g474,hl,a,f,g474L0e,j,g474L1e,L]
  ·have g:¬(e.ch.length:Int)=d.kids.length:=(by omega);simp at a;simp[g474,hl,g,a]
inductive CU (ds:List Dt):(bD->Prop)->Ex->Prop
 |var {K:bD->Prop} {e:Ex}:e.kind=1->K e.name->CU ds K e
 |dK {K:bD->Prop} {e:Ex}:e.kind=2->(gA ds e.name 0).isSome=true->CU ds K e
 |UT {K:bD->Prop} {e:Ex}:e.kind≠1->e.kind≠2->(e.kind=8->(eL ds e.aF).isSome=true)->(∀(i:Nat)(x:Ex),e.ch[i]?=some x->CU ds (fun s=>K s∨s∈cd e i) x)->CU ds K e
def OQ(ds:List Dt)(K:bD->Prop)(e:Ex)(i:Nat):Prop:=∀(j:Nat)(x:Ex),i<=j->e.ch[j]?=some x->CU ds (fun s=>K s∨s∈cd e j) x
theorem K6{ds:List Dt}{K:bD->Prop}{e:Ex}{i:Nat}{x:Ex}(h:e.ch[i]?=some x):OQ ds K e i<->CU ds (fun s=>K s∨s∈cd e i) x∧OQ ds K e (i+1):=by
 constructor
 ·exact fun q=>⟨q i x (by omega) h,fun j y hj hy=>q j y (by omega) hy⟩
 ·rintro⟨b,a⟩ j y hj hy
  by_cases c:j=i
  ·subst c;rw[h]at hy;cases hy;exact b
  ·exact a j y (by omega) hy
theorem OR{ds:List Dt}{K:bD->Prop}{e:Ex}:OQ ds K e e.ch.length:=by
 intro j x hj hx;have:=(zaa.1 hx).1;omega
theorem HG{ds:List Dt}{K:bD->Prop}{e:Ex}(h:e.kind=1):CU ds K e<->K e.name:=by
 constructor
 ·intro q;cases q with
  |var _ q=>exact q
  |dK q _=>omega
  |UT q _ _ _=>exact absurd h q
 ·exact .var h
theorem HH{ds:List Dt}{K:bD->Prop}{e:Ex}(h:e.kind=2):CU ds K e<->(gA ds e.name 0).isSome=true:=by
 constructor
 ·intro q;cases q with
  |var q _=>omega
  |dK _ q=>exact q
  |UT _ q _ _=>exact absurd h q
 ·exact .dK h
theorem HI{ds:List Dt}{K:bD->Prop}{e:Ex}(h1:e.kind≠1)(h2:e.kind≠2):CU ds K e<->(e.kind=8->(eL ds e.aF).isSome=true)∧OQ ds K e 0:=by
 constructor
 ·intro q;cases q with
  |var q _=>exact absurd q h1
  |dK q _=>exact absurd q h2
  |UT _ _ b a=>exact⟨b,fun j x _ hx=>a j x hx⟩
 ·rintro⟨b,a⟩;exact .UT h1 h2 b fun i x hx=>a i x (by omega) hx
open Classical in
noncomputable def wy(ds:List Dt)(K:bD->Prop)(e:Ex):Bool:=decide (CU ds K e)
open Classical in
noncomputable def Gk(ds:List Dt)(K:bD->Prop)(e:Ex)(i:Nat):Bool:=decide (OQ ds K e i)
theorem CC{ds:List Dt}{K:bD->Prop}{e:Ex}{i:Nat}{x:Ex}(h:e.ch[i]?=some x):Gk ds K e i=(wy ds (fun s=>K s∨s∈cd e i) x && Gk ds K e (i+1)):=by
 rw[zaN];unfold Gk wy;simp only[zaW,zaf];exact K6 h
theorem HJ{ds:List Dt}{K:bD->Prop}{e:Ex}:Gk ds K e e.ch.length=true:=by
 unfold Gk;simp only[zaW];exact OR
theorem HK{ds:List Dt}{K:bD->Prop}{e:Ex}(h:e.kind=1)[Decidable (K e.name)]:wy ds K e=decide (K e.name):=by
 unfold wy;rw[zaN];simp only[zaW];exact HG h
theorem HL{ds:List Dt}{K:bD->Prop}{e:Ex}(h:e.kind=2):wy ds K e=(gA ds e.name 0).isSome:=by
 unfold wy;rw[zaN];simp only[zaW];exact HH h
theorem HM{ds:List Dt}{K:bD->Prop}{e:Ex}(h1:e.kind≠1)(h2:e.kind≠2):wy ds K e=((!decide (e.kind=8)|| (eL ds e.aF).isSome) && Gk ds K e 0):=by
 unfold wy Gk;rw[zaN];simp only[zaW,zaf,zbh,zcl,zbW];rw[HI h1 h2];by_cases h:e.kind=8<;>simp[h]
theorem XS{e:Ex}{i:Nat}{x:Ex}(h:e.ch[i]?=some x):QC e [(i:Int)]=gj (cd e i):=by
 have hi:=(zaa.1 h).1
 have e1:e.at [(i:Int)]=some x:=by
  unfold Ex.at;rw[zak ⟨by omega,by omega⟩,zck,h];simp[Ex.at]
 have e2:e.B9 [(i:Int)]=cd e i:=by
  unfold Ex.B9;rw[zck,h];simp[Ex.B9]
 unfold QC;rw[e1,e2]
theorem xC{s:bD}:∀{l:List bD},s∈gj l<->s∈l
 |[]=>by simp[gj]
 |a::r=>by
  have b:=xC (s:=s) (l:=r);unfold gj;split
  ·rename_i h;rw[b,zah];constructor
   ·exact .inr
   ·rintro(rfl|q)
    ·simpa using h
    ·exact q
  ·rw[zah,zah,b]
theorem vM:∀l:List bD,(gj l).length<=l.length
 |[]=>by simp[gj]
 |a::r=>by
  have b:=vM r;unfold gj;split<;>simp<;>omega
theorem UU{N:List bD}{b:List bD}:(fun s=>s∈N++gj b)=(fun s=>s∈N∨s∈b):=by
 funext s;rw[zai,xC]
theorem UW{N:List bD}{b:List bD}:(fun s=>s∈N++b)=(fun s=>s∈N∨s∈b):=by
 funext s;rw[zai]
def UX(ds:List Dt)(N:List bD)(e:Ex):Option (aR×St):=some (.exit 1,⟨[(0,.pv (.aq (ds.map Dt.pv))),(1,.pv (.aq (N.map .str))),(5,.au 5 0),(45,.pv (.aq (e.ch.map Ex.pv))),(46,.pv (vI e.ch.length)),(47,.pv (vI e.ch.length)),(48,.pv (.bool false))],[(5,e.cl)],[],[]⟩)
noncomputable def CD(ds:List Dt)(N:List bD)(e:Ex)(i:Nat):Option (aR×St):=cl AP g485L0 ⟨[(0,.pv (.aq (ds.map Dt.pv))),(1,.pv (.aq (N.map .str))),(5,.au 5 0),(45,.pv (.aq (e.ch.map Ex.pv))),(46,.pv (vI e.ch.length)),(47,.pv (vI i))],[(5,e.cl)],[],[]⟩
theorem XT{ds:List Dt}{N:List bD}{e:Ex}(f:e.Ok)(h1:e.One)(hl:N.length<=1000000000)(h:∀(i:Nat)(x:Ex),e.ch[i]?=some x->(aC AP).p 485 [.aq (ds.map Dt.pv),.aq ((N++gj (cd e i)).map .str),x.pv]=some [.bool (wy ds (fun s=>s∈N∨s∈cd e i) x)]):∀(n i:Nat),e.ch.length-i=n->i<=e.ch.length->
   (Gk ds (·∈N) e i=true∧CD ds N e i=UX ds N e)∨(Gk ds (·∈N) e i=false∧∃T:aG,CD ds N e i=some (.ret,⟨[(6,.pv (.bool false))],[],[],T⟩))
 |0,i,hn,hi=>by
  have:i=e.ch.length:=by omega
  subst this;refine .inl ⟨HJ,?_⟩;unfold CD;rw[g485L0e];simp[g485B0,Ex.iI,UX]
 |n+1,i,hn,hi=>by
  have hi:i<e.ch.length:=(by omega);obtain⟨x,hx⟩:=aP hi;have d:=h i x hx;have l:=XT f h1 hl h n (i+1) (by omega) (by omega);have m:e.ch.length<=2000:=(by rw[Ex.gZ];have:=f.k;have:=f.a;omega);have g:=c404 f h1 (p:=[(i:Int)]) (by simp);rw[XS hx]at g;rw[CC hx];have r:=vM (cd e i);have o:=ki f (i:=i);have b1:(N.length+(gj (cd e i)).length)*16<=140737488355328:=(by omega);have j:N.length*16<=140737488355328:=(by omega);have c:=sk.len x;have b:=sk.of x;generalize Gk ds (·∈N) e (i+1)=R at*;generalize gj (cd e i)=w at*;rw[zbF]at d;simp at g c b;cases q:wy ds (fun s=>s∈N∨s∈cd e i) x with
  |true=>
   rw[q]at d;rw[zba]
   have e1:CD ds N e i=CD ds N e (i+1):=by
    unfold CD;conv=>lhs;rw[g485L0e]
    conv=>rhs;rw[g485L0e]
    by_cases hN:N=[]<;>by_cases hw:w=[]<;>
    ·simp[hN,hw]at d b1;simp(disch:=omega)[-getElem?_pos,g485B0,Ex.iI,hx,hi,g,d,ah,b1,j,c,b,hN,hw];rw[g485L0e];simp[g485B0,Ex.iI,hN]
   rw[e1];exact l
  |false=>
   rw[q]at d;refine .inr ⟨by rw[zcg],?_⟩;unfold CD;rw[g485L0e];by_cases hN:N=[]<;>by_cases hw:w=[]<;>
   ·simp[hN,hw]at d b1;simp(disch:=omega)[-getElem?_pos,g485B0,Ex.iI,hx,hi,g,d,b1,j,c,b,hN,hw]
theorem c485{ds:List Dt}(hS:Sm ds)(n:∀d∈ds,Sm d.cons){e:Ex}(h:e.Ok):e.One->∀N:List bD,N.length+1000*e.sz<=1000000000->(aC AP).p 485 [.aq (ds.map Dt.pv),.aq (N.map .str),e.pv]=some [.bool (wy ds (·∈N) e)]:=by
 induction h with
 | @mk e u v r t l o=>
  intro h1 N hN;have m:=Ex.Ok.mk u v r t l;rw[az g485];by_cases k:e.kind=1
  ·have c:=c214 (s:=N) (by unfold Sm;omega) (y:=e.name);rw[HK k];simp[g485,k,c]
  ·by_cases g:e.kind=2
   ·have c:=c190 hS n (s:=e.name);rw[HL g];cases q:gA ds e.name 0 with
    |none=>rw[q]at c;simp[rF]at c;simp[g485,g,c]
    |some y=>rw[q]at c;obtain⟨a,b⟩:=y;simp[rF]at c;simp[g485,g,c]
   ·rw[HM k g]
    have L:=XT (ds:=ds) m h1 (N:=N) (by omega) (fun i x hx=>by
     have:=Ex.Gd (aN hx);have hl:=vM (cd e i);have w:=ki m (i:=i);have q:=o x (aN hx) (h1.c x (aN hx)) (N++gj (cd e i)) (by rw[zan];omega);rw[UU]at q;exact q) _ 0 rfl (by omega)
    have j:=c414 m;simp at j;unfold CD UX at L;rw[g485L0e]at L;simp[Ex.iI]at L;generalize Gk ds (·∈N) e 0=R at*;by_cases f:e.kind=8
    ·have c:=c407 hS n (as:=e.aF);cases q:eL ds e.aF with
     |none=>rw[q]at c;simp[gS]at c;simp[g485,f,c]
     |some y=>
      rw[q]at c;simp[gS]at c;simp[f]at L j;rcases L with⟨rfl,L⟩|⟨rfl,T,L⟩
      ·simp[g485,f,c,j,g485L0e,L]
      ·simp[g485,f,c,j,g485L0e,L]
    ·rcases L with⟨rfl,L⟩|⟨rfl,T,L⟩
     ·simp[g485,k,g,f,j,g485L0e,L]
     ·simp[g485,k,g,f,j,g485L0e,L]
theorem SS{N:List bD}{e:Ex}(hl:N.length<=1000000000):∀(n i:Nat),N.length-i=n->i<=N.length->
   (e.name∈N.drop i∧cl AP g475L0 ⟨[(1,.pv (.aq (N.map .str))),(5,.au 5 0),(7,.pv (vI i))],[(5,e.cl)],[],[]⟩=some (.ret,⟨[(6,.pv (.bool true))],[],[],[]⟩))∨
   (e.name∉N.drop i∧cl AP g475L0 ⟨[(1,.pv (.aq (N.map .str))),(5,.au 5 0),(7,.pv (vI i))],[(5,e.cl)],[],[]⟩=some (.exit 1,⟨[(1,.pv (.aq (N.map .str))),(5,.au 5 0),(7,.pv (vI N.length)),(22,.pv (.bool false))],[(5,e.cl)],[],[]⟩))
 |0,i,hn,hi=>by
  have:i=N.length:=by omega
  subst this;refine .inr ⟨by simp,?_⟩;rw[g475L0e];simp[g475B0,Ex.iI]
 |n+1,i,hn,hi=>by
  have hi:i<N.length:=(by omega);obtain⟨x,hx⟩:=aP hi;have a:=SS (e:=e) hl n (i+1) (by omega) (by omega);rw[aV hx,zah];by_cases q:x=e.name
  ·refine .inl ⟨.inl q.symm,?_⟩;rw[g475L0e];simp(disch:=omega)[-getElem?_pos,g475B0,Ex.iI,hx,hi,q]
  ·have e1:cl AP g475L0 ⟨[(1,.pv (.aq (N.map .str))),(5,.au 5 0),(7,.pv (vI i))],[(5,e.cl)],[],[]⟩=cl AP g475L0 ⟨[(1,.pv (.aq (N.map .str))),(5,.au 5 0),(7,.pv (vI (i+1:Nat)))],[(5,e.cl)],[],[]⟩:=by
    conv=>lhs;rw[g475L0e]
    conv=>rhs;rw[g475L0e]
    simp (disch:=omega) [-getElem?_pos,g475B0,Ex.iI,hx,hi,q,ah];rw[g475L0e];simp[g475B0,Ex.iI]
   rw[e1];rcases a with⟨h1,h2⟩|⟨h1,h2⟩
   ·exact .inl ⟨.inr h1,h2⟩
   ·exact .inr ⟨by rintro(h|h);exact q h.symm;exact h1 h,h2⟩
noncomputable def zE(ds:List Dt)(N:List bD)(e:Ex)(i:Nat):Option (aR×St):=cl AP g475L1 ⟨[(0,.pv (.aq (ds.map Dt.pv))),(1,.pv (.aq (N.map .str))),(5,.au 5 0),(13,.pv (.aq (e.ch.map Ex.pv))),(14,.pv (vI i))],[(5,e.cl)],[],[]⟩
theorem SU{ds:List Dt}{N:List bD}{e:Ex}(f:e.Ok)(h1:e.One)(hl:N.length<=1000000000)(h:∀(i:Nat)(x:Ex),e.ch[i]?=some x->(aC AP).p 475 [.aq (ds.map Dt.pv),.aq ((N++cd e i).map .str),x.pv]=some [.bool (wy ds (fun s=>s∈N∨s∈cd e i) x)]):∀(n i:Nat),e.ch.length-i=n->i<=e.ch.length->
   (Gk ds (·∈N) e i=true∧zE ds N e i=some (.exit 3,⟨[(0,.pv (.aq (ds.map Dt.pv))),(1,.pv (.aq (N.map .str))),(5,.au 5 0),(13,.pv (.aq (e.ch.map Ex.pv))),(14,.pv (vI e.ch.length)),(59,.pv (.bool false))],[(5,e.cl)],[],[]⟩))∨(Gk ds (·∈N) e i=false∧∃T:aG,zE ds N e i=some (.ret,⟨[(6,.pv (.bool false))],[],[],T⟩))
 |0,i,hn,hi=>by
  have:i=e.ch.length:=by omega
  subst this;refine .inl ⟨HJ,?_⟩;unfold zE;rw[g475L1e];simp[g475B1,Ex.iI]
 |n+1,i,hn,hi=>by
  have hi:i<e.ch.length:=(by omega);obtain⟨x,hx⟩:=aP hi;have d:=h i x hx;have m:=SU f h1 hl h n (i+1) (by omega) (by omega);have o:e.ch.length<=2000:=(by rw[Ex.gZ];have:=f.k;have:=f.a;omega);have j:=c380 hi h1.h f;rw[CC hx];have r:=ki f (i:=i);have b1:(N.length+(cd e i).length)*16<=140737488355328:=(by omega);have l:N.length*16<=140737488355328:=(by omega);have c:=sk.len x;have b:=sk.of x;generalize Gk ds (·∈N) e (i+1)=R at*;cases q:wy ds (fun s=>s∈N∨s∈cd e i) x with
  |true=>
   rw[q]at d;rw[zba];generalize cd e i=w at*;rw[zbF]at d;simp at j c b
   have e1:zE ds N e i=zE ds N e (i+1):=by
    generalize g:zE ds N e (i+1)=t;unfold zE at g⊢;rw[g475L1e]at g⊢;by_cases hN:N=[]<;>by_cases hw:w=[]<;>
    ·simp[hN,hw]at d b1;simp[Ex.iI,hN]at g;simp(disch:=omega)[-getElem?_pos,g475B1,Ex.iI,hx,hi,j,d,ah,b1,l,c,b,hN,hw];rw[g475L1e];simp[Ex.iI,hN,g]
   rw[e1];exact m
  |false=>
   rw[q]at d;refine .inr ⟨by rw[zcg],?_⟩;generalize cd e i=w at*;rw[zbF]at d;simp at j c b;unfold zE;rw[g475L1e];by_cases hN:N=[]<;>by_cases hw:w=[]<;>
   ·simp[hN,hw]at d b1;simp(disch:=omega)[-getElem?_pos,g475B1,Ex.iI,hx,hi,j,d,b1,l,c,b,hN,hw]
theorem c475{ds:List Dt}(hS:Sm ds)(u:∀d∈ds,Sm d.cons){e:Ex}(h:e.Ok):e.One->∀N:List bD,N.length+1000*e.sz<=1000000000->(aC AP).p 475 [.aq (ds.map Dt.pv),.aq (N.map .str),e.pv]=some [.bool (wy ds (·∈N) e)]:=by
 induction h with
 | @mk e t v o r l n=>
  intro h1 N hN;have m:=Ex.Ok.mk t v o r l;rw[az g475];by_cases j:e.kind=1
  ·rw[HK j];have L:=SS (e:=e) (N:=N) (by omega) _ 0 rfl (by omega);rw[zar,g475L0e]at L;simp[Ex.iI,j]at L;rcases L with⟨q,L⟩|⟨q,L⟩<;>simp[g475,j,q,g475L0e,L]
  ·by_cases g:e.kind=2
   ·have c:=c191 hS u (s:=e.name);rw[HL g];cases q:gA ds e.name 0 with
    |none=>rw[q]at c;simp[rF]at c;simp[g475,g,c]
    |some y=>rw[q]at c;obtain⟨a,b⟩:=y;simp[rF]at c;simp[g475,g,c]
   ·rw[HM j g]
    have L:=SU (ds:=ds) m h1 (N:=N) (by omega) (fun i x hx=>by
     have:=Ex.Gd (aN hx);have w:=ki m (i:=i);have q:=n x (aN hx) (h1.c x (aN hx)) (N++cd e i) (by rw[zan];omega);rw[UW]at q;exact q) _ 0 rfl (by omega)
    have k:=c145 m;simp at k;unfold zE at L;rw[g475L1e]at L;simp[Ex.iI]at L;generalize Gk ds (·∈N) e 0=R at*;by_cases f:e.kind=8
    ·have c:=c390 hS (as:=e.aF) (by unfold Sm;omega);cases q:eL ds e.aF with
     |none=>rw[q]at c;simp[gS]at c;simp[g475,f,c]
     |some y=>
      rw[q]at c;simp[gS]at c;simp[f]at L k;rcases L with⟨rfl,L⟩|⟨rfl,T,L⟩
      ·simp[g475,f,c,k,g475L1e,L]
      ·simp[g475,f,c,k,g475L1e,L]
    ·rcases L with⟨rfl,L⟩|⟨rfl,T,L⟩
     ·simp[g475,j,g,f,k,g475L1e,L]
     ·simp[g475,j,g,f,k,g475L1e,L]
def kE(d:Dv)(i:Nat):Dv:=d.kids[i]?.getD default
def sB(e:Ex)(i:Nat):Ex:=e.kids[i]?.getD default
def iC(env:List En)(vs:List bD)(fs:List Ty):List En:=env++(vs.zip fs).map fun p=>⟨p.1,⟨0,p.2⟩⟩
noncomputable def iD(f:List En->Ex->Dv->Option (List Rd))(ds:List Dt)(env:List En)(d:Dv):List Ar->Nat->List Rd->Option (List Rd)
 |[],_,l=>some l
 |a::r,k,l=>match fieldsOf ds a.dK d.inst with
  |none=>none
  |some fs=>if fs.length=a.vars.length∧(kE d k).ty=d.ty then
   match f (iC env a.vars fs) a.body (kE d k)with
   |some m=>iD f ds env d r (k+1) (l++m)
   |none=>none
    else none
noncomputable def aJ(ds:List Dt)(home:Int):Nat->List En->Ex->Dv->Option (List Rd)
 |0,_,_,_=>none
 |n+1,env,e,d=>
  if (e.kind≠6∧e.kind≠7∧d.gen≠[])∨(e.kind≠1∧e.kind≠2∧e.kind≠8∧d.inst≠[])then none
  else if e.kind=1 then match m8 env e.name with
   |some c=>if jy c d=true then some []else none
   |none=>none
  else if e.kind=2 then match gm ds e.name with
   |some c=>if jy c d=true then some []else none
   |none=>none
  else if e.kind=3 then if d.ty=bj then some []else none
  else if e.kind=4 then match ky d.ty with
   |some (a,b)=>if b=(kE d 0).ty then aJ ds home n (env++[⟨e.name,⟨0,a⟩⟩]) (sB e 0) (kE d 0)else none
   |none=>none
  else if e.kind=5 then
   if (kE d 0).ty=ek (kE d 1).ty d.ty then
    match aJ ds home n env (sB e 0) (kE d 0),aJ ds home n env (sB e 1) (kE d 1)with
    |some l,some m=>some (l++m)
    |_,_=>none
   else none
  else if e.kind=6∨e.kind=7 then
   match aJ ds home n (if e.kind=7 then env++[⟨e.name,⟨0,(kE d 0).ty⟩⟩]else env) (sB e 0) (kE d 0)with
   |none=>none
   |some l=>if kv d.gen (vars [(kE d 0).ty]) (dt env++vars (aU (l.map Rd.h))) 0=true∧d.ty=(kE d 1).ty then
    match aJ ds home n (env++[⟨e.name,dB d.gen (kE d 0).ty (vars [(kE d 0).ty])⟩]) (sB e 1) (kE d 1)with
    |some m=>some (l++m)
    |none=>none
     else none
  else if e.kind=8 then match eL ds e.aF with
   |none=>none
   |some i=>match ds[i]? with
    |none=>none
    |some D=>if d.inst.length=D.params.length∧(kE d 0).ty=⟨4,D.name,0,0,d.inst⟩then
     match aJ ds home n env (sB e 0) (kE d 0)with
     |some l=>iD (aJ ds home n) ds env d e.aF 1 l
     |none=>none
      else none
  else if e.kind=9 then if d.ty=e.ty∧d.ty=(kE d 0).ty then aJ ds home n env (sB e 0) (kE d 0)else none
  else if e.kind=10 then some [⟨wx home env e d,false⟩]
  else if e.kind=11 then if d.ty=(kE d 0).ty then
   match aJ ds home n env (sB e 0) (kE d 0)with
   |some l=>some (l++[⟨wx home env e d,true⟩])
   |none=>none
    else none
  else none
theorem c202d{c:Sc}(a:c.ty.Ok){l:List Ty}(hl:Sm l):(aC AP).p 202 [c.pv,.aq (l.map Ty.pv)]=some (if c.id=l.length then[(c.ty.fQ l).pv,.bool true]else[ca.pv,.bool false]):=by
 have k:=c48 hl a;rw[az g202];by_cases h:c.id=l.length
 ·rw[zak h];simp at k;simp[g202,h,k]
 ·rw[zad h];have h':¬(l.length:Int)=c.id:=fun q=>h q.symm
  simp[g202,h,h',ca]
def Ck(g:Nat)(ds:List Dt)(home:Int)(args:List AV)(fit:Option (List Rd))(N:Nat):Prop:=∀(out:List Ho)(hd:List Bool),out.length+N<=1000000->hd.length+N<=1000000->∃(b:Bool)(out':List Ho)(a:List Bool),
 (aC AP).i g (.aI 0 0::args) [some (dw ds home out hd)] [out.length,hd.length]=some ([.pv (.bool b)],[some (dw ds home out' a)],[out'.length,a.length])∧
 (∀l,fit=some l->b=true∧out'=out++l.map Rd.h∧a=hd++l.map Rd.b)∧(fit=none->b=false)∧out'.length<=out.length+N∧a.length<=hd.length+N
theorem vN{ds:List Dt}{home:Int}{n:Nat}{env:List En}{e:Ex}{d:Dv}(h:(e.kind≠6∧e.kind≠7∧d.gen≠[])∨(e.kind≠1∧e.kind≠2∧e.kind≠8∧d.inst≠[])):aJ ds home (n+1) env e d=none:=by
 rw[aJ,zak h]
theorem lb{ds:List Dt}{home:Int}{n:Nat}{env:List En}{e:Ex}{d:Dv}(h:(e.kind≠6∧e.kind≠7∧d.gen≠[])∨(e.kind≠1∧e.kind≠2∧e.kind≠8∧d.inst≠[])):Ck 477 ds home [.pv (.aq (env.map En.pv)),.pv e.pv,.pv d.pv] (aJ ds home (n+1) env e d) 1:=by
 intro out hd _ _;refine⟨false,out,hd,?_,?_,fun _=>rfl,by omega,by omega⟩
 ·rw[aA g477];rcases h with⟨h1,h2,h3⟩|⟨h1,h2,h3,h4⟩
  ·have hl:0<d.gen.length:=zaP.2 h3;simp[g477,dw,h1,h2,h3,hl]
  ·have hl:0<d.inst.length:=zaP.2 h4;by_cases q:e.kind=6∨e.kind=7
   ·rcases q with q|q<;>simp[g477,dw,q,h4,hl]
   ·have f:¬e.kind=6:=fun z=>q (.inl z);have c:¬e.kind=7:=fun z=>q (.inr z)
    by_cases b:d.gen=[]
    ·simp[g477,dw,f,c,h1,h2,h3,h4,hl,b]
    ·have a:0<d.gen.length:=zaP.2 b;simp[g477,dw,f,c,b,a]
 ·rw[vN h];intro l q;cases q
theorem Z6{ds:List Dt}{home:Int}{n:Nat}{env:List En}{e:Ex}{d:Dv}(j:e.kind=3)(hd:d.Sd):Ck 477 ds home [.pv (.aq (env.map En.pv)),.pv e.pv,.pv d.pv] (aJ ds home (n+1) env e d) 1:=by
 by_cases c:(e.kind≠6∧e.kind≠7∧d.gen≠[])∨(e.kind≠1∧e.kind≠2∧e.kind≠8∧d.inst≠[])
 ·exact lb c
 ·have m:d.gen=[]:=by
   by_cases q:d.gen=[]
   ·exact q
   ·exact absurd (.inl ⟨by omega,by omega,q⟩) c
  have hi:d.inst=[]:=by
   by_cases q:d.inst=[]
   ·exact q
   ·exact absurd (.inr ⟨by omega,by omega,by omega,q⟩) c
  intro out f _ _;have i:=c34;have g:=c20 (a:=d.ty) (b:=bj) hd.t.ok
  have k:aJ ds home (n+1) env e d=if d.ty=bj then some []else none:=by
   rw[aJ,zad c,zad (by omega),zad (by omega),zak j]
  refine⟨decide (d.ty=bj),out,f,?_,?_,?_,by omega,by omega⟩
  ·generalize decide (d.ty=bj)=b at*;simp[bj]at i g;rw[aA g477];simp[g477,dw,j,m,hi,i,g]
  ·rw[k];intro l q;split at q
   ·rename_i h;cases q;simp[h]
   ·cases q
  ·rw[k];intro q;split at q
   ·cases q
   ·rename_i h;simp[h]
theorem dC{e:Ex}{d:Dv}(a:¬((e.kind≠6∧e.kind≠7∧d.gen≠[])∨(e.kind≠1∧e.kind≠2∧e.kind≠8∧d.inst≠[]))):(e.kind≠6->e.kind≠7->d.gen=[])∧(e.kind≠1->e.kind≠2->e.kind≠8->d.inst=[]):=by
 refine⟨fun h1 h2=>?_,fun h1 h2 h3=>?_⟩
 ·by_cases q:d.gen=[]
  ·exact q
  ·exact absurd (.inl ⟨h1,h2,q⟩) a
 ·by_cases q:d.inst=[]
  ·exact q
  ·exact absurd (.inr ⟨h1,h2,h3,q⟩) a
theorem Y3{ds:List Dt}{home:Int}{n:Nat}{env:List En}{e:Ex}{d:Dv}(c:e.kind=10)(i:Sm env):Ck 477 ds home [.pv (.aq (env.map En.pv)),.pv e.pv,.pv d.pv] (aJ ds home (n+1) env e d) 1:=by
 by_cases g:(e.kind≠6∧e.kind≠7∧d.gen≠[])∨(e.kind≠1∧e.kind≠2∧e.kind≠8∧d.inst≠[])
 ·exact lb g
 ·obtain⟨f,hi⟩:=dC g;have f:=f (by omega) (by omega);have hi:=hi (by omega) (by omega) (by omega);intro out a j k;have b:=c491 (ds:=ds) (home:=home) (out:=out) (hd:=a) i e d (by omega) (by omega)
  have h:aJ ds home (n+1) env e d=some [⟨wx home env e d,false⟩]:=by
   rw[aJ,zad g];simp[c]
  refine⟨true,out++[wx home env e d],a++[false],?_,?_,?_,by simp,by simp⟩
  ·have hf:(e.kind == 11)=false:=(by rw[c];rfl);rw[hf]at b
   change _=some ([],[some (dw ds home (out++[wx home env e d]) (a++[false]))],_)at b
   generalize wx home env e d=H at*;simp[dw,c,f,hi]at b;rw[aA g477];simp[g477,dw,c,f,hi,b]
  ·rw[h];intro l q;cases q;simp
  ·rw[h];intro q;cases q
theorem Z7{ds:List Dt}{home:Int}{n:Nat}{env:List En}{e:Ex}{d:Dv}(j:e.kind=1)(w:Sm env)(hd:d.Sd){c:Sc}(p:m8 env e.name=some c)(v:c.ty.Ok)(t:(c.ty.fQ d.inst).Ok):Ck 477 ds home [.pv (.aq (env.map En.pv)),.pv e.pv,.pv d.pv] (aJ ds home (n+1) env e d) 1:=by
 by_cases m:(e.kind≠6∧e.kind≠7∧d.gen≠[])∨(e.kind≠1∧e.kind≠2∧e.kind≠8∧d.inst≠[])
 ·exact lb m
 ·obtain⟨i,_⟩:=dC m;have i:=i (by omega) (by omega);intro out k _ _;have g:=c181 w (s:=e.name);have hl:=hd.il;have f:=c202d v (l:=d.inst) (by unfold Sm;omega);have o:=c20 (a:=c.ty.fQ d.inst) (b:=d.ty) t
  have r:aJ ds home (n+1) env e d=if jy c d=true then some []else none:=by
   rw[aJ,zad m,zak j,p]
  rw[p]at g;refine⟨jy c d,out,k,?_,?_,?_,by omega,by omega⟩
  ·unfold jy;rw[aA g477];by_cases h:c.id=d.inst.length
   ·rw[zak h]at f;generalize decide (c.ty.fQ d.inst=d.ty)=b at*;generalize c.ty.fQ d.inst=u at*;simp[ta,h]at g f o;simp[g477,dw,j,i,g,f,o,h]
   ·rw[zad h]at f;simp[ta,ca]at g f;simp[g477,dw,j,i,g,f,h]
  ·rw[r];intro l q;split at q
   ·rename_i h;cases q;simp[h]
   ·cases q
  ·rw[r];intro q;split at q
   ·cases q
   ·rename_i h;simpa using h
structure Y4(ds:List Dt):Prop where
 sm:Sm ds
 dK:∀d∈ds,Sm d.cons
 par:∀d∈ds,Sm d.params
 R7:∀d∈ds,∀c∈d.cons,Sm c.fields∧(∀x∈c.fields,x.Ok)∧(∀x∈c.fields,x.Cw)
theorem Z8{ds:List Dt}(D:Y4 ds){home:Int}{n:Nat}{env:List En}{e:Ex}{d:Dv}(k:e.kind=2)(B:Sm env)(hd:d.Sd){c:Sc}(t:gm ds e.name=some c)(A:c.ty.Ok)(y:(c.ty.fQ d.inst).Ok):Ck 477 ds home [.pv (.aq (env.map En.pv)),.pv e.pv,.pv d.pv] (aJ ds home (n+1) env e d) 1:=by
 by_cases o:(e.kind≠6∧e.kind≠7∧d.gen≠[])∨(e.kind≠1∧e.kind≠2∧e.kind≠8∧d.inst≠[])
 ·exact lb o
 ·obtain⟨j,_⟩:=dC o;have j:=j (by omega) (by omega);intro out m _ _;have g:=c181 B (s:=e.name);have i:=c193 D.sm D.dK D.par D.R7 (s:=e.name);have hl:=hd.il;have f:=c202d A (l:=d.inst) (by unfold Sm;omega);have r:=c20 (a:=c.ty.fQ d.inst) (b:=d.ty) y
  have v:aJ ds home (n+1) env e d=if jy c d=true then some []else none:=by
   rw[aJ,zad o,zad (by omega),zak k,t]
  rw[t]at i;refine⟨jy c d,out,m,?_,?_,?_,by omega,by omega⟩
  ·unfold jy;generalize m8 env e.name=z at*;have w:∃p:Sc,z.getD ee=p:=⟨_,rfl⟩;obtain⟨p,x⟩:=w;unfold ta at g;rw[x]at g;rw[aA g477];by_cases h:c.id=d.inst.length
   ·rw[zak h]at f;generalize decide (c.ty.fQ d.inst=d.ty)=b at*;generalize c.ty.fQ d.inst=u at*;simp[ta,h]at g i f r;simp[g477,dw,k,j,g,i,f,r,h]
   ·rw[zad h]at f;simp[ta,ca]at g i f;simp[g477,dw,k,j,g,i,f,h]
  ·rw[v];intro l q;split at q
   ·rename_i h;cases q;simp[h]
   ·cases q
  ·rw[v];intro q;split at q
   ·cases q
   ·rename_i h;simpa using h
theorem Z9{ds:List Dt}{home:Int}{n N:Nat}{env:List En}{e x:Ex}{d y:Dv}(m:e.kind=9)(p:e.kids=[x])(hy:d.kids=[y])(hd:d.Sd)(hN:1<=N)(C:Ck 477 ds home [.pv (.aq (env.map En.pv)),.pv x.pv,.pv y.pv] (aJ ds home n env x y) N):
   Ck 477 ds home [.pv (.aq (env.map En.pv)),.pv e.pv,.pv d.pv] (aJ ds home (n+1) env e d) N:=by
 by_cases s:(e.kind≠6∧e.kind≠7∧d.gen≠[])∨(e.kind≠1∧e.kind≠2∧e.kind≠8∧d.inst≠[])
 ·intro out c h1 h2;obtain⟨b,o,h,k,r,q,v,u⟩:=lb (ds:=ds) (home:=home) (n:=n) (env:=env) s out c (by omega) (by omega);exact⟨b,o,h,k,r,q,by omega,by omega⟩
 ·obtain⟨j,hi⟩:=dC s;have j:=j (by omega) (by omega);have hi:=hi (by omega) (by omega) (by omega);intro out c w A;have f:=c20 (a:=d.ty) (b:=e.ty) hd.t.ok;have g:=c20 (a:=d.ty) (b:=y.ty) hd.t.ok
  have B:aJ ds home (n+1) env e d=if d.ty=e.ty∧d.ty=y.ty then aJ ds home n env x y else none:=by
   rw[aJ,zad s];simp[m,kE,sB,p,hy]
  obtain⟨b,o,h,k,r,q,v,u⟩:=C out c w A;rw[B];by_cases t1:d.ty=e.ty
  ·by_cases i:d.ty=y.ty
   ·rw[zak ⟨t1,i⟩];refine⟨b,o,h,?_,r,q,v,u⟩;rw[zaG t1]at f;rw[zaG i]at g;have e1:y.ty=d.ty:=i.symm;have e2:e.ty=d.ty:=t1.symm;simp[dw,e1,e2]at f g k;rw[aA g477];cases b<;>simp[g477,dw,m,j,hi,p,hy,f,g,k,e1,e2]
   ·rw[zad (fun z=>i z.2)];refine⟨false,out,c,?_,fun l z=>by(cases z),fun _=>rfl,by omega,by omega⟩;rw[zaG t1]at f;rw[zaC i]at g;simp[dw]at f g;rw[aA g477];simp[g477,dw,m,j,hi,p,hy,f,g]
  ·rw[zad (fun z=>t1 z.1)];refine⟨false,out,c,?_,fun l z=>by(cases z),fun _=>rfl,by omega,by omega⟩;rw[zaC t1]at f;simp[dw]at f;rw[aA g477];simp[g477,dw,m,j,hi,p,hy,f]
theorem Z_{ds:List Dt}{home:Int}{n N:Nat}{env:List En}{e x:Ex}{d y:Dv}(p:e.kind=4)(q:e.kids=[x])(hy:d.kids=[y])(hd:d.Sd)(I:Sm env)(hN:1<=N)(A:∀a b,ky d.ty=some (a,b)->b.Ok∧Ck 477 ds home [.pv (.aq ((env++[(⟨e.name,⟨0,a⟩⟩:En)]).map En.pv)),.pv x.pv,.pv y.pv] (aJ ds home n (env++[⟨e.name,⟨0,a⟩⟩]) x y) N):
   Ck 477 ds home [.pv (.aq (env.map En.pv)),.pv e.pv,.pv d.pv] (aJ ds home (n+1) env e d) N:=by
 by_cases v:(e.kind≠6∧e.kind≠7∧d.gen≠[])∨(e.kind≠1∧e.kind≠2∧e.kind≠8∧d.inst≠[])
 ·intro out f h1 h2;obtain⟨b,o,h,m,u,s,C,B⟩:=lb (ds:=ds) (home:=home) (n:=n) (env:=env) v out f (by omega) (by omega);exact⟨b,o,h,m,u,s,by omega,by omega⟩
 ·obtain⟨k,hi⟩:=dC v;have k:=k (by omega) (by omega);have hi:=hi (by omega) (by omega) (by omega);intro out f G H;have g:=c194h (t:=d.ty)
  have J:aJ ds home (n+1) env e d=match ky d.ty with
   |some (a,b)=>if b=y.ty then aJ ds home n (env++[⟨e.name,⟨0,a⟩⟩]) x y else none
   |none=>none:=by
   rw[aJ,zad v];simp[p,kE,sB,q,hy]<;>cases ky d.ty<;>rfl
  rw[J];cases w:ky d.ty with
  |none=>
   refine⟨false,out,f,?_,fun l z=>by(cases z),fun _=>rfl,by omega,by omega⟩;rw[w]at g;simp[CS,ca]at g;rw[aA g477];simp[g477,dw,p,k,hi,q,hy,g]
  |some L=>
   obtain⟨a,b⟩:=L;obtain⟨K,A⟩:=A a b w;rw[w]at g;have i:=c20 (a:=b) (b:=y.ty) K;have E:=c176 (t:=a);have D:=c179 I (n:=e.name) (c:=⟨0,a⟩);obtain⟨r,o,h,m,u,s,C,B⟩:=A out f G H;simp only;by_cases j:b=y.ty
   ·rw[zak j];refine⟨r,o,h,?_,u,s,C,B⟩;rw[zaG j]at i;have e1:y.ty=b:=j.symm;generalize env++[⟨e.name,⟨0,a⟩⟩]=F at*;simp[dw,e1,CS]at g i E D m;rw[aA g477];cases r<;>simp[g477,dw,p,k,hi,q,hy,g,i,E,D,m,e1]
   ·rw[zad j];refine⟨false,out,f,?_,fun l z=>by(cases z),fun _=>rfl,by omega,by omega⟩;rw[zaC j]at i;simp[dw,CS]at g i;rw[aA g477];simp[g477,dw,p,k,hi,q,hy,g,i]
theorem Y5{ds:List Dt}{home:Int}{n N:Nat}{env:List En}{e x:Ex}{d y:Dv}(i:e.kind=11)(k:e.kids=[x])(hy:d.kids=[y])(hd:d.Sd)(A:Sm env)(C:Ck 477 ds home [.pv (.aq (env.map En.pv)),.pv x.pv,.pv y.pv] (aJ ds home n env x y) N):
   Ck 477 ds home [.pv (.aq (env.map En.pv)),.pv e.pv,.pv d.pv] (aJ ds home (n+1) env e d) (N+1):=by
 by_cases u:(e.kind≠6∧e.kind≠7∧d.gen≠[])∨(e.kind≠1∧e.kind≠2∧e.kind≠8∧d.inst≠[])
 ·intro out c h1 h2;obtain⟨b,o,h,g,p,s,w,v⟩:=lb (ds:=ds) (home:=home) (n:=n) (env:=env) u out c (by omega) (by omega);exact⟨b,o,h,g,p,s,by omega,by omega⟩
 ·obtain⟨j,hi⟩:=dC u;have j:=j (by omega) (by omega);have hi:=hi (by omega) (by omega) (by omega);intro out c D E;have f:=c20 (a:=d.ty) (b:=y.ty) hd.t.ok
  have B:aJ ds home (n+1) env e d=if d.ty=y.ty then(match aJ ds home n env x y with|some l=>some (l++[⟨wx home env e d,true⟩])|none=>none)else none:=by
   rw[aJ,zad u];simp[i,kE,sB,k,hy]<;>cases aJ ds home n env x y<;>rfl
  obtain⟨b,o,h,g,p,s,w,v⟩:=C out c (by omega) (by omega);have r:=c491 (ds:=ds) (home:=home) (out:=o) (hd:=h) A e d (by omega) (by omega);have hf:(e.kind == 11)=true:=by rw[i];rfl
  rw[hf]at r
  change _=some ([],[some (dw ds home (o++[wx home env e d]) (h++[true]))],_)at r
  rw[B];by_cases t1:d.ty=y.ty
  ·rw[zak t1];rw[zaG t1]at f;have e1:y.ty=d.ty:=t1.symm;cases b with
   |false=>
    have fn:aJ ds home n env x y=none:=by
     cases q:aJ ds home n env x y with
     |none=>rfl
     |some l=>have:=(p l q).1;cases this
    rw[fn];refine⟨false,o,h,?_,fun l z=>by(cases z),fun _=>rfl,by omega,by omega⟩;simp[dw,e1]at f g;rw[aA g477];simp[g477,dw,i,j,hi,k,hy,f,g,e1]
   |true=>
    refine⟨true,o++[wx home env e d],h++[true],?_,?_,?_,by simp;omega,by simp;omega⟩
    ·generalize wx home env e d=H at*;simp[dw,e1,i,j,hi,k,hy]at f r g;rw[aA g477];simp[g477,dw,i,j,hi,k,hy,f,g,r,e1]
    ·intro l z;cases q:aJ ds home n env x y with
     |none=>rw[q]at z;cases z
     |some m=>
      rw[q]at z;cases z;obtain⟨_,r2,r3⟩:=p m q;subst r2;subst r3;simp
    ·intro z;cases q:aJ ds home n env x y with
     |none=>exact s q
     |some m=>rw[q]at z;cases z
  ·rw[zad t1];refine⟨false,out,c,?_,fun l z=>by(cases z),fun _=>rfl,by omega,by omega⟩;rw[zaC t1]at f;simp[dw]at f;rw[aA g477];simp[g477,dw,i,j,hi,k,hy,f]
theorem Z'{ds:List Dt}{home:Int}{n y E:Nat}{env:List En}{e i x1:Ex}{d c f:Dv}(u:e.kind=5)(v:e.kids=[i,x1])(hy:d.kids=[c,f])(K:c.ty.Ok)(hN:1<=y)(B:Ck 477 ds home [.pv (.aq (env.map En.pv)),.pv i.pv,.pv c.pv] (aJ ds home n env i c) y)(A:Ck 477 ds home [.pv (.aq (env.map En.pv)),.pv x1.pv,.pv f.pv] (aJ ds home n env x1 f) E):
   Ck 477 ds home [.pv (.aq (env.map En.pv)),.pv e.pv,.pv d.pv] (aJ ds home (n+1) env e d) (y+E):=by
 by_cases x:(e.kind≠6∧e.kind≠7∧d.gen≠[])∨(e.kind≠1∧e.kind≠2∧e.kind≠8∧d.inst≠[])
 ·intro out g h1 h2;obtain⟨b,o,h,p,t,w,J,I⟩:=lb (ds:=ds) (home:=home) (n:=n) (env:=env) x out g (by omega) (by omega);exact⟨b,o,h,p,t,w,by omega,by omega⟩
 ·obtain⟨s,hi⟩:=dC x;have s:=s (by omega) (by omega);have hi:=hi (by omega) (by omega) (by omega);intro out g N O;have r:=c69 (a:=f.ty) (b:=d.ty);have j:=c20 (a:=c.ty) (b:=ek f.ty d.ty) K
  have L:aJ ds home (n+1) env e d=if c.ty=ek f.ty d.ty then(match aJ ds home n env i c with|some l=>(match aJ ds home n env x1 f with|some m=>some (l++m)|none=>none)|none=>none)else none:=by
   rw[aJ,zad x];simp[u,kE,sB,v,hy]<;>cases aJ ds home n env i c<;>first|rfl|(cases aJ ds home n env x1 f<;>rfl)
  rw[L];by_cases t1:c.ty=ek f.ty d.ty
  ·rw[zak t1];rw[zaG t1]at j;obtain⟨b,o,h,p,t,w,J,I⟩:=B out g (by omega) (by omega);simp[dw,ek]at r j p;cases b with
   |false=>
    have fn:aJ ds home n env i c=none:=by
     cases q:aJ ds home n env i c with
     |none=>rfl
     |some l=>have:=(t l q).1;cases this
    rw[fn];refine⟨false,o,h,?_,fun l z=>by(cases z),fun _=>rfl,by omega,by omega⟩;rw[aA g477];simp[g477,dw,u,s,hi,v,hy,r,j,p]
   |true=>
    cases C:aJ ds home n env i c with
    |none=>have:=w C;cases this
    |some l=>
     obtain⟨_,r2,r3⟩:=t l C;obtain⟨D,o',h',p1,p2,p3,p4,M⟩:=A o h (by omega) (by omega);simp only;refine⟨D,o',h',?_,?_,?_,by omega,by omega⟩
     ·simp[dw]at p1;rw[aA g477];cases D<;>simp[g477,dw,u,s,hi,v,hy,r,j,p,p1]
     ·intro z k;cases f1:aJ ds home n env x1 f with
      |none=>rw[f1]at k;cases k
      |some m=>
       rw[f1]at k;cases k;obtain⟨H,G,F⟩:=p2 m f1;subst r2;subst r3;subst G;subst F;exact⟨H,by simp,by simp⟩
     ·intro k;cases f1:aJ ds home n env x1 f with
      |none=>exact p3 f1
      |some m=>rw[f1]at k;cases k
  ·rw[zad t1];refine⟨false,out,g,?_,fun l z=>by(cases z),fun _=>rfl,by omega,by omega⟩;rw[zaC t1]at j;simp[dw,ek]at r j;rw[aA g477];simp[g477,dw,u,s,hi,v,hy,r,j]
theorem zR.vT{t:Ty}(h:zR t):Qy t:=⟨h.ok,h.wf,t.nodes,by have:=h.n;omega,nU h.ok,fun x hx=>nL hx⟩
def ij(env:List En)(e:Ex)(t:Ty):List En:=if e.kind=7 then env++[⟨e.name,⟨0,t⟩⟩]else env
def lf(env:List En)(e:Ex)(d:Dv)(t:Ty):List En:=env++[⟨e.name,dB d.gen t (vars [t])⟩]
theorem Y6{ds:List Dt}{home:Int}{n M Q:Nat}{env:List En}{e w x1:Ex}{d f p:Dv}(g:e.kind=6∨e.kind=7)(v:e.kids=[w,x1])(hy:d.kids=[f,p])(hd:d.Sd)(P:zR f.ty)(J:kD env)(hN:1<=M)
   (O:Ck 477 ds home [.pv (.aq ((ij env e f.ty).map En.pv)),.pv w.pv,.pv f.pv] (aJ ds home n (ij env e f.ty) w f) M)
   (Y:∀l,aJ ds home n (ij env e f.ty) w f=some l->l.length<=1000∧∀r∈l,sR r.h)
   (N:Ck 477 ds home [.pv (.aq ((lf env e d f.ty).map En.pv)),.pv x1.pv,.pv p.pv] (aJ ds home n (lf env e d f.ty) x1 p) Q):
   Ck 477 ds home [.pv (.aq (env.map En.pv)),.pv e.pv,.pv d.pv] (aJ ds home (n+1) env e d) (M+Q):=by
 by_cases I:(e.kind≠6∧e.kind≠7∧d.gen≠[])∨(e.kind≠1∧e.kind≠2∧e.kind≠8∧d.inst≠[])
 ·intro out B h1 h2;obtain⟨b,o,h,j,E,G,V,U⟩:=lb (ds:=ds) (home:=home) (n:=n) (env:=env) I out B (by omega) (by omega);exact⟨b,o,h,j,E,G,by omega,by omega⟩
 ·obtain⟨_,hi⟩:=dC I;have hi:=hi (by omega) (by omega) (by omega);intro out B ho hh;have gl:=hd.gl;have y:=c179 J.sm (n:=e.name) (c:=⟨0,f.ty⟩);have x:=c176 (t:=f.ty);have s:=c20 (a:=d.ty) (b:=p.ty) hd.t.ok;have F:=c208 P.vT (ids:=d.gen) (by unfold Sm;omega);have D:=c179 J.sm (n:=e.name) (c:=dB d.gen f.ty (vars [f.ty]))
  have X:aJ ds home (n+1) env e d=match aJ ds home n (ij env e f.ty) w f with
   |none=>none
   |some l=>if kv d.gen (vars [f.ty]) (dt env++vars (aU (l.map Rd.h))) 0=true∧d.ty=p.ty then
    match aJ ds home n (lf env e d f.ty) x1 p with
    |some m=>some (l++m)
    |none=>none
     else none:=by
   rw[aJ,zad I,zad (by omega),zad (by omega),zad (by omega),zad (by omega),zad (by omega),zak g];simp only[kE,sB,v,hy,zbY,zbZ,zbi];rfl
  rw[X];obtain⟨b,o,h,j,E,G,V,U⟩:=O out B (by omega) (by omega);have W:¬e.kind=6->e.kind=7:=fun z=>g.resolve_left z
  cases b with
  |false=>
   have fn:aJ ds home n (ij env e f.ty) w f=none:=by
    cases q:aJ ds home n (ij env e f.ty) w f with
    |none=>rfl
    |some l=>have:=(E l q).1;cases this
   rw[fn];refine⟨false,o,h,?_,fun l z=>by(cases z),fun _=>rfl,by omega,by omega⟩;rw[aA g477];rcases g with g|g
   ·simp[ij,g,dw]at j;simp[g477,dw,g,hi,v,hy,j]
   ·simp[ij,g,dw]at j y x;simp[g477,dw,g,hi,v,hy,j,y,x]
  |true=>
   cases K:aJ ds home n (ij env e f.ty) w f with
   |none=>have:=G K;cases this
   |some l=>
    obtain⟨_,r2,r3⟩:=E l K;obtain⟨hl,hr⟩:=Y l K;have A:o.drop out.length=l.map Rd.h:=by rw[r2,List.drop_left]
    have k:=c489 (ds:=ds) (home:=home) (out:=o) (hd:=h) gl P J (i:=out.length) (by rw[r2];simp) (by rw[A];simpa using hl) (by rw[A];intro z u;simp only[zat]at u;obtain⟨r,H,rfl⟩:=u;exact hr r H);rw[A]at k;simp only;obtain⟨L,o',h',p1,p2,p3,p4,Z⟩:=N o h (by omega) (by omega);cases gb:kv d.gen (vars [f.ty]) (dt env++vars (aU (l.map Rd.h))) 0 with
    |false=>
     rw[zad (by simp)];refine⟨false,o,h,?_,fun l z=>by(cases z),fun _=>rfl,by omega,by omega⟩;rw[gb]at k;rw[aA g477];rcases g with g|g
     ·simp[ij,g,dw]at j k;simp[g477,dw,g,hi,v,hy,j,k]
     ·simp[ij,g,dw]at j y x k;simp[g477,dw,g,hi,v,hy,j,y,x,k]
    |true=>
     rw[gb]at k;by_cases t1:d.ty=p.ty
     ·rw[zak ⟨rfl,t1⟩];rw[zaG t1]at s;refine⟨L,o',h',?_,?_,?_,by omega,by omega⟩
      ·change _=some [PV.aq ((lf env e d f.ty).map En.pv)]at D
       generalize dB d.gen f.ty (vars [f.ty])=C at*;generalize lf env e d f.ty=E2 at*;have e1:p.ty=d.ty:=t1.symm;rw[aA g477];rcases g with g|g
       ·simp[ij,g,dw,e1]at j s F D k p1;cases L<;>simp[g477,dw,g,hi,v,hy,j,s,F,D,k,p1,e1]
       ·simp[ij,g,dw,e1]at j y x s F D k p1;cases L<;>simp[g477,dw,g,hi,v,hy,j,y,x,s,F,D,k,p1,e1]
      ·intro z u;cases f1:aJ ds home n (lf env e d f.ty) x1 p with
       |none=>rw[f1]at u;cases u
       |some m=>
        rw[f1]at u;cases u;obtain⟨T,S,R⟩:=p2 m f1;subst r2;subst r3;subst S;subst R;exact⟨T,by simp,by simp⟩
      ·intro u;cases f1:aJ ds home n (lf env e d f.ty) x1 p with
       |none=>exact p3 f1
       |some m=>rw[f1]at u;cases u
     ·rw[zad (fun z=>t1 z.2)];rw[zaC t1]at s;refine⟨false,o,h,?_,fun l z=>by(cases z),fun _=>rfl,by omega,by omega⟩;rw[aA g477];rcases g with g|g
      ·simp[ij,g,dw]at j s k;simp[g477,dw,g,hi,v,hy,j,s,k]
      ·simp[ij,g,dw]at j y x s k;simp[g477,dw,g,hi,v,hy,j,y,x,s,k]
def XU(ds:List Dt)(home:Int)(out:List Ho)(hd:List Bool)(k:Nat):List AV:=[.pv (.aq (ds.map Dt.pv)),.pv (vI home),.own (out.map Ho.pv) k,.own (hd.map .bool) (k+1)]
theorem xD{env:List En}{vs:List bD}{fs:List Ty}{j:Nat}{v:bD}{t:Ty}(a:vs[j]?=some v)(b:fs[j]?=some t):(vs.zip fs).drop j=(v,t)::(vs.zip fs).drop (j+1):=by
 have:(vs.zip fs)[j]?=some (v,t):=by rw[zbR];exact⟨a,b⟩
 exact aV this
theorem SV{ds:List Dt}{home:Int}{out:List Ho}{hd:List Bool}{env:List En}(s:env.length<=1000000){e:Ex}{d:Dv}{i:Nat}{a:Ar}{fs:List Ty}(hl:fs.length=a.vars.length)(hf:fs.length<=1000):∀(k j:Nat),fs.length-j=k->j<=fs.length->∀acc:List En,acc.length<=env.length+j->
   cl AP g490L1 ⟨[(0,.aI 0 0),(1,.pv (.aq (env.map En.pv))),(6,.au 6 0),(7,.au 7 0),(11,.pv (vI i)),(12,.au 12 0),(13,.pv (.aq (fs.map Ty.pv))),(15,.pv (.aq (acc.map En.pv))),(16,.pv (vI j))],[(6,e.cl),(7,fK d),(12,qZ a)],[some (dw ds home out hd)],[out.length,hd.length]⟩=
     some (.exit 2,⟨[(0,.aI 0 0),(1,.pv (.aq (env.map En.pv))),(6,.au 6 0),(7,.au 7 0),(11,.pv (vI i)),(12,.au 12 0),(13,.pv (.aq (fs.map Ty.pv))),(15,.pv (.aq ((acc++((a.vars.zip fs).drop j).map fun p=>(⟨p.1,⟨0,p.2⟩⟩:En)).map En.pv))),(16,.pv (vI fs.length)),(121,.pv (.bool false))],[(6,e.cl),(7,fK d),(12,qZ a)],[some (dw ds home out hd)],[out.length,hd.length]⟩)
 |0,j,o,hj,acc,r=>by
  have:j=fs.length:=by omega
  subst this;have z:(a.vars.zip fs).drop fs.length=[]:=zaX (by rw[zcz];exact Nat.min_le_right _ _);rw[z,g490L1e];simp[g490B1,dw,fK,qZ]
 |k+1,j,o,hj,acc,r=>by
  have hj:j<fs.length:=(by omega);obtain⟨t,m⟩:=aP hj;obtain⟨v,h⟩:=aP (l:=a.vars) (i:=j) (by omega);have q:j<a.vars.length:=(by omega);have g:=c176 (t:=t);have f:=c179 (l:=acc) (by unfold Sm;omega) (n:=v) (c:=⟨0,t⟩);have b:=SV (ds:=ds) (home:=home) (out:=out) (hd:=hd) s (e:=e) (d:=d) (i:=i) hl hf k (j+1) (by omega) (by omega) (acc++[⟨v,⟨0,t⟩⟩]) (by simp;omega)
  have z:acc++[(⟨v,⟨0,t⟩⟩:En)]++((a.vars.zip fs).drop (j+1)).map (fun p=>(⟨p.1,⟨0,p.2⟩⟩:En))=acc++((a.vars.zip fs).drop j).map fun p=>(⟨p.1,⟨0,p.2⟩⟩:En):=by
   rw[xD (env:=env) h m];simp
  rw[z]at b;generalize acc++((a.vars.zip fs).drop j).map (fun p=>(⟨p.1,⟨0,p.2⟩⟩:En))=R at*;rw[g490L1e]at b⊢;simp[dw,fK,qZ]at b;simp at g f;simp(disch:=omega)[-getElem?_pos,g490B1,dw,fK,qZ,hj,m,q,h,g,f,ah];rw[g490L1e];simp[b]
def Y7(ds:List Dt)(home:Int)(env:List En)(e:Ex)(d:Dv)(out0:List Ho)(hd0:List Bool)(fit:Option (List Rd))(N:Nat)(out:List Ho)(hd:List Bool)(r:Option (aR×St)):Prop:=∃(b:Bool)(out':List Ho)(a:List Bool),
 ((b=true∧r=some (.exit 0,⟨[(0,.aI 0 0),(1,.pv (.aq (env.map En.pv))),(6,.au 6 0),(7,.au 7 0),(11,.pv (vI e.aF.length)),(78,.pv (.bool false))],[(6,e.cl),(7,fK d)],[some (dw ds home out' a)],[out'.length,a.length]⟩))∨
  (b=false∧(r=some (.ret,⟨[(8,.pv (.bool false))],[],[some (dw ds home out' a)],[out'.length,a.length]⟩)∨∃x y:Nat,r=some (.ret,⟨[(8,.pv (.bool false))],[],[some (XU ds home out' a 2)],[x,y,out'.length,a.length]⟩))))∧
 (∀l,fit=some l->b=true∧out'=out0++l.map Rd.h∧a=hd0++l.map Rd.b)∧(fit=none->b=false)∧out'.length<=out.length+N∧a.length<=hd.length+N
theorem SW{ds:List Dt}(J:Small ds){home:Int}{n:Nat}{env:List En}(I:env.length<=1000000){e:Ex}{d:Dv}(hd:d.Sd)(F:∀a∈e.aF,a.vars.length<=1000)(U:e.aF.length<=1000)(S:d.kids.length=e.aF.length+1)
   (H:∀a∈e.aF,∃fs,fieldsOf ds a.dK d.inst=some fs)
   (M:∀(k:Nat)(a:Ar)(fs:List Ty)(y:Dv),e.aF[k]?=some a->d.kids[k+1]?=some y->fieldsOf ds a.dK d.inst=some fs->fs.length=a.vars.length->Ck 477 ds home [.pv (.aq ((iC env a.vars fs).map En.pv)),.pv a.body.pv,.pv y.pv] (aJ ds home n (iC env a.vars fs) a.body y) a.body.sz) {out0:List Ho} {hd0:List Bool}:
   ∀(k i:Nat),e.aF.length-i=k->i<=e.aF.length->∀(l:List Rd)(out:List Ho)(c:List Bool),out=out0++l.map Rd.h->c=hd0++l.map Rd.b->out.length+bP (e.aF.drop i)<=1000000->c.length+bP (e.aF.drop i)<=1000000->
     Y7 ds home env e d out0 hd0 (iD (aJ ds home n) ds env d (e.aF.drop i) (i+1) l) (bP (e.aF.drop i)) out c (cl AP g490L0 ⟨[(0,.aI 0 0),(1,.pv (.aq (env.map En.pv))),(6,.au 6 0),(7,.au 7 0),(11,.pv (vI i))],[(6,e.cl),(7,fK d)],[some (dw ds home out c)],[out.length,c.length]⟩)
 |0,i,x,hi,l,out,c,e1,e2,b1,W=>by
  have:i=e.aF.length:=by omega
  subst this;rw[za1];refine⟨true,out,c,.inl ⟨rfl,?_⟩,?_,?_,by omega,by omega⟩
  ·rw[g490L0e];simp[g490B0,dw,fK]
  ·intro r hr;simp only[iD,zae]at hr;subst hr;exact⟨rfl,e1,e2⟩
  ·intro hr;simp[iD]at hr
 |k+1,i,x,hi,l,out,c,e1,e2,b1,W=>by
  have hi:i<e.aF.length:=(by omega);obtain⟨a,hx⟩:=aP hi;obtain⟨y,hy⟩:=aP (l:=d.kids) (i:=i+1) (by omega);have f:i+1<d.kids.length:=(by omega);have hm:=aN hx;have R:=F a hm;obtain⟨fs,E⟩:=H a hm;have T:=hd.il;have j:=c207 J (as:=d.inst) (by unfold Sm;omega) (s:=a.dK);rw[E]at j;have N:=(hd.k y (aN hy)).t.ok;have u:=c20 (a:=y.ty) (b:=d.ty) N;have w:kE d (i+1)=y:=by simp[kE,hy]
  have V:iD (aJ ds home n) ds env d (e.aF.drop i) (i+1) l=if fs.length=a.vars.length∧y.ty=d.ty then
   match aJ ds home n (iC env a.vars fs) a.body y with
   |some m=>iD (aJ ds home n) ds env d (e.aF.drop (i+1)) (i+1+1) (l++m)
   |none=>none
    else none:=by
    rw[aV hx];simp only[iD,E,w]<;>split<;>first|rfl|(cases aJ ds home n (iC env a.vars fs) a.body y<;>rfl)
  rw[V];have G:bP (e.aF.drop i)=a.body.sz+bP (e.aF.drop (i+1)):=by rw[aV hx];simp[bP]
  have B:((i:Int)+1)=((i+1:Nat):Int):=(by omega);by_cases t1:fs.length=a.vars.length
  ·by_cases g:y.ty=d.ty
   ·rw[zak ⟨t1,g⟩];rw[zaG g]at u;have L:=SV (ds:=ds) (home:=home) (out:=out) (hd:=c) I (e:=e) (d:=d) (i:=i) (a:=a) t1 (by omega) _ 0 rfl (by omega) env (by omega);rw[zar]at L;have D:env++(a.vars.zip fs).map (fun p=>(⟨p.1,⟨0,p.2⟩⟩:En))=iC env a.vars fs:=rfl;rw[D]at L;obtain⟨b,o,h,p1,p2,p3,p4,p5⟩:=M i a fs y hx hy E t1 out c (by omega) (by omega);generalize hA:iC env a.vars fs=A at*;cases b with
    |false=>
     have fn:aJ ds home n A a.body y=none:=by
      cases q:aJ ds home n A a.body y with
      |none=>rfl
      |some m=>have:=(p2 m q).1;cases this
     rw[fn];refine⟨false,o,h,.inr ⟨rfl,.inr ⟨out.length+1,c.length+1,?_⟩⟩,fun l z=>by(cases z),fun _=>rfl,by omega,by omega⟩;rw[g490L1e]at L;rw[g490L0e];simp[dw,fK,qZ,g]at L p1;simp[Cm,t1,g]at j u;simp(disch:=omega)[-getElem?_pos,g490B0,dw,XU,fK,qZ,hx,hi,hy,f,j,u,t1,g,ah,g490L1e,L,p1]
    |true=>
     cases K:aJ ds home n A a.body y with
     |none=>have:=p3 K;cases this
     |some m=>
      obtain⟨_,r2,r3⟩:=p2 m K;simp only;obtain⟨X,o',h',Q,P,O,Z,Y⟩:=SW J I (e:=e) hd F U S H M (out0:=out0) (hd0:=hd0) k (i+1) (by omega) (by omega) (l++m) o h (by rw[r2,e1];simp) (by rw[r3,e2];simp) (by omega) (by omega)
      have key:cl AP g490L0 ⟨[(0,.aI 0 0),(1,.pv (.aq (env.map En.pv))),(6,.au 6 0),(7,.au 7 0),(11,.pv (vI i))],[(6,e.cl),(7,fK d)],[some (dw ds home out c)],[out.length,c.length]⟩=
          cl AP g490L0 ⟨[(0,.aI 0 0),(1,.pv (.aq (env.map En.pv))),(6,.au 6 0),(7,.au 7 0),(11,.pv (vI (i+1:Nat)))],[(6,e.cl),(7,fK d)],[some (dw ds home o h)],[o.length,h.length]⟩:=by
        generalize C:cl AP g490L0 ⟨[(0,.aI 0 0),(1,.pv (.aq (env.map En.pv))),(6,.au 6 0),(7,.au 7 0),(11,.pv (vI (i+1:Nat)))],[(6,e.cl),(7,fK d)],[some (dw ds home o h)],[o.length,h.length]⟩=RR;rw[g490L1e]at L;rw[g490L0e]at C⊢;simp[dw,fK,qZ,g]at L p1 C;simp[Cm,t1,g]at j u;simp(disch:=omega)[-getElem?_pos,g490B0,dw,XU,fK,qZ,hx,hi,hy,f,j,u,t1,g,ah,g490L1e,L,p1];rw[g490L0e];simp[C]
      rw[key];exact⟨X,o',h',Q,P,O,by omega,by omega⟩
   ·rw[zad (fun z=>g z.2)];refine⟨false,out,c,.inr ⟨rfl,.inl ?_⟩,fun l z=>by(cases z),fun _=>rfl,by omega,by omega⟩;rw[zaC g]at u;rw[g490L0e];simp[Cm,t1]at j u;simp(disch:=omega)[-getElem?_pos,g490B0,dw,fK,qZ,hx,hi,hy,f,j,u,t1,ah]
  ·rw[zad (fun z=>t1 z.1)];refine⟨false,out,c,.inr ⟨rfl,.inl ?_⟩,fun l z=>by(cases z),fun _=>rfl,by omega,by omega⟩;rw[g490L0e];simp[Cm]at j;have v:¬(fs.length:Int)=a.vars.length:=by omega
   simp (disch:=omega) [-getElem?_pos,g490B0,dw,fK,qZ,hx,hi,hy,f,j,v,ah]
noncomputable def vO(f:List En->Ex->Dv->Option (List Rd))(ds:List Dt)(D:Dt)(env:List En)(e b:Ex)(d a:Dv):Option (List Rd):=
 if d.inst.length=D.params.length∧a.ty=⟨4,D.name,0,0,d.inst⟩then
  match f env b a with
  |some l=>iD f ds env d e.aF 1 l
  |none=>none
 else none
theorem XV{ds:List Dt}(I:Small ds){home:Int}{n K:Nat}{env:List En}{e u:Ex}{d f:Dv}(V:env.length<=1000000)(A:e.kids=[u])(hd:d.Sd)(c:d.kids[0]?=some f)(P:∀a∈e.aF,a.vars.length<=1000)(S:e.aF.length<=1000)(Q:d.kids.length=e.aF.length+1)
   {i0:Nat} {D:Dt} (T:eL ds e.aF=some i0) (hi:ds[i0]?=some D) (E:Ck 477 ds home [.pv (.aq (env.map En.pv)),.pv u.pv,.pv f.pv] (aJ ds home n env u f) K)
   (U:d.inst.length=D.params.length->∀a∈e.aF,∃fs,fieldsOf ds a.dK d.inst=some fs)
   (X:d.inst.length=D.params.length->∀(k:Nat)(a:Ar)(fs:List Ty)(y:Dv),e.aF[k]?=some a->d.kids[k+1]?=some y->fieldsOf ds a.dK d.inst=some fs->fs.length=a.vars.length->Ck 477 ds home [.pv (.aq ((iC env a.vars fs).map En.pv)),.pv a.body.pv,.pv y.pv] (aJ ds home n (iC env a.vars fs) a.body y) a.body.sz):
   Ck 490 ds home [.pv (.aq (env.map En.pv)),.pv e.pv,.pv d.pv] (vO (aJ ds home n) ds D env e u d f) (K+bP e.aF):=by
 intro out p ho hh;have R:=hd.il;have j:=(zaa.1 hi).1;have i:=c390 I.num (as:=e.aF) (by unfold Sm;omega);have w:=c62 (s:=D.name) (l:=d.inst) (by unfold Sm;omega);have L:=(hd.k f (aN c)).t.ok;have r:=c20 (a:=f.ty) (b:=⟨4,D.name,0,0,d.inst⟩) L;have m:0<d.kids.length:=by omega
 rw[T]at i;unfold vO;by_cases t1:d.inst.length=D.params.length
 ·by_cases g:f.ty=⟨4,D.name,0,0,d.inst⟩
  ·rw[zak ⟨t1,g⟩];rw[zaG g]at r;obtain⟨b,o,h,B,H,O,Z,Y⟩:=E out p (by omega) (by omega);cases b with
   |false=>
    have fn:aJ ds home n env u f=none:=by
     cases q:aJ ds home n env u f with
     |none=>rfl
     |some l=>have:=(H l q).1;cases this
    rw[fn];refine⟨false,o,h,?_,fun l z=>by(cases z),fun _=>rfl,by omega,by omega⟩;simp[dw,g]at B;simp[gS,g]at i w r;rw[aA g490];simp[-getElem?_pos,g490,dw,A,hi,j,t1,g,c,m,i,w,r,B]
   |true=>
    cases J:aJ ds home n env u f with
    |none=>have:=O J;cases this
    |some l=>
     obtain⟨_,r2,r3⟩:=H l J;simp only;obtain⟨W,o',h',v,G,F,N,M⟩:=SW I V (e:=e) hd P S Q (U t1) (X t1) (out0:=out) (hd0:=p) _ 0 rfl (by omega) l o h r2 r3 (by rw[zar];omega) (by rw[zar];omega);rw[zar]at G F N M;refine⟨W,o',h',?_,G,F,by omega,by omega⟩;rw[g490L0e]at v;simp[dw,g]at B;simp[gS,g]at i w r;rw[aA g490];rcases v with⟨rfl,v⟩|⟨rfl,v|⟨x,y,v⟩⟩<;>
     ·simp[dw,XU,fK,A]at v;simp[-getElem?_pos,g490,dw,XU,fK,A,hi,j,t1,g,c,m,i,w,r,B,g490L0e,v]
  ·rw[zad (fun z=>g z.2)];refine⟨false,out,p,?_,fun l z=>by(cases z),fun _=>rfl,by omega,by omega⟩;rw[zaC g]at r;simp[gS]at i w r;rw[aA g490];simp[-getElem?_pos,g490,dw,A,hi,j,t1,c,m,i,w,r]
 ·rw[zad (fun z=>t1 z.1)];refine⟨false,out,p,?_,fun l z=>by(cases z),fun _=>rfl,by omega,by omega⟩;have C:¬(d.inst.length:Int)=D.params.length:=by omega
  simp[gS]at i;rw[aA g490];simp[-getElem?_pos,g490,dw,A,hi,j,C,c,m,i]
theorem ck8{ds:List Dt}(F:Small ds){home:Int}{n v:Nat}{env:List En}{e i:Ex}{d g:Dv}(c:e.kind=8)(E:env.length<=1000000)(t:e.kids=[i])(hd:d.Sd)(j:d.kids[0]?=some g)(z:∀a∈e.aF,a.vars.length<=1000)(B:e.aF.length<=1000)(A:d.kids.length=e.aF.length+1)
   {i0:Nat} {D:Dt} (u:eL ds e.aF=some i0) (hi:ds[i0]?=some D) (s:Ck 477 ds home [.pv (.aq (env.map En.pv)),.pv i.pv,.pv g.pv] (aJ ds home n env i g) v)
   (C:d.inst.length=D.params.length->∀a∈e.aF,∃fs,fieldsOf ds a.dK d.inst=some fs)
   (H:d.inst.length=D.params.length->∀(k:Nat)(a:Ar)(fs:List Ty)(y:Dv),e.aF[k]?=some a->d.kids[k+1]?=some y->fieldsOf ds a.dK d.inst=some fs->fs.length=a.vars.length->Ck 477 ds home [.pv (.aq ((iC env a.vars fs).map En.pv)),.pv a.body.pv,.pv y.pv] (aJ ds home n (iC env a.vars fs) a.body y) a.body.sz):
   Ck 477 ds home [.pv (.aq (env.map En.pv)),.pv e.pv,.pv d.pv] (aJ ds home (n+1) env e d) (v+bP e.aF+1):=by
 by_cases r:(e.kind≠6∧e.kind≠7∧d.gen≠[])∨(e.kind≠1∧e.kind≠2∧e.kind≠8∧d.inst≠[])
 ·intro out f h1 h2;obtain⟨b,o,h,l,q,p,x,w⟩:=lb (ds:=ds) (home:=home) (n:=n) (env:=env) r out f (by omega) (by omega);exact⟨b,o,h,l,q,p,by omega,by omega⟩
 ·obtain⟨m,_⟩:=dC r;have m:=m (by omega) (by omega);intro out f I J
  have G:aJ ds home (n+1) env e d=vO (aJ ds home n) ds D env e i d g:=by
   rw[aJ,zad r];simp[c,kE,sB,t,j,u,hi,vO]<;>split<;>first|rfl|(cases aJ ds home n env i g<;>rfl)
  obtain⟨b,o,h,l,q,p,x,w⟩:=XV F E t hd j z B A u hi s C H out f (by omega) (by omega);rw[G];refine⟨b,o,h,?_,q,p,by omega,by omega⟩;simp[dw,c,m]at l;rw[aA g477];cases b<;>simp[g477,dw,c,m,l]
theorem OS{sh:Sh}{aL ts:aG}{v:AV}{p:PV}(h:i5 (bn aL ts (mG sh v)).1=some p):lr sh v=.pv p:=by
 cases v with
 |pv q=>
  have e:lr sh (.pv q)=.pv q:=rfl;have e2:mG sh (.pv q)=.pv q:=rfl;rw[e2]at h;simp only[bn,i5,zae]at h;rw[e,h]
 |cQ l=>
  have e:lr sh (.cQ l)=.pv (.aq l):=rfl;have e2:mG sh (.cQ l)=.cQ l:=rfl;rw[e2]at h;simp only[bn,i5,zae]at h;rw[e,h]
 |own l t=>
  have e:lr sh (.own l t)=.pv (.aq l):=rfl;have e2:mG sh (.own l t)=.own l t:=rfl;rw[e2]at h;simp only[bn]at h;split at h
  ·simp only[i5,zae]at h;rw[e,h]
  ·simp only[i5,zae]at h;rw[e,h]
 |agg cs=>
  have e2:mG sh (.agg cs)=.agg (cs.map (qq sh)):=rfl;rw[e2]at h;simp only[bn]at h;split at h<;>simp[i5]at h
 |_=>
  revert h
  simp only[mG];unfold lr;split
  ·rename_i q a;intro h;simp only[bn,i5,zae]at h;rw[h]
  ·intro h;simp[bn,i5]at h
theorem xE{sh:Sh}:∀{aL ts:aG}{vs:List AV}{ps:List PV},eY (bf aL ts (vs.map (mG sh))).1=some ps->vs.map (lr sh)=ps.map .pv
 |_,_,[],ps,h=>by simp[bf,eY]at h;subst h;rfl
 |aL,ts,v::vs,ps,h=>by
  simp only[zao,bf,eY]at h;split at h
  ·rename_i p a h1 h2;cases h;rw[zao,zao,OS h1,xE h2]
  ·cases h
theorem HN{aL ts:aG}:∀{ps:List PV},(bf aL ts (ps.map AV.pv)).1=ps.map AV.pv
 |[]=>rfl
 |p::ps=>by simp only[zao,bf,bn,HN (ps:=ps)]
theorem xF:∀{ps:List PV},fp (ps.map AV.pv)=some ps
 |[]=>rfl
 |p::ps=>by simp only[zao,fp,xF (ps:=ps),zaY]
theorem UY{g:Nat}{af:aw}{x:List PV}(c:AP g=some af)(h1:x.length=af.nparams)(h2:af.nparams<=af.ntmps)(hp:af.qp=none)(f:af.ks=false){rs:List AV}{sh:Sh}{ts:aG}{ps:List PV}(h:(aC AP).i g (x.map .pv) [] []=some (rs,sh,ts))(hf:eY rs=some ps):(aC AP).p g x=some ps:=by
 rw[eU c (by rw[zaT];omega)]at h;rw[l_ c h1 h2 hp];cases d:cl AP af.body ⟨bK 0 (x.map .pv),[],[],[]⟩with
 |none=>rw[d]at h;simp[fin]at h
 |some q=>
  obtain⟨e,st⟩:=q;rw[d]at h
  have key:∀o:Option (List AV),kY true af.ks [] st.sh st.aa o=some (rs,sh,ts)->jG (kY false af.ks [] st.sh st.aa o)=some ps:=by
   intro o b;cases o with
   |none=>cases b
   |some vs=>
    simp only[kY,f,cp,za0,zaO,zbg]at b⊢;split at b
    ·simp only[ct,zae,zav]at b;have h3:=xE (b.1 ▸ hf);rw[h3];have a:(ps.map AV.pv).all bE=true:=by rw[zaq];intro y hy;obtain⟨p,_,rfl⟩:=zat.1 hy;rfl
     rw[zak a];simp only[jG,ct,HN,xF]
    ·cases b
  cases e with
  |ret=>exact key _ h
  |normal=>exact key _ h
  |exit _=>simp[fin]at h
def Fk(g:Nat)(args:List PV)(fit:Option (List Rd))(N:Nat):Prop:=∃(b:Bool)(a:List Rd),(aC AP).i g (args.map .pv) [] []=some ([.own (a.map Rd.pv) 0,.pv (.bool b)],[],[a.length])∧(∀l,fit=some l->b=true∧a=l)∧(fit=none->b=false)∧a.length<=N
def lJ(ds:List Dt)(home:Int):PV:=.agg [.aq (ds.map Dt.pv),vI home]
theorem c505g:(aC AP).p 505 []=some [bj.pv]:=Fc.T5 (k:=100) (n:=40) (by kernel_rfl)
def gM(ds:List Dt)(home:Int)(env:List En)(e:Ex)(d:Dv):List PV:=[lJ ds home,.aq (env.map En.pv),e.pv,d.pv]
theorem lg{ds:List Dt}{home:Int}{n:Nat}{env:List En}{e:Ex}{d:Dv}(h:(e.kind≠6∧e.kind≠7∧d.gen≠[])∨(e.kind≠1∧e.kind≠2∧e.kind≠8∧d.inst≠[])):Fk 487 (gM ds home env e d) (aJ ds home (n+1) env e d) 1:=by
 refine⟨false,[],?_,?_,fun _=>rfl,by simp⟩
 ·rw[aA g487];rcases h with⟨h1,h2,h3⟩|⟨h1,h2,h3,h4⟩
  ·have hl:0<d.gen.length:=zaP.2 h3;simp[g487,gM,lJ,h1,h2,h3,hl]
  ·have hl:0<d.inst.length:=zaP.2 h4;by_cases q:e.kind=6∨e.kind=7
   ·rcases q with q|q<;>simp[g487,gM,lJ,q,h4,hl]
   ·have f:¬e.kind=6:=fun z=>q (.inl z);have c:¬e.kind=7:=fun z=>q (.inr z)
    by_cases b:d.gen=[]
    ·simp[g487,gM,lJ,f,c,h1,h2,h3,h4,hl,b]
    ·have a:0<d.gen.length:=zaP.2 b;simp[g487,gM,lJ,f,c,b,a]
 ·rw[vN h];intro l q;cases q
theorem fk1{ds:List Dt}{home:Int}{n:Nat}{env:List En}{e:Ex}{d:Dv}(j:e.kind=1)(r:Sm env)(hd:d.Sd){c:Sc}(k:m8 env e.name=some c)(p:c.ty.Ok)(o:c.ty.Wb)(m:(c.ty.fQ d.inst).Ok):Fk 487 (gM ds home env e d) (aJ ds home (n+1) env e d) 1:=by
 by_cases g:(e.kind≠6∧e.kind≠7∧d.gen≠[])∨(e.kind≠1∧e.kind≠2∧e.kind≠8∧d.inst≠[])
 ·exact lg g
 ·obtain⟨a,_⟩:=dC g;have a:=a (by omega) (by omega);have f:=c180 r (s:=e.name);have i:=c504 p o hd m
  have t:aJ ds home (n+1) env e d=if jy c d=true then some []else none:=by
   rw[aJ,zad g,zak j,k]
  rw[k]at f;rw[t];refine⟨jy c d,[],?_,?_,?_,by simp⟩
  ·generalize jy c d=b at*;simp[ta,a]at f i;rw[aA g487];simp[g487,gM,lJ,j,a,f,i]
  ·intro l q;split at q
   ·rename_i h;cases q;exact⟨h,rfl⟩
   ·cases q
  ·intro q;split at q
   ·cases q
   ·rename_i h;simpa using h
theorem fk2{ds:List Dt}(D:Y4 ds){home:Int}{n:Nat}{env:List En}{e:Ex}{d:Dv}(k:e.kind=2)(hd:d.Sd){c:Sc}(a:gm ds e.name=some c)(p:c.ty.Ok)(o:c.ty.Wb)(m:(c.ty.fQ d.inst).Ok):Fk 487 (gM ds home env e d) (aJ ds home (n+1) env e d) 1:=by
 by_cases i:(e.kind≠6∧e.kind≠7∧d.gen≠[])∨(e.kind≠1∧e.kind≠2∧e.kind≠8∧d.inst≠[])
 ·exact lg i
 ·obtain⟨f,_⟩:=dC i;have f:=f (by omega) (by omega);have g:=c192 D.sm D.dK D.par (fun d hd c a=>⟨(D.R7 d hd c a).1,(D.R7 d hd c a).2.1⟩) (s:=e.name);have j:=c504 p o hd m
  have r:aJ ds home (n+1) env e d=if jy c d=true then some []else none:=by
   rw[aJ,zad i,zad (by omega),zak k,a]
  rw[a]at g;rw[r];refine⟨jy c d,[],?_,?_,?_,by simp⟩
  ·generalize jy c d=b at*;simp[ta,f]at g j;rw[aA g487];simp[g487,gM,lJ,k,f,g,j]
  ·intro l q;split at q
   ·rename_i h;cases q;exact⟨h,rfl⟩
   ·cases q
  ·intro q;split at q
   ·cases q
   ·rename_i h;simpa using h
theorem fk3{ds:List Dt}{home:Int}{n:Nat}{env:List En}{e:Ex}{d:Dv}(j:e.kind=3)(hd:d.Sd):Fk 487 (gM ds home env e d) (aJ ds home (n+1) env e d) 1:=by
 by_cases g:(e.kind≠6∧e.kind≠7∧d.gen≠[])∨(e.kind≠1∧e.kind≠2∧e.kind≠8∧d.inst≠[])
 ·exact lg g
 ·obtain⟨f,hi⟩:=dC g;have f:=f (by omega) (by omega);have hi:=hi (by omega) (by omega) (by omega);have i:=c505g;have c:=c33 (a:=d.ty) (b:=bj) hd.t.ok;rw[uX]at c
  have k:aJ ds home (n+1) env e d=if d.ty=bj then some []else none:=by
   rw[aJ,zad g,zad (by omega),zad (by omega),zak j]
  rw[k];refine⟨decide (d.ty=bj),[],?_,?_,?_,by simp⟩
  ·generalize decide (d.ty=bj)=b at*;simp[bj]at i c;rw[aA g487];simp[g487,gM,lJ,j,f,hi,i,c]
  ·intro l q;split at q
   ·rename_i h;cases q;simp[h]
   ·cases q
  ·intro q;split at q
   ·cases q
   ·rename_i h;simp[h]
theorem Y8{ds:List Dt}{home:Int}{n:Nat}{env:List En}{e:Ex}{d:Dv}(b:e.kind=10)(g:Sm env):Fk 487 (gM ds home env e d) (aJ ds home (n+1) env e d) 1:=by
 by_cases c:(e.kind≠6∧e.kind≠7∧d.gen≠[])∨(e.kind≠1∧e.kind≠2∧e.kind≠8∧d.inst≠[])
 ·exact lg c
 ·obtain⟨a,hi⟩:=dC c;have a:=a (by omega) (by omega);have hi:=hi (by omega) (by omega) (by omega);have f:=c506g (ds:=ds) (home:=home) g (e:=e) (d:=d)
  have h:aJ ds home (n+1) env e d=some [⟨wx home env e d,false⟩]:=by
   rw[aJ,zad c];simp[b]
  rw[h];refine⟨true,[⟨wx home env e d,false⟩],?_,?_,?_,by simp⟩
  ·generalize wx home env e d=H at*;simp[b,a,hi]at f;rw[aA g487];simp[g487,gM,lJ,b,a,hi,f]
  ·intro l q;cases q;simp
  ·intro q;cases q
theorem Fk.p{ds:List Dt}{home:Int}{env:List En}{e:Ex}{d:Dv}{fit:Option (List Rd)}{N:Nat}(h:Fk 487 (gM ds home env e d) fit N):∃(b:Bool)(a:List Rd),(aC AP).p 487 (gM ds home env e d)=some [.aq (a.map Rd.pv),.bool b]∧(∀l,fit=some l->b=true∧a=l)∧(fit=none->b=false)∧a.length<=N:=by
 obtain⟨b,a,h1,h2,h3,h4⟩:=h;exact⟨b,a,UY (af:=g487) rfl rfl (by decide) rfl rfl h1 rfl,h2,h3,h4⟩
theorem Fk.yes{g:Nat}{x:List PV}{fit:Option (List Rd)}{b:Bool}(h:fit=none->b=false)(a:b=true):∃l,fit=some l:=by
 cases fit with
 |none=>rw[h rfl]at a;cases a
 |some l=>exact⟨l,rfl⟩
def CE:Bool->Ty->List AV
 |true,t=>[.pv (vI t.kind),.pv (.str t.name),.pv (vI t.id),.pv (vI t.home),.pv (.aq (t.args.map Ty.pv))]
 |false,_=>[.pv (vI 0),.pv (.str []),.pv (vI 0),.pv (vI 0),.own [] 1]
def xG:Bool->aG
 |true=>[]
 |false=>[0]
def og(ds:List Dt)(home:Int):List AV:=[.pv (.aq (ds.map Dt.pv)),.pv (vI home)]
def kF(ds:List Dt)(home:Int)(env envF:List En)(e:Ex)(d:Dv)(q:Bool)(t:Ty)(acc:List Rd)(i:Nat):St:=
 ⟨[(1,.pv (.aq (env.map En.pv))),(4,.au 4 0),(6,.au 6 0),(7,.au 7 0),(12,.pv (.aq (envF.map En.pv))),(18,.au 18 0),(20,.own (acc.map Rd.pv) 0),(164,.pv (.aq (e.kids.map Ex.pv))),(165,.pv (vI e.kids.length)),(166,.pv (vI i))],
   [(4,og ds home),(6,e.cl),(7,fK d),(18,CE q t)],[],acc.length::xG q⟩
theorem SX{ds:List Dt}{home:Int}{env envF:List En}{e:Ex}{d:Dv}{q:Bool}{t:Ty}{acc:List Rd}:cl AP g487L0 (kF ds home env envF e d q t acc e.kids.length)=
   some (.exit 8,⟨[(1,.pv (.aq (env.map En.pv))),(4,.au 4 0),(6,.au 6 0),(7,.au 7 0),(12,.pv (.aq (envF.map En.pv))),(18,.au 18 0),(20,.own (acc.map Rd.pv) 0),(164,.pv (.aq (e.kids.map Ex.pv))),(165,.pv (vI e.kids.length)),(166,.pv (vI e.kids.length)),(167,.pv (.bool false))],[(4,og ds home),(6,e.cl),(7,fK d),(18,CE q t)],[],acc.length::xG q⟩):=by
 rw[g487L0e];cases q<;>simp[kF,g487B0,og,fK,CE,xG]
theorem OT{ds:List Dt}{home:Int}{env envF:List En}{e:Ex}{d:Dv}{q:Bool}{t:Ty}{acc:List Rd}{i:Nat}(b:e.kids.length<=1000){x:Ex}{y:Dv}(hx:e.kids[i]?=some x)(hy:d.kids[i]?=some y){m:List Rd}(h:(aC AP).p 487 (gM ds home envF x y)=some [.aq (m.map Rd.pv),.bool false]):
   cl AP g487L0 (kF ds home env envF e d q t acc i)=some (.ret,⟨[(8,.cQ []),(9,.pv (.bool false))],[],[],acc.length::xG q⟩):=by
 have hi:=(zaa.1 hx).1;have a:=(zaa.1 hy).1;rw[g487L0e];simp[gM,lJ]at h;cases q<;>simp(disch:=omega)[-getElem?_pos,kF,g487B0,og,fK,CE,xG,hx,hy,hi,a,h,ah]
theorem OU{ds:List Dt}{home:Int}{env envF:List En}{e:Ex}{d:Dv}{q:Bool}{t:Ty}{acc:List Rd}{i:Nat}(f:e.kids.length<=1000)(g:acc.length<=1000000){x:Ex}{y:Dv}(hx:e.kids[i]?=some x)(hy:d.kids[i]?=some y){m:List Rd}(hm:m.length<=1000000)(h:(aC AP).p 487 (gM ds home envF x y)=some [.aq (m.map Rd.pv),.bool true]):
   cl AP g487L0 (kF ds home env envF e d q t acc i)=cl AP g487L0 (kF ds home env envF e d q t (acc++m) (i+1)):=by
 have hi:=(zaa.1 hx).1;have a:=(zaa.1 hy).1;have c:(acc.length+m.length)*112<=140737488355328:=by omega
 generalize b:cl AP g487L0 (kF ds home env envF e d q t (acc++m) (i+1))=R;rw[g487L0e]at b⊢;simp[gM,lJ]at h;cases q
 ·simp[kF,og,fK,CE,xG]at b;simp(disch:=omega)[-getElem?_pos,kF,g487B0,og,fK,CE,xG,hx,hy,hi,a,h,c,ah];rw[g487L0e];simp[b]
 ·simp[kF,og,fK,CE,xG]at b;simp(disch:=omega)[-getElem?_pos,kF,g487B0,og,fK,CE,xG,hx,hy,hi,a,h,c,ah];rw[g487L0e];simp[b]
theorem zF{ds:List Dt}{home:Int}{env envF:List En}{e x:Ex}{d y:Dv}(i:e.kids=[x])(hy:d.kids=[y])(q:Bool)(t:Ty){fit:Option (List Rd)}{N:Nat}(hN:N<=1000000)(h:Fk 487 (gM ds home envF x y) fit N):
   (∃a,a.length<=N∧(∀l,fit=some l->a=l)∧(∃l,fit=some l)∧cl AP g487L0 (kF ds home env envF e d q t [] 0)=some (.exit 8,⟨[(1,.pv (.aq (env.map En.pv))),(4,.au 4 0),(6,.au 6 0),(7,.au 7 0),(12,.pv (.aq (envF.map En.pv))),(18,.au 18 0),(20,.own (a.map Rd.pv) 0),(164,.pv (.aq (e.kids.map Ex.pv))),(165,.pv (vI e.kids.length)),(166,.pv (vI e.kids.length)),(167,.pv (.bool false))],[(4,og ds home),(6,e.cl),(7,fK d),(18,CE q t)],[],a.length::xG q⟩))∨
   (fit=none∧cl AP g487L0 (kF ds home env envF e d q t [] 0)=some (.ret,⟨[(8,.cQ []),(9,.pv (.bool false))],[],[],0::xG q⟩)):=by
 obtain⟨b,a,h1,h2,h3,h4⟩:=h.p;have f:e.kids[0]?=some x:=by rw[i];rfl
 have c:d.kids[0]?=some y:=by rw[hy];rfl
 have hl:e.kids.length=1:=by rw[i];rfl
 cases b with
 |false=>
  refine .inr ⟨?_,OT (by omega) f c h1⟩;cases hf:fit with
  |none=>rfl
  |some l=>have:=(h2 l hf).1;cases this
 |true=>
  refine .inl ⟨a,h4,fun l hf=>(h2 l hf).2,Fk.yes (g:=0) (x:=[]) h3 rfl,?_⟩;rw[OU (by omega) (by simp) f c (by omega) h1,za8];have:=SX (ds:=ds) (home:=home) (env:=env) (envF:=envF) (e:=e) (d:=d) (q:=q) (t:=t) (acc:=a);rw[hl]at this⊢;exact this
theorem fk9{ds:List Dt}{home:Int}{n N:Nat}{env:List En}{e x:Ex}{d y:Dv}(h:e.kind=9)(g:e.kids=[x])(hy:d.kids=[y])(hd:d.Sd)(u:y.ty.Ok)(hN:N<=1000000)(h1:1<=N)(z:Fk 487 (gM ds home env x y) (aJ ds home n env x y) N):
   Fk 487 (gM ds home env e d) (aJ ds home (n+1) env e d) N:=by
 by_cases k:(e.kind≠6∧e.kind≠7∧d.gen≠[])∨(e.kind≠1∧e.kind≠2∧e.kind≠8∧d.inst≠[])
 ·obtain⟨b,l,r,i,q,A⟩:=lg (ds:=ds) (home:=home) (n:=n) (env:=env) k;exact⟨b,l,r,i,q,by omega⟩
 ·obtain⟨f,hi⟩:=dC k;have f:=f (by omega) (by omega);have hi:=hi (by omega) (by omega) (by omega);have p:=c33e (a:=d.ty) (b:=y.ty) hd.t.ok;have o:=c33e (a:=y.ty) (b:=e.ty) u
  have v:aJ ds home (n+1) env e d=if d.ty=e.ty∧d.ty=y.ty then aJ ds home n env x y else none:=by
   rw[aJ,zad k];simp[h,kE,sB,g,hy]
  rw[v];rcases zF (env:=env) g hy false ca hN z with⟨s,j,i,⟨l,hl⟩,L⟩|⟨hf,L⟩
  ·refine⟨decide (d.ty=y.ty) && decide (y.ty=e.ty),s,?_,?_,?_,j⟩
   ·generalize decide (d.ty=y.ty)=b1 at*;generalize decide (y.ty=e.ty)=B at*;rw[g487L0e]at L;simp[kF,og,fK,CE,xG,g,hy,f,hi,h]at L;simp at p o;rw[aA g487];cases b1<;>simp[g487,gM,lJ,h,f,hi,g,hy,g487L0e,L,p,o]
   ·intro l' c;split at c
    ·rename_i w;have e1:y.ty=d.ty:=w.2.symm;have e2:d.ty=e.ty:=w.1;exact⟨by simp[e1,e2],i l' c⟩
    ·cases c
   ·intro w;by_cases t1:d.ty=y.ty
    ·by_cases m:y.ty=e.ty
     ·rw[zak ⟨t1.trans m,t1⟩,hl]at w;cases w
     ·simp[m]
    ·simp[t1]
  ·refine⟨false,[],?_,?_,fun _=>rfl,by simp⟩
   ·rw[g487L0e]at L;simp[kF,og,fK,CE,xG,g,hy,f,hi,h]at L;rw[aA g487];simp[g487,gM,lJ,h,f,hi,g,hy,g487L0e,L]
   ·intro l w;rw[hf]at w;split at w<;>cases w
theorem Y9{ds:List Dt}{home:Int}{n N:Nat}{env:List En}{e x:Ex}{d y:Dv}(h:e.kind=11)(g:e.kids=[x])(hy:d.kids=[y])(hd:d.Sd)(s:Sm env)(hN:N<=900000)(z:Fk 487 (gM ds home env x y) (aJ ds home n env x y) N):
   Fk 487 (gM ds home env e d) (aJ ds home (n+1) env e d) (N+1):=by
 by_cases j:(e.kind≠6∧e.kind≠7∧d.gen≠[])∨(e.kind≠1∧e.kind≠2∧e.kind≠8∧d.inst≠[])
 ·obtain⟨b,l,q,i,p,A⟩:=lg (ds:=ds) (home:=home) (n:=n) (env:=env) j;exact⟨b,l,q,i,p,by omega⟩
 ·obtain⟨f,hi⟩:=dC j;have f:=f (by omega) (by omega);have hi:=hi (by omega) (by omega) (by omega);have o:=c33e (a:=d.ty) (b:=y.ty) hd.t.ok;have m:=c506g (ds:=ds) (home:=home) s (e:=e) (d:=d)
  have u:aJ ds home (n+1) env e d=if d.ty=y.ty then(match aJ ds home n env x y with|some l=>some (l++[⟨wx home env e d,true⟩])|none=>none)else none:=by
   rw[aJ,zad j];simp[h,kE,sB,g,hy]<;>cases aJ ds home n env x y<;>rfl
  rw[u];rcases zF (env:=env) g hy false ca (by omega) z with⟨k,r,i,⟨l,hl⟩,L⟩|⟨hf,L⟩
  ·refine⟨decide (d.ty=y.ty),k++[⟨wx home env e d,true⟩],?_,?_,?_,by simp;omega⟩
   ·generalize decide (d.ty=y.ty)=b1 at*;generalize wx home env e d=H at*;have v:(k.length+1)*112<=140737488355328:=by omega
    rw[g487L0e]at L;simp[kF,og,fK,CE,xG,g,hy,f,hi,h]at L m;simp at o;rw[aA g487];simp[g487,gM,lJ,h,f,hi,g,hy,g487L0e,L,o,m,v]
   ·intro l' c;split at c
    ·rename_i w;rw[hl]at c;cases c;rw[i l hl];exact⟨by simp[w],rfl⟩
    ·cases c
   ·intro w;by_cases t1:d.ty=y.ty
    ·rw[zak t1,hl]at w;cases w
    ·simp[t1]
  ·refine⟨false,[],?_,?_,fun _=>rfl,by simp⟩
   ·rw[g487L0e]at L;simp[kF,og,fK,CE,xG,g,hy,f,hi,h]at L;rw[aA g487];simp[g487,gM,lJ,h,f,hi,g,hy,g487L0e,L]
   ·intro l w;rw[hf]at w;split at w<;>cases w
theorem fk4{ds:List Dt}{home:Int}{n N:Nat}{env:List En}{e x:Ex}{d y:Dv}(j:e.kind=4)(i:e.kids=[x])(hy:d.kids=[y])(E:Sm env)(hN:N<=1000000)(h1:1<=N)(s:∀a b,ky d.ty=some (a,b)->b.Ok∧Fk 487 (gM ds home (env++[(⟨e.name,⟨0,a⟩⟩:En)]) x y) (aJ ds home n (env++[⟨e.name,⟨0,a⟩⟩]) x y) N):
   Fk 487 (gM ds home env e d) (aJ ds home (n+1) env e d) N:=by
 by_cases q:(e.kind≠6∧e.kind≠7∧d.gen≠[])∨(e.kind≠1∧e.kind≠2∧e.kind≠8∧d.inst≠[])
 ·obtain⟨b,l,B,o,A,I⟩:=lg (ds:=ds) (home:=home) (n:=n) (env:=env) q;exact⟨b,l,B,o,A,by omega⟩
 ·obtain⟨h,hi⟩:=dC q;have h:=h (by omega) (by omega);have hi:=hi (by omega) (by omega) (by omega);have f:=c509 (t:=d.ty)
  have F:aJ ds home (n+1) env e d=match ky d.ty with
   |some (a,b)=>if b=y.ty then aJ ds home n (env++[⟨e.name,⟨0,a⟩⟩]) x y else none
   |none=>none:=by
   rw[aJ,zad q];simp[j,kE,sB,i,hy]<;>cases ky d.ty<;>rfl
  rw[F];cases r:ky d.ty with
  |none=>
   refine⟨false,[],?_,fun l z=>by(cases z),fun _=>rfl,by simp⟩;rw[r]at f;simp[CS,ca]at f;rw[aA g487];simp[g487,gM,lJ,j,h,hi,i,hy,f]
  |some H=>
   obtain⟨a,b⟩:=H;obtain⟨G,s⟩:=s a b r;rw[r]at f;have u:=c33e (a:=b) (b:=y.ty) G;have m:=c438 (t:=a);have k:=c177 E (n:=e.name) (c:=⟨0,a⟩);simp only;generalize D:env++[(⟨e.name,⟨0,a⟩⟩:En)]=v at*;rcases zF (env:=env) i hy true b hN s with⟨C,p,o,⟨l,hl⟩,L⟩|⟨hf,L⟩
   ·refine⟨decide (b=y.ty),C,?_,?_,?_,p⟩
    ·generalize decide (b=y.ty)=b1 at*;rw[g487L0e]at L;simp[kF,og,fK,CE,xG,i,hy,h,hi,j]at L;simp[CS]at f u m k;rw[aA g487];simp[g487,gM,lJ,j,h,hi,i,hy,f,m,k,g487L0e,L,u]
    ·intro l' g;split at g
     ·rename_i w;exact⟨by simp[w],o l' g⟩
     ·cases g
    ·intro w;by_cases t1:b=y.ty
     ·rw[zak t1,hl]at w;cases w
     ·simp[t1]
   ·refine⟨false,[],?_,?_,fun _=>rfl,by simp⟩
    ·rw[g487L0e]at L;simp[kF,og,fK,CE,xG,i,hy,h,hi,j]at L;simp[CS]at f m k;rw[aA g487];simp[g487,gM,lJ,j,h,hi,i,hy,f,m,k,g487L0e,L]
    ·intro l w;rw[hf]at w;split at w<;>cases w
theorem fk5{ds:List Dt}{home:Int}{n C F:Nat}{env:List En}{e k x1:Ex}{d f c:Dv}(A:e.kind=5)(o:e.kids=[k,x1])(hy:d.kids=[f,c])(P:f.ty.Ok)(hN:C+F<=1000000)(h1:1<=C)(IH0:Fk 487 (gM ds home env k f) (aJ ds home n env k f) C)(IH1:Fk 487 (gM ds home env x1 c) (aJ ds home n env x1 c) F):
   Fk 487 (gM ds home env e d) (aJ ds home (n+1) env e d) (C+F):=by
 by_cases E:(e.kind≠6∧e.kind≠7∧d.gen≠[])∨(e.kind≠1∧e.kind≠2∧e.kind≠8∧d.inst≠[])
 ·obtain⟨b,l,N,M,K,U⟩:=lg (ds:=ds) (home:=home) (n:=n) (env:=env) E;exact⟨b,l,N,M,K,by omega⟩
 ·obtain⟨s,hi⟩:=dC E;have s:=s (by omega) (by omega);have hi:=hi (by omega) (by omega) (by omega);have I:=c220 (a:=c.ty) (b:=d.ty);have H:=c33e (a:=f.ty) (b:=ek c.ty d.ty) P
  have Q:aJ ds home (n+1) env e d=if f.ty=ek c.ty d.ty then(match aJ ds home n env k f with|some l=>(match aJ ds home n env x1 c with|some m=>some (l++m)|none=>none)|none=>none)else none:=by
   rw[aJ,zad E];simp[A,kE,sB,o,hy]<;>cases aJ ds home n env k f<;>first|rfl|(cases aJ ds home n env x1 c<;>rfl)
  rw[Q];obtain⟨b0,D,p1,p2,p3,p4⟩:=IH0.p;obtain⟨b1,G,r1,r2,r3,S⟩:=IH1.p;have z:e.kids[0]?=some k:=by rw[o];rfl
  have y:e.kids[1]?=some x1:=(by rw[o];rfl);have v:d.kids[0]?=some f:=(by rw[hy];rfl);have u:d.kids[1]?=some c:=(by rw[hy];rfl);have hl:e.kids.length=2:=by rw[o];rfl
  have B:∀L,cl AP g487L0 (kF ds home env env e d false ca [] 0)=some (.ret,⟨[(8,.cQ []),(9,.pv (.bool false))],[],[],L::xG false⟩)->(aC AP).i 487 ((gM ds home env e d).map .pv) [] []=some ([.own [] 0,.pv (.bool false)],[],[0]):=by
   intro T L;rw[g487L0e]at L;simp[kF,og,fK,CE,xG,o,hy,s,hi,A]at L;rw[aA g487];simp[g487,gM,lJ,A,s,hi,o,hy,g487L0e,L]
  cases b0 with
  |false=>
   have fn:aJ ds home n env k f=none:=by
    cases hf:aJ ds home n env k f with
    |none=>rfl
    |some l=>have:=(p2 l hf).1;cases this
   refine⟨false,[],B _ (OT (by omega) z v p1),?_,fun _=>rfl,by simp⟩;intro l w;rw[fn]at w;split at w<;>cases w
  |true=>
   obtain⟨m0,h⟩:=Fk.yes (g:=0) (x:=[]) p3 rfl;have e0:=(p2 m0 h).2;have L1:=OU (ds:=ds) (home:=home) (env:=env) (envF:=env) (e:=e) (d:=d) (q:=false) (t:=ca) (acc:=[]) (i:=0) (by omega) (by simp) z v (by omega) p1;rw[za8]at L1;cases b1 with
   |false=>
    have fn:aJ ds home n env x1 c=none:=by
     cases hf:aJ ds home n env x1 c with
     |none=>rfl
     |some l=>have:=(r2 l hf).1;cases this
    refine⟨false,[],B _ (L1.trans (OT (by omega) y u r1)),?_,fun _=>rfl,by simp⟩;intro l w;rw[h,fn]at w;split at w<;>cases w
   |true=>
    obtain⟨O,r⟩:=Fk.yes (g:=0) (x:=[]) r3 rfl;have e1:=(r2 O r).2;have R:=OU (ds:=ds) (home:=home) (env:=env) (envF:=env) (e:=e) (d:=d) (q:=false) (t:=ca) (acc:=D) (i:=1) (by omega) (by omega) y u (by omega) r1;have J:=SX (ds:=ds) (home:=home) (env:=env) (envF:=env) (e:=e) (d:=d) (q:=false) (t:=ca) (acc:=D++G);rw[hl]at J;have L:=(L1.trans R).trans J;refine⟨decide (f.ty=ek c.ty d.ty),D++G,?_,?_,?_,by simp;omega⟩
    ·generalize decide (f.ty=ek c.ty d.ty)=b at*;rw[g487L0e]at L;simp[kF,og,fK,CE,xG,o,hy,s,hi,A]at L;simp[ek]at I H;rw[aA g487];simp[g487,gM,lJ,A,s,hi,o,hy,g487L0e,L,I,H]
    ·intro l' j;rw[h,r]at j;split at j
     ·rename_i w;cases j;rw[e0,e1];exact⟨by simp[w],rfl⟩
     ·cases j
    ·intro w;rw[h,r]at w;split at w
     ·cases w
     ·rename_i t1;simp[t1]
noncomputable def CF(f:List En->Ex->Dv->Option (List Rd))(env first:List En)(e c x1:Ex)(d a b:Dv):Option (List Rd):=
 match f first c a with
 |none=>none
 |some l=>if kv d.gen (vars [a.ty]) (dt env++vars (aU (l.map Rd.h))) 0=true∧d.ty=b.ty then
  match f (lf env e d a.ty) x1 b with
  |some m=>some (l++m)
  |none=>none
   else none
theorem XW{ds:List Dt}{home:Int}{n D B:Nat}{env first:List En}{e k x1:Ex}{d f j:Dv}(v:e.kids=[k,x1])(hy:d.kids=[f,j])(hd:d.Sd)(A:zR f.ty)(J:kD env)(hN:D+B<=1000000)
   (F:Fk 487 (gM ds home first k f) (aJ ds home n first k f) D)
   (N:∀l,aJ ds home n first k f=some l->l.length<=1000∧∀r∈l,sR r.h∧r.Cl)
   (E:Fk 487 (gM ds home (lf env e d f.ty) x1 j) (aJ ds home n (lf env e d f.ty) x1 j) B):
   Fk 508 [lJ ds home,.aq (env.map En.pv),.aq (first.map En.pv),e.pv,d.pv] (CF (aJ ds home n) env first e k x1 d f j) (D+B):=by
 have gl:=hd.gl;obtain⟨b0,s,p1,p2,p3,p4⟩:=F;obtain⟨b1,G,r1,r2,r3,O⟩:=E;have I:=c437 (S:=f.ty.nodes) (by have:=A.n;omega) (A.zU fun y hy=>hy) (ids:=d.gen) (by unfold Sm;omega);have u:=c177 J.sm (n:=e.name) (c:=dB d.gen f.ty (vars [f.ty]));have H:=c33e (a:=d.ty) (b:=j.ty) hd.t.ok;unfold CF;cases b0 with
 |false=>
  have fn:aJ ds home n first k f=none:=by
   cases hf:aJ ds home n first k f with
   |none=>rfl
   |some l=>have:=(p2 l hf).1;cases this
  rw[fn];refine⟨false,[],?_,fun l z=>by(cases z),fun _=>rfl,by simp⟩;simp[gM,lJ]at p1;rw[aA g508];simp[g508,lJ,v,hy,p1]
 |true=>
  obtain⟨m0,q⟩:=Fk.yes (g:=0) (x:=[]) p3 rfl;have e0:=(p2 m0 q).2;subst e0;obtain⟨hl,hr⟩:=N _ q;have o:=c493 gl A J hl (fun r p=>(hr r p).1);rw[OP fun r p=>(hr r p).2]at o;rw[q];simp only;cases gb:kv d.gen (vars [f.ty]) (dt env++vars (aU (s.map Rd.h))) 0 with
  |false=>
   rw[zad (by simp)];refine⟨false,[],?_,fun l z=>by(cases z),fun _=>rfl,by simp⟩;rw[gb]at o;simp[gM,lJ]at p1 o;rw[aA g508];simp[g508,lJ,v,hy,p1,o]
  |true=>
   rw[gb]at o;have M:(s.length+G.length)*112<=140737488355328:=by omega
   refine⟨b1 && decide (d.ty=j.ty),s++G,?_,?_,?_,by simp;omega⟩
   ·generalize decide (d.ty=j.ty)=b at*
    change _=some [PV.aq ((lf env e d f.ty).map En.pv)]at u
    generalize dB d.gen f.ty (vars [f.ty])=C at*;generalize lf env e d f.ty=E2 at*;simp[gM,lJ]at p1 o I u H r1;rw[aA g508];cases b1<;>simp[g508,lJ,v,hy,p1,o,I,u,r1,H,M]
   ·intro l' i;split at i
    ·rename_i w;cases f1:aJ ds home n (lf env e d f.ty) x1 j with
     |none=>rw[f1]at i;cases i
     |some m=>
      rw[f1]at i;cases i;obtain⟨L,K⟩:=r2 m f1;rw[K];exact⟨by simp[L,w.2],rfl⟩
    ·cases i
   ·intro w;by_cases t1:d.ty=j.ty
    ·rw[zak ⟨rfl,t1⟩]at w;cases f1:aJ ds home n (lf env e d f.ty) x1 j with
     |none=>simp[r3 f1]
     |some m=>rw[f1]at w;cases w
    ·simp[t1]
theorem Y_{ds:List Dt}{home:Int}{n k q:Nat}{env:List En}{e i x1:Ex}{d a j:Dv}(f:e.kind=6∨e.kind=7)(y:e.kids=[i,x1])(hy:d.kids=[a,j])(hd:d.Sd)(A:zR a.ty)(z:kD env)(hN:k+q<=1000000)(h1:1<=k)
   (u:Fk 487 (gM ds home (ij env e a.ty) i a) (aJ ds home n (ij env e a.ty) i a) k)
   (C:∀l,aJ ds home n (ij env e a.ty) i a=some l->l.length<=1000∧∀r∈l,sR r.h∧r.Cl)
   (s:Fk 487 (gM ds home (lf env e d a.ty) x1 j) (aJ ds home n (lf env e d a.ty) x1 j) q):
   Fk 487 (gM ds home env e d) (aJ ds home (n+1) env e d) (k+q):=by
 by_cases p:(e.kind≠6∧e.kind≠7∧d.gen≠[])∨(e.kind≠1∧e.kind≠2∧e.kind≠8∧d.inst≠[])
 ·obtain⟨b,l,g,o,m,v⟩:=lg (ds:=ds) (home:=home) (n:=n) (env:=env) p;exact⟨b,l,g,o,m,by omega⟩
 ·obtain⟨_,hi⟩:=dC p;have hi:=hi (by omega) (by omega) (by omega)
  have B:aJ ds home (n+1) env e d=CF (aJ ds home n) env (ij env e a.ty) e i x1 d a j:=by
   rw[aJ,zad p,zad (by omega),zad (by omega),zad (by omega),zad (by omega),zad (by omega),zak f];simp only[kE,sB,y,hy,zbY,zbZ,zbi];rfl
  rw[B];obtain⟨b,l,g,o,m,v⟩:=XW y hy hd A z hN u C s;have x:=c177 z.sm (n:=e.name) (c:=⟨0,a.ty⟩);have w:=c438 (t:=a.ty);refine⟨b,l,?_,o,m,v⟩;rcases f with f|f
  ·simp[lJ,ij,f,hi]at g;rw[aA g487];simp[g487,gM,lJ,f,hi,g]
  ·have e2:ij env e a.ty=env++[⟨e.name,⟨0,a.ty⟩⟩]:=(by simp[ij,f]);rw[e2]at g;simp[lJ,f,hi,hy]at g;simp[f]at x w;rw[aA g487];simp[g487,gM,lJ,f,hi,hy,x,w,g]
theorem SY{ds:List Dt}{home:Int}{env:List En}(s:env.length<=1000000){e:Ex}{d:Dv}{i:Nat}{a:Ar}{fs:List Ty}(hl:fs.length=a.vars.length)(hf:fs.length<=1000){l:List Rd}:∀(k j:Nat),a.vars.length-j=k->j<=a.vars.length->∀acc:List En,acc.length<=env.length+j->
   cl AP g507L1 ⟨[(1,.pv (.aq (env.map En.pv))),(4,.au 4 0),(7,.au 7 0),(12,.own (l.map Rd.pv) 0),(13,.pv (vI i)),(14,.au 14 0),(15,.pv (.aq (fs.map Ty.pv))),(17,.pv (.aq (acc.map En.pv))),(77,.pv (.aq (e.aF.map Ar.pv))),(78,.pv (vI e.aF.length)),(79,.pv (vI i)),(110,.pv (.aq (a.vars.map .str))),(111,.pv (vI a.vars.length)),(112,.pv (vI j))],[(4,og ds home),(7,fK d),(14,qZ a)],[],[l.length]⟩=
     some (.exit 2,⟨[(1,.pv (.aq (env.map En.pv))),(4,.au 4 0),(7,.au 7 0),(12,.own (l.map Rd.pv) 0),(13,.pv (vI i)),(14,.au 14 0),(15,.pv (.aq (fs.map Ty.pv))),(17,.pv (.aq ((acc++((a.vars.zip fs).drop j).map fun p=>(⟨p.1,⟨0,p.2⟩⟩:En)).map En.pv))),(77,.pv (.aq (e.aF.map Ar.pv))),(78,.pv (vI e.aF.length)),(79,.pv (vI i)),(110,.pv (.aq (a.vars.map .str))),(111,.pv (vI a.vars.length)),(112,.pv (vI a.vars.length)),(113,.pv (.bool false))],[(4,og ds home),(7,fK d),(14,qZ a)],[],[l.length]⟩)
 |0,j,o,hj,acc,r=>by
  have:j=a.vars.length:=by omega
  subst this;have z:(a.vars.zip fs).drop a.vars.length=[]:=zaX (by rw[zcz];exact zcU _ _);rw[z,g507L1e];simp[g507B1,og,fK,qZ]
 |k+1,j,o,hj,acc,r=>by
  have hj:j<a.vars.length:=(by omega);obtain⟨v,h⟩:=aP hj;obtain⟨t,m⟩:=aP (l:=fs) (i:=j) (by omega);have q:j<fs.length:=(by omega);have g:=c438 (t:=t);have f:=c177 (l:=acc) (by unfold Sm;omega) (n:=v) (c:=⟨0,t⟩);have b:=SY (ds:=ds) (home:=home) s (e:=e) (d:=d) (i:=i) hl hf (l:=l) k (j+1) (by omega) (by omega) (acc++[⟨v,⟨0,t⟩⟩]) (by simp;omega)
  have z:acc++[(⟨v,⟨0,t⟩⟩:En)]++((a.vars.zip fs).drop (j+1)).map (fun p=>(⟨p.1,⟨0,p.2⟩⟩:En))=acc++((a.vars.zip fs).drop j).map fun p=>(⟨p.1,⟨0,p.2⟩⟩:En):=by
   rw[xD (env:=env) h m];simp
  rw[z]at b;generalize acc++((a.vars.zip fs).drop j).map (fun p=>(⟨p.1,⟨0,p.2⟩⟩:En))=R at*;rw[g507L1e]at b⊢;simp[og,fK,qZ]at b;simp at g f;simp(disch:=omega)[-getElem?_pos,g507B1,og,fK,qZ,hj,m,q,h,g,f,ah];rw[g507L1e];simp[b]
def q_(ds:List Dt)(home:Int)(env:List En)(e:Ex)(d:Dv)(b:Bool)(l:List Rd)(i:Nat):St:=
 ⟨[(1,.pv (.aq (env.map En.pv))),(4,.au 4 0),(7,.au 7 0),(11,.pv (.bool b)),(12,.own (l.map Rd.pv) 0),(77,.pv (.aq (e.aF.map Ar.pv))),(78,.pv (vI e.aF.length)),(79,.pv (vI i))],[(4,og ds home),(7,fK d)],[],[l.length]⟩
def Y'(ds:List Dt)(home:Int)(env:List En)(e:Ex)(d:Dv)(fit:Option (List Rd))(N:Nat)(r:Option (aR×St)):Prop:=∃(b:Bool)(a:List Rd),
 (r=some (.exit 0,⟨[(1,.pv (.aq (env.map En.pv))),(4,.au 4 0),(7,.au 7 0),(11,.pv (.bool b)),(12,.own (a.map Rd.pv) 0),(77,.pv (.aq (e.aF.map Ar.pv))),(78,.pv (vI e.aF.length)),(79,.pv (vI e.aF.length)),(80,.pv (.bool false))],[(4,og ds home),(7,fK d)],[],[a.length]⟩)∨
  (b=false∧a=[]∧∃T:aG,r=some (.ret,⟨[(8,.cQ []),(9,.pv (.bool false))],[],[],T⟩)))∧
 (∀l,fit=some l->b=true∧a=l)∧(fit=none->b=false)∧a.length<=N
theorem SZ{ds:List Dt}(g:Small ds)(f:∀x:Ty,x.Cw->x.Wb){home:Int}{env:List En}{e:Ex}{d:Dv}(hd:d.Sd)(h:e.aF.length<=1000){l:List Rd}{i:Nat}{a:Ar}(hx:e.aF[i]?=some a):∃T:aG,cl AP g507L0 (q_ ds home env e d false l i)=some (.ret,⟨[(8,.cQ []),(9,.pv (.bool false))],[],[],T⟩):=by
 have hi:=(zaa.1 hx).1;have c:=hd.il;have b:=c206 g (as:=d.inst) (by unfold Sm;omega) f (s:=a.dK);refine⟨[l.length],?_⟩;rw[g507L0e];simp[Cm]at b;simp(disch:=omega)[-getElem?_pos,q_,g507B0,og,fK,qZ,hx,hi,b,ah]
theorem S3{ds:List Dt}(F:Small ds)(E:∀x:Ty,x.Cw->x.Wb){home:Int}{n:Nat}{env:List En}(O:env.length<=1000000){e:Ex}{d:Dv}(hd:d.Sd)(J:∀a∈e.aF,a.vars.length<=1000)(M:e.aF.length<=1000)(X:d.kids.length=e.aF.length+1)
   (N:∀a∈e.aF,∃fs,fieldsOf ds a.dK d.inst=some fs)
   (P:∀(k:Nat)(a:Ar)(fs:List Ty)(y:Dv),e.aF[k]?=some a->d.kids[k+1]?=some y->fieldsOf ds a.dK d.inst=some fs->fs.length=a.vars.length->Fk 487 (gM ds home (iC env a.vars fs) a.body y) (aJ ds home n (iC env a.vars fs) a.body y) a.body.sz):
   ∀(k i:Nat),e.aF.length-i=k->i<=e.aF.length->∀(l:List Rd),l.length+bP (e.aF.drop i)<=1000000->
     Y' ds home env e d (iD (aJ ds home n) ds env d (e.aF.drop i) (i+1) l) (l.length+bP (e.aF.drop i)) (cl AP g507L0 (q_ ds home env e d true l i))
 |0,i,C,hi,l,b1=>by
  have:i=e.aF.length:=by omega
  subst this;rw[za1];refine⟨true,l,.inl ?_,?_,?_,by omega⟩
  ·rw[g507L0e];simp[q_,g507B0,og,fK]
  ·intro r hr;simp only[iD,zae]at hr;exact⟨rfl,hr⟩
  ·intro hr;simp[iD]at hr
 |k+1,i,C,hi,l,b1=>by
  have hi:i<e.aF.length:=(by omega);obtain⟨a,hx⟩:=aP hi;obtain⟨y,hy⟩:=aP (l:=d.kids) (i:=i+1) (by omega);have c:i+1<d.kids.length:=(by omega);have hm:=aN hx;have W:=J a hm;obtain⟨fs,H⟩:=N a hm;have Y:=hd.il;have h:=c206 F (as:=d.inst) (by unfold Sm;omega) E (s:=a.dK);rw[H]at h;have Q:=(hd.k y (aN hy)).t.ok;have I:=c33e (a:=y.ty) (b:=d.ty) Q;have B:kE d (i+1)=y:=by simp[kE,hy]
  have Z:iD (aJ ds home n) ds env d (e.aF.drop i) (i+1) l=if fs.length=a.vars.length∧y.ty=d.ty then
   match aJ ds home n (iC env a.vars fs) a.body y with
   |some m=>iD (aJ ds home n) ds env d (e.aF.drop (i+1)) (i+1+1) (l++m)
   |none=>none
    else none:=by
    rw[aV hx];simp only[iD,H,B]<;>split<;>first|rfl|(cases aJ ds home n (iC env a.vars fs) a.body y<;>rfl)
  rw[Z];have K:bP (e.aF.drop i)=a.body.sz+bP (e.aF.drop (i+1)):=by rw[aV hx];simp[bP]
  by_cases t1:fs.length=a.vars.length
  ·have L:=SY (ds:=ds) (home:=home) O (e:=e) (d:=d) (i:=i) (a:=a) t1 (by omega) (l:=l) _ 0 rfl (by omega) env (by omega);rw[zar]at L;have G:env++(a.vars.zip fs).map (fun p=>(⟨p.1,⟨0,p.2⟩⟩:En))=iC env a.vars fs:=rfl;rw[G]at L;obtain⟨b,m,p1,p2,p3,p4⟩:=P i a fs y hx hy H t1;generalize hA:iC env a.vars fs=A at*;have bb:(l.length+m.length)*112<=140737488355328:=by omega
   have key:cl AP g507L0 (q_ ds home env e d true l i)=cl AP g507L0 (q_ ds home env e d (b && decide (y.ty=d.ty)) (l++m) (i+1)):=by
    generalize o:cl AP g507L0 (q_ ds home env e d (b && decide (y.ty=d.ty)) (l++m) (i+1))=RR;generalize decide (y.ty=d.ty)=b2 at*;rw[g507L1e]at L;rw[g507L0e]at o⊢;simp[og,fK,qZ]at L;simp[gM,lJ]at p1;simp[q_,og,fK]at o;simp[Cm]at h I;cases b <;>
    ·simp at p1 o;simp(disch:=omega)[-getElem?_pos,q_,g507B0,og,fK,qZ,hx,hi,hy,c,h,I,t1,ah,g507L1e,L,p1,bb];rw[g507L0e];simp[o]
   rw[key];by_cases D:b=true∧y.ty=d.ty
   ·obtain⟨g1,g2⟩:=D;obtain⟨m',j⟩:=Fk.yes (g:=0) (x:=[]) p3 g1;have e0:=(p2 m' j).2;rw[zak ⟨t1,g2⟩,j,<-e0];simp only;have f:(b && decide (y.ty=d.ty))=true:=by simp[g1,g2]
    rw[f];obtain⟨b',l',V,U,S,R⟩:=S3 F E O (e:=e) hd J M X N P k (i+1) (by omega) (by omega) (l++m) (by simp;omega);exact⟨b',l',V,U,S,by rw[zan]at R;omega⟩
   ·have f:(b && decide (y.ty=d.ty))=false:=by
     cases b with
     |false=>rfl
     |true=>simp only[zba,zbW];exact fun q=>D ⟨rfl,q⟩
    rw[f]
    have fn:(if fs.length=a.vars.length∧y.ty=d.ty then
     match aJ ds home n A a.body y with
     |some m=>iD (aJ ds home n) ds env d (e.aF.drop (i+1)) (i+1+1) (l++m)
     |none=>none
      else none)=none:=by
      split
      ·rename_i w;cases hf:aJ ds home n A a.body y with
       |none=>rfl
       |some m'=>exact absurd ⟨(p2 m' hf).1,w.2⟩ D
      ·rfl
    rw[fn];rcases zbv (i+1) e.aF.length with h2|h2
    ·obtain⟨a',v⟩:=aP h2;obtain⟨T,w⟩:=SZ F E (home:=home) (env:=env) hd M (l:=l++m) v;exact⟨false,[],.inr ⟨rfl,rfl,T,w⟩,fun _ z=>(by cases z),fun _=>rfl,by simp⟩
    ·have h3:i+1=e.aF.length:=(by omega);refine⟨false,l++m,.inl ?_,fun _ z=>(by cases z),fun _=>rfl,by simp;omega⟩;rw[h3,g507L0e];simp[q_,g507B0,og,fK]
  ·rw[zad (fun z=>t1 z.1)];refine⟨false,[],.inr ⟨rfl,rfl,[l.length],?_⟩,fun _ z=>(by cases z),fun _=>rfl,by simp⟩;rw[g507L0e];simp[Cm]at h;have u:¬(fs.length:Int)=a.vars.length:=by omega
   simp (disch:=omega) [-getElem?_pos,q_,g507B0,og,fK,qZ,hx,hi,hy,c,h,u,ah]
theorem XX{ds:List Dt}(C:Small ds)(O:∀x:Ty,x.Cw->x.Wb){home:Int}{n G:Nat}{env:List En}{e p:Ex}{d h:Dv}(Z:env.length<=1000000)(B:e.kids=[p])(hd:d.Sd)(c:d.kids[0]?=some h)(S:∀a∈e.aF,a.vars.length<=1000)(N:e.aF.length<=1000)(U:d.kids.length=e.aF.length+1)
   {i0:Nat} {D:Dt} (X:eL ds e.aF=some i0) (hi:ds[i0]?=some D) (hN:G+bP e.aF<=1000000) (h0:e.aF≠[]) (H:Fk 487 (gM ds home env p h) (aJ ds home n env p h) G)
   (Y:d.inst.length=D.params.length->∀a∈e.aF,∃fs,fieldsOf ds a.dK d.inst=some fs)
   (IH:d.inst.length=D.params.length->∀(k:Nat)(a:Ar)(fs:List Ty)(y:Dv),e.aF[k]?=some a->d.kids[k+1]?=some y->fieldsOf ds a.dK d.inst=some fs->fs.length=a.vars.length->Fk 487 (gM ds home (iC env a.vars fs) a.body y) (aJ ds home n (iC env a.vars fs) a.body y) a.body.sz):
   Fk 507 (gM ds home env e d) (vO (aJ ds home n) ds D env e p d h) (G+bP e.aF):=by
 have V:=hd.il;have j:=(zaa.1 hi).1;have i:=c407 C.num C.dK (as:=e.aF);have v:=c218 (s:=D.name) (l:=d.inst) (by unfold Sm;omega);have P:=(hd.k h (aN c)).t.ok;have o:=c33e (a:=h.ty) (b:=⟨4,D.name,0,0,d.inst⟩) P;have m:0<d.kids.length:=by omega
 rw[X]at i;unfold vO;by_cases t1:d.inst.length=D.params.length
 ·by_cases f:h.ty=⟨4,D.name,0,0,d.inst⟩
  ·rw[zak ⟨t1,f⟩];rw[zaG f]at o;obtain⟨b,M,A,K,R,q4⟩:=H;cases b with
   |false=>
    have fn:aJ ds home n env p h=none:=by
     cases q:aJ ds home n env p h with
     |none=>rfl
     |some l=>have:=(K l q).1;cases this
    rw[fn]
    obtain⟨a,F⟩:∃a,e.aF[0]?=some a:=by
     cases W:e.aF with
     |nil=>exact absurd W h0
     |cons a r=>exact⟨a,rfl⟩
    obtain⟨T,L⟩:=SZ C O (home:=home) (env:=env) hd N (l:=M) F;refine⟨false,[],?_,fun l z=>by(cases z),fun _=>rfl,by simp⟩;rw[g507L0e]at L;simp[gM,lJ,f]at A;simp[q_,og,fK]at L;simp[gS,f]at i v o;rw[aA g507];simp[-getElem?_pos,g507,gM,lJ,fK,B,hi,j,t1,f,c,m,i,v,o,A,g507L0e,L]
   |true=>
    obtain⟨m0,w⟩:=Fk.yes (g:=0) (x:=[]) R rfl;have e0:=(K m0 w).2;subst e0;rw[w];simp only;obtain⟨b',l',u,J,I,Q⟩:=S3 C O Z (home:=home) (e:=e) hd S N U (Y t1) (IH t1) _ 0 rfl (by omega) M (by rw[zar];omega);rw[zar]at J I Q;refine⟨b',l',?_,J,I,by omega⟩;rw[g507L0e]at u;simp[gM,lJ,f]at A;simp[gS,f]at i v o;rw[aA g507];rcases u with u|⟨rfl,rfl,T,u⟩<;>
    ·simp[q_,og,fK]at u;simp[-getElem?_pos,g507,gM,lJ,fK,B,hi,j,t1,f,c,m,i,v,o,A,g507L0e,u]
  ·rw[zad (fun z=>f z.2)];refine⟨false,[],?_,fun l z=>by(cases z),fun _=>rfl,by simp⟩;rw[zaC f]at o;simp[gS]at i v o;rw[aA g507];simp[-getElem?_pos,g507,gM,lJ,B,hi,j,t1,c,m,i,v,o]
 ·rw[zad (fun z=>t1 z.1)];refine⟨false,[],?_,fun l z=>by(cases z),fun _=>rfl,by simp⟩;have E:¬(d.inst.length:Int)=D.params.length:=by omega
  simp[gS]at i;rw[aA g507];simp[-getElem?_pos,g507,gM,lJ,B,hi,j,E,c,m,i]
theorem fk8{ds:List Dt}(E:Small ds)(A:∀x:Ty,x.Cw->x.Wb){home:Int}{n q:Nat}{env:List En}{e g:Ex}{d f:Dv}(c:e.kind=8)(C:env.length<=1000000)(s:e.kids=[g])(hd:d.Sd)(h:d.kids[0]?=some f)(v:∀a∈e.aF,a.vars.length<=1000)(z:e.aF.length<=1000)(w:d.kids.length=e.aF.length+1)
   {i0:Nat} {D:Dt} (t:eL ds e.aF=some i0) (hi:ds[i0]?=some D) (hN:q+bP e.aF<=1000000) (h0:e.aF≠[]) (r:Fk 487 (gM ds home env g f) (aJ ds home n env g f) q)
   (B:d.inst.length=D.params.length->∀a∈e.aF,∃fs,fieldsOf ds a.dK d.inst=some fs)
   (G:d.inst.length=D.params.length->∀(k:Nat)(a:Ar)(fs:List Ty)(y:Dv),e.aF[k]?=some a->d.kids[k+1]?=some y->fieldsOf ds a.dK d.inst=some fs->fs.length=a.vars.length->Fk 487 (gM ds home (iC env a.vars fs) a.body y) (aJ ds home n (iC env a.vars fs) a.body y) a.body.sz):
   Fk 487 (gM ds home env e d) (aJ ds home (n+1) env e d) (q+bP e.aF+1):=by
 by_cases p:(e.kind≠6∧e.kind≠7∧d.gen≠[])∨(e.kind≠1∧e.kind≠2∧e.kind≠8∧d.inst≠[])
 ·obtain⟨b,l,i,o,m,u⟩:=lg (ds:=ds) (home:=home) (n:=n) (env:=env) p;exact⟨b,l,i,o,m,by omega⟩
 ·obtain⟨j,_⟩:=dC p;have j:=j (by omega) (by omega)
  have F:aJ ds home (n+1) env e d=vO (aJ ds home n) ds D env e g d f:=by
   rw[aJ,zad p];simp[c,kE,sB,s,h,t,hi,vO]<;>split<;>first|rfl|(cases aJ ds home n env g f<;>rfl)
  obtain⟨b,l,i,o,m,u⟩:=XX E A C s hd h v z w t hi hN h0 r B G;rw[F];refine⟨b,l,?_,o,m,by omega⟩;simp[gM,lJ,c,j]at i;rw[aA g487];simp[g487,gM,lJ,c,j,i]
theorem CG{t:Ty}(h:eF t=true):t.Kn KS:=by
 unfold eF at h;simp only[zaf]at h;obtain⟨a,hf⟩:=h
 revert a hf
 refine Ty.cB (p:=fun t=>cC t=true->oC t=true->t.Kn KS) ?_ t;intro t g a hf;rw[Cg]at hf;simp only[zaf,zcl,zbW,zbl,Bool.not_eq_true,Bool.not_eq_false]at hf;obtain⟨⟨f1,f2⟩,f3⟩:=hf;rw[nI]at a;by_cases b:t.kind=1∨t.kind=2
 ·rw[zak b]at a;simp at a;obtain⟨⟨⟨⟨f,e⟩,_⟩,_⟩,_⟩:=a;refine .bare e (fun _=>?_) (by rw[f];simp);rcases b with b|b
  ·rw[b];simp
  ·exact absurd b f1
 ·rw[zad b]at a;by_cases d:t.kind=3
  ·rw[zak d]at a;simp at a;obtain⟨⟨⟨⟨⟨f,e⟩,_⟩,_⟩,_⟩,_⟩:=a;exact .bare e (fun _=>by rw[d];simp) (by rw[f];simp)
  ·rw[zad d,zad f2]at a;by_cases c:t.kind=4
   ·rw[zak c]at a;simp at a;obtain⟨⟨_,hn⟩,i⟩:=a;refine .mk (fun q=>absurd c q) ?_ (fun x hx=>g x hx (i x hx) (f3 x hx));unfold kZ at hn;split at hn
    ·rename_i q;rw[q];simp
    ·split at hn
     ·rename_i q;rw[q];simp
     ·simp only[zaf]at hn;have h1:=hn.1;unfold eJ at h1;split at h1
      ·cases h1
      ·simp only[zaf,zaW]at h1;rename_i q;rw[q];omega
   ·rw[zad c]at a;cases a
structure Gl(t:Ty):Prop where
 ok:t.Ok
 kn:t.Kn KS
 n:t.nodes.length<=50000
theorem Gl.r{t:Ty}(h:Gl t):zR t:=⟨h.ok,h.kn.wf,by have:=h.n;omega⟩
theorem zG{t x:Ty}(hx:x∈t.args):x.nodes.length<=t.nodes.length:=by
 rw[Ty.aM t,zax,zaZ];have:=kr (f:=fun y:Ty=>y.nodes.length) hx;omega
theorem Gl.cY{t x:Ty}(h:Gl t)(hx:x∈t.args):Gl x:=⟨h.ok.cY x hx,h.kn.kd x hx,by have:=zG hx;have:=h.n;omega⟩
theorem vP{t a b:Ty}(h:ky t=some (a,b)):a∈t.args∧b∈t.args:=by
 unfold ky at h;split at h
 ·split at h
  ·rename_i x y e;cases h;rw[e];simp
  ·cases h
 ·cases h
structure S4(t:Ty):Prop where
 ok:t.Ok
 kn:t.Kn KV
 n:t.nodes.length<=1000000
theorem Gl.c{t:Ty}(h:Gl t):S4 t:=⟨h.ok,h.kn.imp NX,by have:=h.n;omega⟩
theorem S4.r{t:Ty}(h:S4 t):zR t:=⟨h.ok,h.kn.wf,h.n⟩
theorem Gl.close{t:Ty}(h:Gl t)(ids:List Int):S4 (dB ids t (vars [t])).ty:=by
 obtain⟨c1,c2,_,d⟩:=kt (ids:=ids) (vars [t]) [] (by simp);refine⟨o9 h.ok,?_,?_⟩
 ·refine qQ (K:=KS) h.kn (by simp only[KS,KV];omega) ?_ (.inl (by simp));intro i z b;obtain⟨a,c,rfl⟩:=fJ b;obtain⟨k,_,e⟩:=c1 a c;rw[e];exact .bare rfl (by simp[aX]) (by simp[aX])
 ·have:=zx (s:=bF ids (vars [t]) []) (fun i z b=>by
   obtain⟨a,c,rfl⟩:=fJ b;obtain⟨k,_,e⟩:=c1 a c;rw[e,Ty.aM];simp[aX]) t
  have h2:=h.n;exact zaR this (by omega)
theorem zH{l:List Ty}{b:Nat}(f:1<=b)(hl:∀x∈l,x.nodes.length<=b)(t:Ty):(t.fQ l).nodes.length<=t.nodes.length*b:=by
 refine Ty.cB (p:=fun t=>(t.fQ l).nodes.length<=t.nodes.length*b) ?_ t;intro t d;have a:1<=t.nodes.length:=by rw[Ty.aM];simp
 rw[Ty.ko];cases e:CR l t with
 |some x=>
  obtain⟨_,_,_,hx⟩:=kj e;have:=hl x (aN hx);rw[zbi];have h2:=zaH b a;omega
 |none=>
  rw[zbj,Ty.aM,Ty.aM t];simp only[zax,zaZ,zb0]
  have key:∀as:List Ty,(∀x∈as,x∈t.args)->(as.map ((fun y:Ty=>y.nodes.length) ∘ Ty.fQ l)).sum<=(as.map fun y:Ty=>y.nodes.length).sum*b:=by
   intro as;induction as with
   |nil=>intro _;simp
   |cons x r c=>
    intro hx;have h1:=d x (hx x (by simp));have h2:=c fun y hy=>hx y (by simp[hy])
    simp only[zao,zbI,Function.comp];rw[zaD];have h3:(r.map fun y=>(Ty.fQ l y).nodes.length).sum<=(r.map fun y:Ty=>y.nodes.length).sum*b:=h2;omega
  have h1:=key t.args fun _ h=>h;rw[zaD];have h2:(List.map (fun y=>(Ty.fQ l y).nodes.length) t.args).sum<=(t.args.map fun y:Ty=>y.nodes.length).sum*b:=h1
  show (List.map (fun y=>(Ty.fQ l y).nodes.length) t.args).sum+1<=_;omega
theorem UZ:∀d∈bp,∀c∈d.cons,∀x∈c.fields,x.nodes.length<=20:=by decide +kernel
theorem U0:∀d∈bp,∀a∈bp,∀c∈d.cons,∀c'∈a.cons,c.name=c'.name->d.params.length=a.params.length:=by decide +kernel
theorem OV{ds:List Dt}(u:ni ds){s:bD}{as fs:List Ty}(g:∀a∈as,Gl a)(e:fieldsOf ds s as=some fs):fs.length<=8∧∀f∈fs,S4 f:=by
 simp only[fieldsOf,zaz]at e;obtain⟨q,_,d,hd,c,i,e⟩:=e;split at e
 ·rename_i hl;cases e;have k:=u.all d (aN hd);obtain⟨_,_,h8⟩:=bV d k;obtain⟨r,j⟩:=zy d k;refine⟨by simpa using(h8 c (aN i)).1,?_⟩;intro f hf;simp only[zat]at hf;obtain⟨x,hx,rfl⟩:=hf;have S:=nR rfl r (j c (aN i) x hx);obtain⟨K,r1,_,r3⟩:=S.Od;simp only at r1;have hn:=UZ d k c (aN i) x hx;have o:=Rh (l:=d.params) x;have m:=zH (l:=as) (b:=50000) (by omega) (fun a t=>(g a t).n) (x.iQ d.params);have:(x.iQ d.params).nodes.length*50000<=20*50000:=zaH _ (by omega);exact⟨nd (fun a h=>(g a h).ok) S.ok,(zc S.kn (by simp only[KC,KS];omega) (fun a h=>(g a h).kn) (fun y hy p=>by have:=r3 y hy p;omega)).imp NX,by omega⟩
 ·cases e
def oh(env:List En):Prop:=∀x∈env,S4 x.sc.ty
theorem oh.push{env:List En}(h:oh env){s:bD}{c:Sc}(a:S4 c.ty):oh (env++[⟨s,c⟩]):=by
 intro x hx;simp only[zai,zaJ]at hx;rcases hx with hx|rfl
 ·exact h x hx
 ·exact a
theorem oh.arm{env:List En}(h:oh env){vs:List bD}{fs:List Ty}(hf:∀f∈fs,S4 f):oh (iC env vs fs):=by
 intro x hx;simp only[iC,zai,zat]at hx;rcases hx with hx|⟨p,hp,rfl⟩
 ·exact h x hx
 ·exact hf _ (zcc hp).2
theorem oh.r{env:List En}(h:oh env)(hl:env.length<=1000):kD env:=⟨hl,fun x hx=>(h x hx).r⟩
theorem HO:∀{env:List En}{s:bD},s∈env.map En.name->∃c,m8 env s=some c∧∃x∈env,c=x.sc
 |[],s,h=>by simp at h
 |a::r,s,h=>by
  unfold m8;by_cases q:s∈r.map En.name
  ·obtain⟨c,h1,x,hx,h2⟩:=HO q;rw[h1];exact⟨c,rfl,x,by simp[hx],h2⟩
  ·have g:a.name=s:=by
    simp only[zao,zah]at h;rcases h with h|h
    ·exact h.symm
    ·exact absurd h q
   cases hn:m8 r s with
   |some c=>
    exact⟨c,rfl,by
     have key:∀{l:List En}{c:Sc},m8 l s=some c->∃x∈l,c=x.sc:=by
      intro l;induction l with
      |nil=>intro c h;simp[m8]at h
      |cons b t f=>
       intro c h;unfold m8 at h;split at h
       ·rename_i c' d;cases h;obtain⟨x,hx,e⟩:=f d;exact⟨x,by simp[hx],e⟩
       ·split at h
        ·cases h;exact⟨b,by simp,rfl⟩
        ·cases h
     obtain⟨x,hx,e⟩:=key hn;exact⟨x,by simp[hx],e⟩⟩
   |none=>
    simp only[g,za0];exact⟨a.sc,rfl,a,by simp,rfl⟩
theorem Rm{ds:List Dt}(f:ni ds){s:bD}(h:(gA ds s 0).isSome=true):∃c,gm ds s=some c∧c.ty.Ok∧c.ty.Wb:=by
 obtain⟨q,a⟩:=zc5.1 h;obtain⟨_,d,c,hd,b,_⟩:=kQ a;simp only[zbC]at hd
 have e:gm ds s=some ⟨d.params.length,sQ d.params c.fields (pg d)⟩:=by
  simp only[gm,a,za3,hd,b,zaY]
 have S:=qW f.all (s:=s);rw[e]at S;exact⟨_,e,S.ok,S.kn.wb⟩
theorem HP{α:Type}{p:α->Bool}:∀{l:List α}{k:Nat},bA p l=some k->∃x,l[k]?=some x∧p x=true
 |[],k,h=>by simp[bA]at h
 |a::r,k,h=>by
  simp only[bA]at h;split at h
  ·rename_i q;cases h;exact⟨a,rfl,q⟩
  ·cases b:bA p r with
   |none=>rw[b]at h;simp at h
   |some j=>
    rw[b]at h;simp at h;subst h;obtain⟨x,h1,h2⟩:=HP b;exact⟨x,by simpa using h1,h2⟩
theorem OW{ds:List Dt}(k:ni ds){as:List Ar}{i0:Nat}{D:Dt}(j:eL ds as=some i0)(hi:ds[i0]?=some D){inst:List Ty}(hl:inst.length=D.params.length):∀a∈as,∃fs,fieldsOf ds a.dK inst=some fs:=by
 intro a l
 have g:ib D as=true:=by
  unfold eL at j;obtain⟨d,h1,h2⟩:=HP j;rw[hi]at h1;cases h1;exact h2
 unfold ib at g;simp only[zaW]at g;have hm:a.dK∈D.cons.map jI.name:=by rw[g];exact zat.2 ⟨a,l,rfl⟩
 obtain⟨c,i,hn⟩:=zat.1 hm;obtain⟨q,h⟩:=Cu (n:=0) hi i hn;obtain⟨_,d,c',hd,b,e⟩:=kQ h;simp only[zbC]at hd;have hp:=U0 d (k.all d (aN hd)) D (k.all D (aN hi)) c' (aN b) c i (by rw[e,hn]);refine⟨c'.fields.map fun f=>(f.iQ d.params).fQ inst,?_⟩;simp only[fieldsOf,h,za3,hd,b];rw[zak (by omega)]
theorem OX{home:Int}{env:List En}{e:Ex}{d:Dv}{b:Bool}(a:oh env)(hl:env.length<=1000)(hd:Gl d.ty):sR (wx home env e d)∧(⟨wx home env e d,b⟩:Rd).Cl:=
 ⟨⟨zaR (d6 env) hl,hd.r,fun x hx=>(a x (cS env x hx)).r⟩,KP env⟩
inductive Dv.Bd:Dv->Prop
 |mk {d:Dv}:d.ty.nodes.length<=50000->(∀t∈d.inst,t.nodes.length<=50000)->(∀x∈d.kids,x.Bd)->d.Bd
theorem Dv.Bd.t{d:Dv}(h:d.Bd):d.ty.nodes.length<=50000:=by cases h;assumption
theorem Dv.Bd.i{d:Dv}(h:d.Bd):∀t∈d.inst,t.nodes.length<=50000:=by cases h;assumption
theorem Dv.Bd.k{d:Dv}(h:d.Bd):∀x∈d.kids,x.Bd:=by cases h;assumption
theorem Hb.l{e:Ex}{d:Dv}(h:Hb e d):e.ch.length=d.kids.length:=by cases h;assumption
theorem Hb.t{e:Ex}{d:Dv}(h:Hb e d):eF d.ty=true:=by cases h;assumption
theorem Hb.i{e:Ex}{d:Dv}(h:Hb e d):∀t∈d.inst,eF t=true:=by cases h;assumption
theorem Hb.k{e:Ex}{d:Dv}(h:Hb e d){i:Nat}{x:Ex}{y:Dv}(hx:e.ch[i]?=some x)(hy:d.kids[i]?=some y):Hb x y:=by
 cases h with
 |mk _ _ _ h4=>
  have a:(e.ch.zip d.kids)[i]?=some (x,y):=(by rw[zbR];exact⟨hx,hy⟩);exact h4 _ (aN a)
theorem CH{e:Ex}{d:Dv}(h:Hb e d)(hd:d.Sd)(b:d.Bd):Gl d.ty∧∀t∈d.inst,Gl t:=
 ⟨⟨hd.t.ok,CG h.t,b.t⟩,fun t a=>⟨(hd.i t a).ok,CG (h.i t a),b.i t a⟩⟩
theorem vQ{α:Type}{l:List α}(h:l.length=1):∃a,l=[a]:=by
 match l,h with
 |[a],_=>exact⟨a,rfl⟩
theorem XY:∀x:Ty,x.Cw->x.Wb:=by
 intro x;refine Ty.cB (p:=fun x=>x.Cw->x.Wb) ?_ x;intro t a h;exact⟨fun q=>h.bare (by omega),fun x hx=>a x hx (h.cY x hx)⟩
def nk(fit:Option (List Rd))(N:Nat):Prop:=∀l,fit=some l->l.length<=N∧∀r∈l,sR r.h∧r.Cl
theorem nk.none{N:Nat}:nk none N:=fun _ h=>by cases h
theorem nk.nil{N:Nat}:nk (some []) N:=fun _ h=>by cases h;simp
theorem nk.up{fit:Option (List Rd)}{N M:Nat}(h:nk fit N)(hm:N<=M):nk fit M:=fun l e=>⟨zaR (h l e).1 hm,(h l e).2⟩
theorem nk.app{l m:List Rd}{N M:Nat}(h:nk (some l) N)(k:nk (some m) M):nk (some (l++m)) (N+M):=by
 intro q e;cases e;obtain⟨c,b⟩:=h l rfl;obtain⟨b1,a⟩:=k m rfl;refine⟨by simp;omega,fun r hr=>?_⟩;rcases zai.1 hr with hr|hr
 ·exact b r hr
 ·exact a r hr
theorem nk.one{r:Rd}{N:Nat}(h:sR r.h∧r.Cl)(hN:1<=N):nk (some [r]) N:=by
 intro q e;cases e;exact⟨by simpa using hN,fun x hx=>by simp at hx;subst hx;exact h⟩
section
variable {ds:List Dt} {home:Int} {n:Nat} {env:List En} {e:Ex} {d:Dv}
theorem np{N:Nat}(a:(e.kind≠6∧e.kind≠7∧d.gen≠[])∨(e.kind≠1∧e.kind≠2∧e.kind≠8∧d.inst≠[])):nk (aJ ds home (n+1) env e d) N:=by rw[vN a];exact .none
theorem zI{N:Nat}(a:e.kind=1∨e.kind=2∨e.kind=3):nk (aJ ds home (n+1) env e d) N:=by
 by_cases b:(e.kind≠6∧e.kind≠7∧d.gen≠[])∨(e.kind≠1∧e.kind≠2∧e.kind≠8∧d.inst≠[])
 ·exact np b
 ·rw[aJ,zad b];rcases a with a|a|a
  ·rw[zak a];split
   ·split
    ·exact .nil
    ·exact .none
   ·exact .none
  ·rw[zad (by omega),zak a];split
   ·split
    ·exact .nil
    ·exact .none
   ·exact .none
  ·rw[zad (by omega),zad (by omega),zak a];split
   ·exact .nil
   ·exact .none
theorem Za{N:Nat}(b:e.kind=10)(hN:1<=N)(c:oh env)(hl:env.length<=1000)(hd:Gl d.ty):nk (aJ ds home (n+1) env e d) N:=by
 by_cases a:(e.kind≠6∧e.kind≠7∧d.gen≠[])∨(e.kind≠1∧e.kind≠2∧e.kind≠8∧d.inst≠[])
 ·exact np a
 ·rw[aJ,zad a];simp only[b];exact .one (OX c hl hd) hN
theorem Zb{N:Nat}{x:Ex}{y:Dv}(f:e.kind=4)(g:e.kids=[x])(hy:d.kids=[y])(j:∀a b,ky d.ty=some (a,b)->nk (aJ ds home n (env++[⟨e.name,⟨0,a⟩⟩]) x y) N):nk (aJ ds home (n+1) env e d) N:=by
 by_cases c:(e.kind≠6∧e.kind≠7∧d.gen≠[])∨(e.kind≠1∧e.kind≠2∧e.kind≠8∧d.inst≠[])
 ·exact np c
 ·have i:aJ ds home (n+1) env e d=match ky d.ty with
   |some (a,b)=>if b=y.ty then aJ ds home n (env++[⟨e.name,⟨0,a⟩⟩]) x y else none
   |none=>none:=by
   rw[aJ,zad c];simp[f,kE,sB,g,hy]<;>cases ky d.ty<;>rfl
  rw[i];cases h:ky d.ty with
  |none=>exact .none
  |some p=>
   obtain⟨a,b⟩:=p;simp only;split
   ·exact j a b h
   ·exact .none
theorem hr9{N:Nat}{x:Ex}{y:Dv}(b:e.kind=9)(c:e.kids=[x])(hy:d.kids=[y])(g:nk (aJ ds home n env x y) N):nk (aJ ds home (n+1) env e d) N:=by
 by_cases a:(e.kind≠6∧e.kind≠7∧d.gen≠[])∨(e.kind≠1∧e.kind≠2∧e.kind≠8∧d.inst≠[])
 ·exact np a
 ·have f:aJ ds home (n+1) env e d=if d.ty=e.ty∧d.ty=y.ty then aJ ds home n env x y else none:=by
   rw[aJ,zad a];simp[b,kE,sB,c,hy]
  rw[f];split
  ·exact g
  ·exact .none
theorem Zc{N:Nat}{x:Ex}{y:Dv}(b:e.kind=11)(c:e.kids=[x])(hy:d.kids=[y])(f:oh env)(hl:env.length<=1000)(hd:Gl d.ty)(IH:nk (aJ ds home n env x y) N):nk (aJ ds home (n+1) env e d) (N+1):=by
 by_cases a:(e.kind≠6∧e.kind≠7∧d.gen≠[])∨(e.kind≠1∧e.kind≠2∧e.kind≠8∧d.inst≠[])
 ·exact np a
 ·have g:aJ ds home (n+1) env e d=if d.ty=y.ty then(match aJ ds home n env x y with|some l=>some (l++[⟨wx home env e d,true⟩])|none=>none)else none:=by
   rw[aJ,zad a];simp[b,kE,sB,c,hy]<;>cases aJ ds home n env x y<;>rfl
  rw[g];split
  ·cases hf:aJ ds home n env x y with
   |none=>exact .none
   |some l=>rw[hf]at IH;exact IH.app (.one (OX f hl hd) (zaj 1))
  ·exact .none
theorem hr5{i h:Nat}{c x1:Ex}{b a:Dv}(j:e.kind=5)(k:e.kids=[c,x1])(hy:d.kids=[b,a])(IH0:nk (aJ ds home n env c b) i)(f:nk (aJ ds home n env x1 a) h):nk (aJ ds home (n+1) env e d) (i+h):=by
 by_cases g:(e.kind≠6∧e.kind≠7∧d.gen≠[])∨(e.kind≠1∧e.kind≠2∧e.kind≠8∧d.inst≠[])
 ·exact np g
 ·have o:aJ ds home (n+1) env e d=if b.ty=ek a.ty d.ty then(match aJ ds home n env c b with|some l=>(match aJ ds home n env x1 a with|some m=>some (l++m)|none=>none)|none=>none)else none:=by
   rw[aJ,zad g];simp[j,kE,sB,k,hy]<;>cases aJ ds home n env c b<;>first|rfl|(cases aJ ds home n env x1 a<;>rfl)
  rw[o];split
  ·cases h0:aJ ds home n env c b with
   |none=>exact .none
   |some l=>
    cases h1:aJ ds home n env x1 a with
    |none=>exact .none
    |some m=>rw[h0]at IH0;rw[h1]at f;exact IH0.app f
  ·exact .none
theorem Zd{i h:Nat}{f x1:Ex}{a c:Dv}(j:e.kind=6∨e.kind=7)(k:e.kids=[f,x1])(hy:d.kids=[a,c])(IH0:nk (aJ ds home n (ij env e a.ty) f a) i)(b:nk (aJ ds home n (lf env e d a.ty) x1 c) h):nk (aJ ds home (n+1) env e d) (i+h):=by
 by_cases g:(e.kind≠6∧e.kind≠7∧d.gen≠[])∨(e.kind≠1∧e.kind≠2∧e.kind≠8∧d.inst≠[])
 ·exact np g
 ·have o:aJ ds home (n+1) env e d=CF (aJ ds home n) env (ij env e a.ty) e f x1 d a c:=by
   rw[aJ,zad g,zad (by omega),zad (by omega),zad (by omega),zad (by omega),zad (by omega),zak j];simp only[kE,sB,k,hy,zbY,zbZ,zbi];rfl
  rw[o];unfold CF;cases h0:aJ ds home n (ij env e a.ty) f a with
  |none=>exact .none
  |some l=>
   simp only;split
   ·cases h1:aJ ds home n (lf env e d a.ty) x1 c with
    |none=>exact .none
    |some m=>rw[h0]at IH0;rw[h1]at b;exact IH0.app b
   ·exact .none
theorem HQ(g:∀(k:Nat)(a:Ar)(fs:List Ty)(y:Dv),e.aF[k]?=some a->d.kids[k+1]?=some y->fieldsOf ds a.dK d.inst=some fs->fs.length=a.vars.length->nk (aJ ds home n (iC env a.vars fs) a.body y) a.body.sz)(j:d.kids.length=e.aF.length+1):
   ∀(k i:Nat),e.aF.length-i=k->i<=e.aF.length->∀(l:List Rd)(N:Nat),nk (some l) N->nk (iD (aJ ds home n) ds env d (e.aF.drop i) (i+1) l) (N+bP (e.aF.drop i))
 |0,i,f,hi,l,N,h=>by
  have:i=e.aF.length:=by omega
  subst this;rw[za1];simp only[iD];exact h.up (by omega)
 |k+1,i,f,hi,l,N,h=>by
  have hi:i<e.aF.length:=(by omega);obtain⟨a,hx⟩:=aP hi;obtain⟨y,hy⟩:=aP (l:=d.kids) (i:=i+1) (by omega);have c:kE d (i+1)=y:=(by simp[kE,hy]);have b:bP (e.aF.drop i)=a.body.sz+bP (e.aF.drop (i+1)):=(by rw[aV hx];simp[bP]);rw[b,aV hx];simp only[iD,c];cases hf:fieldsOf ds a.dK d.inst with
  |none=>exact .none
  |some fs=>
   simp only;split
   ·rename_i w;have q:=g i a fs y hx hy hf w.1;cases h0:aJ ds home n (iC env a.vars fs) a.body y with
    |none=>exact .none
    |some m=>
     rw[h0]at q;have:=HQ g j k (i+1) (by omega) (by omega) (l++m) (N+a.body.sz) (h.app q);exact this.up (by omega)
   ·exact .none
theorem hr8{i:Nat}{c:Ex}{b:Dv}(h:e.kind=8)(o:e.kids=[c])(g:d.kids[0]?=some b)(m:d.kids.length=e.aF.length+1){i0:Nat}{D:Dt}(p:eL ds e.aF=some i0)(hi:ds[i0]?=some D)(f:nk (aJ ds home n env c b) i)
   (r:d.inst.length=D.params.length->∀(k:Nat)(a:Ar)(fs:List Ty)(y:Dv),e.aF[k]?=some a->d.kids[k+1]?=some y->fieldsOf ds a.dK d.inst=some fs->fs.length=a.vars.length->nk (aJ ds home n (iC env a.vars fs) a.body y) a.body.sz):nk (aJ ds home (n+1) env e d) (i+bP e.aF):=by
 by_cases j:(e.kind≠6∧e.kind≠7∧d.gen≠[])∨(e.kind≠1∧e.kind≠2∧e.kind≠8∧d.inst≠[])
 ·exact np j
 ·have q:aJ ds home (n+1) env e d=vO (aJ ds home n) ds D env e c d b:=by
   rw[aJ,zad j];simp[h,kE,sB,o,g,p,hi,vO]<;>split<;>first|rfl|(cases aJ ds home n env c b<;>rfl)
  rw[q];unfold vO;split
  ·rename_i w;cases h0:aJ ds home n env c b with
   |none=>exact .none
   |some l=>
    rw[h0]at f;have:=HQ (r w.1) m _ 0 rfl (by omega) l i f
    rwa [zar]at this
  ·exact .none
end
end Go.Ab.Lw
namespace Go.Ab.Lw
open Ev
theorem CU.mono{ds:List Dt}{K:bD->Prop}{e:Ex}(h:CU ds K e):∀{K':bD->Prop},(∀s,K s->K' s)->CU ds K' e:=by
 induction h with
 |var h1 h2=>exact fun q=>.var h1 (q _ h2)
 |dK h1 h2=>exact fun _=>.dK h1 h2
 |UT h1 h2 h3 _ a=>exact fun q=>.UT h1 h2 h3 fun i x hx=>a i x hx fun s hs=>hs.imp (q s) id
theorem Ck.up{g:Nat}{ds:List Dt}{home:Int}{as:List AV}{fit:Option (List Rd)}{N M:Nat}(h:Ck g ds home as fit N)(hm:N<=M):Ck g ds home as fit M:=by
 intro out hd h1 h2;obtain⟨b,o,h',d,c,a,f,e⟩:=h out hd (by omega) (by omega);exact⟨b,o,h',d,c,a,by omega,by omega⟩
theorem Fk.up{g:Nat}{as:List PV}{fit:Option (List Rd)}{N M:Nat}(h:Fk g as fit N)(hm:N<=M):Fk g as fit M:=by
 obtain⟨b,l,d,c,a,e⟩:=h;exact⟨b,l,d,c,a,by omega⟩
theorem ni.ZK{ds:List Dt}(h:ni ds):Y4 ds:=⟨h.small.num,h.small.dK,h.small.par,h.small.R7⟩
structure FA(ds:List Dt)(home:Int)(n:Nat)(env:List En)(e:Ex)(d:Dv)(N:Nat):Prop where
 c:Ck 477 ds home [.pv (.aq (env.map En.pv)),.pv e.pv,.pv d.pv] (aJ ds home n env e d) N
 f:Fk 487 (gM ds home env e d) (aJ ds home n env e d) N
 h:nk (aJ ds home n env e d) N
theorem FA.up{ds:List Dt}{home:Int}{n:Nat}{env:List En}{e:Ex}{d:Dv}{N M:Nat}(h:FA ds home n env e d N)(hm:N<=M):FA ds home n env e d M:=⟨h.c.up hm,h.f.up hm,h.h.up hm⟩
structure FQ(ds:List Dt)(n:Nat)(env:List En)(e:Ex)(d:Dv):Prop where
 ok:e.Ok
 hl:e.KM n
 fr:Hb e d
 sd:d.Sd
 bd:d.Bd
 kn:CU ds (·∈env.map En.name) e
 en:oh env
 le:env.length+10*n<=1000
 sz:e.sz<=1000
theorem U1{ds:List Dt}{K:bD->Prop}{e:Ex}(h:CU ds K e)(h1:e.kind≠1)(h2:e.kind≠2){i:Nat}{x:Ex}(hx:e.ch[i]?=some x):CU ds (fun s=>K s∨s∈cd e i) x:=by
 cases h with
 |var q=>exact absurd q h1
 |dK q=>exact absurd q h2
 |UT _ _ _ h4=>exact h4 i x hx
theorem FQ.cY{ds:List Dt}{n:Nat}{env env':List En}{e x:Ex}{d y:Dv}(h:FQ ds (n+1) env e d)(h1:e.kind≠1)(h2:e.kind≠2){i:Nat}(hx:e.ch[i]?=some x)(hy:d.kids[i]?=some y)(hs:∀s,s∈env.map En.name∨s∈cd e i->s∈env'.map En.name)(a:oh env')(hl:env'.length<=env.length+10):FQ ds n env' x y where
 ok:=h.ok.c x (aN hx)
 hl:=h.hl.c x (aN hx)
 fr:=h.fr.k hx hy
 sd:=h.sd.k y (aN hy)
 bd:=h.bd.k y (aN hy)
 kn:=(U1 h.kn h1 h2 hx).mono hs
 en:=a
 le:=by have:=h.le;omega
 sz:=by have:=h.sz;have:=Ex.Gd (aN hx);omega
theorem FQ.e1{ds:List Dt}{n:Nat}{env:List En}{e:Ex}{d:Dv}(h:FQ ds n env e d):kD env:=h.en.r (by have:=h.le;omega)
theorem CI{α:Type}{l:List α}(h:l.length=2):∃a b,l=[a,b]:=by
 match l,h with
 |[a,b],_=>exact⟨a,b,rfl⟩
theorem vR{ds:List Dt}(J:ni ds){home:Int}{e:Ex}(tx:vE e):∀{n:Nat}{env:List En}{d:Dv},FQ ds n env e d->FA ds home n env e d e.sz:=by
 induction tx with
 | @leaf e g h1 h2=>
  intro n env d Q;obtain⟨n,rfl⟩:∃m,n=m+1:=by cases n with|zero=>cases Q.hl|succ m=>exact⟨m,rfl⟩
  have hp:=Ex.k_ e;obtain⟨H,Y⟩:=CH Q.fr Q.sd Q.bd;have C:=Q.e1;have W:∀a∈d.inst,a.Ok:=fun a ha=>(Y a ha).ok
  rcases g with⟨g|g,_⟩|⟨g,_⟩|⟨g,_⟩
  ·have hK:=(HG g).1 Q.kn;obtain⟨c,S,x,hx,ex⟩:=HO hK;have L:=Q.en x hx;rw[<-ex]at L;exact FA.up ⟨Z7 g C.sm Q.sd S L.ok (nd W L.ok),fk1 g C.sm Q.sd S L.ok L.kn.wb (nd W L.ok),zI (.inl g)⟩ hp
  ·have hK:=(HH g).1 Q.kn;obtain⟨c,S,X,cW⟩:=Rm J hK;exact FA.up ⟨Z8 J.ZK g C.sm Q.sd S X (nd W X),fk2 J.ZK g Q.sd S X cW (nd W X),zI (.inr (.inl g))⟩ hp
  ·exact FA.up ⟨Z6 g Q.sd,fk3 g Q.sd,zI (.inr (.inr g))⟩ hp
  ·exact FA.up ⟨Y3 g C.sm,Y8 g C.sm,Za g (zaj 1) Q.en C.1 H⟩ hp
 | @lam e a g _ h1 h2 _ R=>
  intro n env d Q;obtain⟨n,rfl⟩:∃m,n=m+1:=by cases n with|zero=>cases Q.hl|succ m=>exact⟨m,rfl⟩
  obtain⟨H,_⟩:=CH Q.fr Q.sd Q.bd;have C:=Q.e1;have el:=Q.fr.l;rw[Ex.gZ,h1,h2]at el;obtain⟨y,hy⟩:=vQ el.symm;have hm:e.ch[0]?=some a:=by rw[Ex.ch,h1];rfl
  have hs:=Vx h1 h2;have T:=Q.sz;have j:=Ex.k_ a
  have IH:∀u v,ky d.ty=some (u,v)->FA ds home n (env++[⟨e.name,⟨0,u⟩⟩]) a y a.sz:=by
   intro u v w;have tu:=H.cY (vP w).1;refine R (Q.cY (by omega) (by omega) hm (by rw[hy];rfl) ?_ (Q.en.push tu.c) (by simp));intro s hs;have hb:cd e 0=[e.name]:=by simp[cd,g]
   rw[hb]at hs;simpa using hs
  exact FA.up ⟨Z_ g h1 hy Q.sd C.sm (by omega) fun u v w=>⟨(H.cY (vP w).2).ok,(IH u v w).c⟩,fk4 g h1 hy C.sm (by omega) (by omega) fun u v w=>⟨(H.cY (vP w).2).ok,(IH u v w).f⟩,Zb g h1 hy fun u v w=>(IH u v w).h⟩ (by omega)
 | @app e a b g h1 h2 _ _ G F=>
  intro n env d Q;obtain⟨n,rfl⟩:∃m,n=m+1:=by cases n with|zero=>cases Q.hl|succ m=>exact⟨m,rfl⟩
  have el:=Q.fr.l;rw[Ex.gZ,h1,h2]at el;obtain⟨y,z,hy⟩:=CI el.symm;have hs:=XJ h1 h2;have T:=Q.sz;have j:=Ex.k_ a;have hm:e.ch[0]?=some a:=(by rw[Ex.ch,h1];rfl);have K:e.ch[1]?=some b:=(by rw[Ex.ch,h1];rfl);have b0:∀i,cd e i=[]:=fun i=>by simp[cd,g]
  have E:=Q.cY (env':=env) (y:=y) (by omega) (by omega) hm (by rw[hy];rfl) (by intro s hs;rw[b0]at hs;simpa using hs) Q.en (by omega);have A:=G E;have B:=F (Q.cY (env':=env) (y:=z) (by omega) (by omega) K (by rw[hy];rfl) (by intro s hs;rw[b0]at hs;simpa using hs) Q.en (by omega));exact FA.up ⟨Z' g h1 hy E.sd.t.ok j A.c B.c,fk5 g h1 hy E.sd.t.ok (by omega) j A.f B.f,hr5 g h1 hy A.h B.h⟩ (by omega)
 | @Q0 e a b g _ h1 h2 _ _ G F=>
  intro n env d Q;obtain⟨n,rfl⟩:∃m,n=m+1:=by cases n with|zero=>cases Q.hl|succ m=>exact⟨m,rfl⟩
  have el:=Q.fr.l;rw[Ex.gZ,h1,h2]at el;obtain⟨y,z,hy⟩:=CI el.symm;have hs:=XJ h1 h2;have T:=Q.sz;have j:=Ex.k_ a;have hm:e.ch[0]?=some a:=(by rw[Ex.ch,h1];rfl);have K:e.ch[1]?=some b:=(by rw[Ex.ch,h1];rfl);have o:d.kids[0]?=some y:=(by rw[hy];rfl);have Z:d.kids[1]?=some z:=(by rw[hy];rfl);have V:=(CH (Q.fr.k hm o) (Q.sd.k y (aN o)) (Q.bd.k y (aN o))).1
  have E:FQ ds n (ij env e y.ty) a y:=by
   refine Q.cY (by omega) (by omega) hm o ?_ ?_ ?_
   ·intro s hs;unfold cd at hs;unfold ij;rcases g with g|g<;>simp[g]at hs⊢<;>simpa using hs
   ·unfold ij;split
    ·exact Q.en.push V.c
    ·exact Q.en
   ·unfold ij;split<;>simp
  have A:=G E
  have B:FA ds home n (lf env e d y.ty) b z b.sz:=by
   refine F (Q.cY (by omega) (by omega) K Z ?_ ?_ ?_)
   ·intro s hs;unfold cd at hs;unfold lf;rcases g with g|g<;>simp[g]at hs⊢<;>simpa using hs
   ·exact Q.en.push (V.close d.gen)
   ·simp[lf]
  have HR:∀l,aJ ds home n (ij env e y.ty) a y=some l->l.length<=1000∧∀r∈l,sR r.h∧r.Cl:=fun l hl=>⟨by have:=(A.h l hl).1;omega,(A.h l hl).2⟩;exact FA.up ⟨Y6 g h1 hy Q.sd V.r Q.e1 j A.c (fun l hl=>⟨(HR l hl).1,fun r hr=>((HR l hl).2 r hr).1⟩) B.c,Y_ g h1 hy Q.sd V.r Q.e1 (by omega) j A.f HR B.f,Zd g h1 hy A.h B.h⟩ (by omega)
 | @Hq e a g h1 _ Y1 a3 _ G F=>
  intro n env d Q;obtain⟨n,rfl⟩:∃m,n=m+1:=by cases n with|zero=>cases Q.hl|succ m=>exact⟨m,rfl⟩
  obtain⟨H,Y⟩:=CH Q.fr Q.sd Q.bd;have el:=Q.fr.l;rw[Ex.gZ,h1]at el;simp only[zbt]at el;have hs:=HB h1;have T:=Q.sz;have j:=Ex.k_ a;have hm:e.ch[0]?=some a:=by rw[Ex.ch,h1];rfl
  obtain⟨y,o⟩:=aP (l:=d.kids) (i:=0) (by omega);have a4:=((HI (by omega) (by omega)).1 Q.kn).1 g;obtain⟨i0,U⟩:=zc5.1 a4;obtain⟨D,hi,I⟩:=Cb U
  have a2:e.aF≠[]:=by
   have:=(UA D (J.all D (aN hi))).2.1;intro q;rw[q]at I;simp at I;omega
  have E:=Q.cY (env':=env) (y:=y) (by omega) (by omega) hm o (by intro s hs;simp[cd,g]at hs;simpa using hs) Q.en (by omega);have A:=G E;have hF:d.inst.length=D.params.length->∀x∈e.aF,∃fs,fieldsOf ds x.dK d.inst=some fs:=fun hl=>OW J U hi hl
  have B:d.inst.length=D.params.length->∀(k:Nat)(x:Ar)(fs:List Ty)(z:Dv),e.aF[k]?=some x->d.kids[k+1]?=some z->fieldsOf ds x.dK d.inst=some fs->fs.length=x.vars.length->FA ds home n (iC env x.vars fs) x.body z x.body.sz:=by
   intro hl k x fs z hx hz Lb a5;obtain⟨_,fC⟩:=OV J Y Lb
   have a1:e.ch[k+1]?=some x.body:=by
    rw[Ex.ch,h1];simp[hx]
   refine F x (aN hx) (Q.cY (by omega) (by omega) a1 hz ?_ (Q.en.arm fC) ?_)
   ·intro s hs;have hb:cd e (k+1)=x.vars:=by simp[cd,g,hx]
    rw[hb]at hs;unfold iC;rw[zbF,zai,zb0];rcases hs with hs|hs
    ·exact .inl hs
    ·refine .inr ?_
     have ez:(x.vars.zip fs).map (En.name ∘ fun p=>(⟨p.1,⟨0,p.2⟩⟩:En))=x.vars:=by
      have:(En.name ∘ fun p:bD×Ty=>(⟨p.1,⟨0,p.2⟩⟩:En))=Prod.fst:=rfl;rw[this,List.map_fst_zip (by omega)]
     rw[ez];exact hs
   ·have:=(a3 x (aN hx)).2.1;simp[iC];omega
  exact FA.up ⟨ck8 J.small g (by have:=Q.e1.1;omega) h1 Q.sd o Q.ok.v Q.ok.a (by omega) U hi A.c hF fun hl k x fs z P O N M=>(B hl k x fs z P O N M).c,
    fk8 J.small XY g (by have:=Q.e1.1;omega) h1 Q.sd o Q.ok.v Q.ok.a (by omega) U hi (by omega) a2 A.f hF fun hl k x fs z P O N M=>(B hl k x fs z P O N M).f,
    (hr8 g h1 o (by omega) U hi A.h fun hl k x fs z P O N M=>(B hl k x fs z P O N M).h).up (by omega)⟩ (by omega)
 | @Yx e a g h1 h2 _ _ _ R=>
  intro n env d Q;obtain⟨n,rfl⟩:∃m,n=m+1:=by cases n with|zero=>cases Q.hl|succ m=>exact⟨m,rfl⟩
  have el:=Q.fr.l;rw[Ex.gZ,h1,h2]at el;obtain⟨y,hy⟩:=vQ el.symm;have hm:e.ch[0]?=some a:=(by rw[Ex.ch,h1];rfl);have hs:=Vx h1 h2;have T:=Q.sz;have j:=Ex.k_ a;have E:=Q.cY (env':=env) (y:=y) (by omega) (by omega) hm (by rw[hy];rfl) (by intro s hs;simp[cd,g]at hs;simpa using hs) Q.en (by omega);have A:=R E;exact FA.up ⟨Z9 g h1 hy Q.sd j A.c,fk9 g h1 hy Q.sd E.sd.t.ok (by omega) j A.f,hr9 g h1 hy A.h⟩ (by omega)
 | @held e a g h1 h2 _ R=>
  intro n env d Q;obtain⟨n,rfl⟩:∃m,n=m+1:=by cases n with|zero=>cases Q.hl|succ m=>exact⟨m,rfl⟩
  obtain⟨H,_⟩:=CH Q.fr Q.sd Q.bd;have C:=Q.e1;have el:=Q.fr.l;rw[Ex.gZ,h1,h2]at el;obtain⟨y,hy⟩:=vQ el.symm;have hm:e.ch[0]?=some a:=by rw[Ex.ch,h1];rfl
  have hs:=Vx h1 h2;have T:=Q.sz;have E:=Q.cY (env':=env) (y:=y) (by omega) (by omega) hm (by rw[hy];rfl) (by intro s hs;simp[cd,g]at hs;simpa using hs) Q.en (by omega);have A:=R E;exact FA.up ⟨Y5 g h1 hy Q.sd C.sm A.c,Y9 g h1 hy Q.sd C.sm (by omega) A.f,Zc g h1 hy Q.en C.1 H A.h⟩ (by omega)
theorem c495{s:bD}(h:mE s):(aC AP).p 495 [.str s]=some [.bool (Q1 s)]:=by
 have c:=c29 (t:=⟨4,s,0,0,[]⟩) (.mk (by unfold Sm;simp) (by simp)) (.mk h (by simp));rw[az g495];simp at c;simp[g495,c,Q1]
theorem c496{s:bD}(h:mE s):(aC AP).p 496 [.str s]=some [.bool (Ge s)]:=by
 have c:=c29 (t:=⟨5,s,0,0,[]⟩) (.mk (by unfold Sm;simp) (by simp)) (.mk h (by simp));rw[az g496];simp at c;simp[g496,c,Ge]
theorem c497(t:Ty):t.Ok->(aC AP).p 497 [t.pv]=some [.bool t.wr]:=by
 refine Ty.cB (p:=fun t=>t.Ok->(aC AP).p 497 [t.pv]=some [.bool t.wr]) ?_ t;intro t d c
 have f:FU (.fn 515 []) [] Ty.pv (fun x=>!x.wr) t.args:=by
  intro x hx;have k:=d x hx (c.cY x hx)
  have:(aC AP).i 515 [.pv x.pv] [] []=some ([.pv (.bool (!x.wr))],[],[]):=by
   rw[aA g515];simp at k;simp[g515,k]
  simp at this;simp[this]
 have a:=Qv jw (m:=75) (k:=107) rfl rfl c.sm (sh:=[]) (by intro cs h;simp at h) rfl rfl (fun _ _=>rfl) f;have e:(!(t.args.any fun x=>!x.wr))=t.args.all Ty.wr:=s_;rw[Ty.Sz,<-e];rw[az g497];generalize t.args.any (fun x=>!x.wr)=b at*
 try simp at a
 by_cases h4:t.kind=4
 ·simp[g497,h4,a]
 ·by_cases h5:t.kind=5
  ·simp[g497,h5,a]
  ·simp[g497,h4,h5]
structure Ze(a:Ar):Prop where
 c:mE a.dK
 l:a.vars.length<=1000
 v:∀s∈a.vars,mE s
theorem U2{s:List bD}(h:∀x∈s,mE x):FU (.fn 499 []) [] PV.str (fun x=>!Ge x) s:=by
 intro x hx;have k:=c496 (h x hx)
 have:(aC AP).i 499 [.pv (.str x)] [] []=some ([.pv (.bool (!Ge x))],[],[]):=by
  rw[aA g499];simp[g499,k]
 simp[this]
theorem XZ{e:Ex}(hN:e.aF.length<=1000)(hn:∀a∈e.aF,Ze a):∀(n i:Nat),e.aF.length-i=n->i<=e.aF.length->∃v:Int,
   cl AP g483L0 ⟨[(1,.au 1 0),(127,.pv (.aq (e.aF.map Ar.pv))),(128,.pv (vI e.aF.length)),(129,.pv (vI i))],[(1,e.cl)],[],[]⟩=
     some (if(e.aF.drop i).all SB then(.exit 2,⟨[(1,.au 1 0),(127,.pv (.aq (e.aF.map Ar.pv))),(128,.pv (vI e.aF.length)),(129,.pv (vI e.aF.length)),(130,.pv (.bool false))],[(1,e.cl)],[],[]⟩)
       else (.ret,⟨[(2,.pv (.bool false))],[],[],[]⟩))
 |0,i,r,hi=>by
  have:i=e.aF.length:=by omega
  subst this;refine⟨0,?_⟩;rw[za1,g483L0e];simp[g483B0]
 |n+1,i,r,hi=>by
  have hi:i<e.aF.length:=(by omega);obtain⟨x,hx⟩:=aP hi;obtain⟨p,t,o⟩:=hn x (aN hx);obtain⟨_,l⟩:=XZ hN hn n (i+1) (by omega) (by omega);refine⟨0,?_⟩;have f:=c495 p;have j:=Qv FT (m:=498) (k:=421) rfl rfl (s:=x.vars) (by unfold Sm;omega) (sh:=[]) (by intro cs h;simp at h) rfl rfl (fun _ _=>rfl) (U2 o);have e1:(!(x.vars.any fun x=>!Ge x))=x.vars.all Ge:=s_;rw[aV hx,zaS];have q:SB x=(!decide (x.pos<0) && (Q1 x.dK && (!decide (4<x.vars.length) && !(x.vars.any fun x=>!Ge x)))):=(by rw[e1];rfl);rw[q];generalize x.vars.any (fun x=>!Ge x)=b at*;generalize Q1 x.dK=u at*;rw[g483L0e]at l⊢;simp at j l;by_cases d:x.pos<0
  ·simp(disch:=omega)[-getElem?_pos,g483B0,hx,hi,d]
  ·cases u with
   |false=>simp(disch:=omega)[-getElem?_pos,g483B0,hx,hi,d,f]
   |true=>
    by_cases g:4<x.vars.length
    ·have c:4<(x.vars.length:Int):=(by omega);simp(disch:=omega)[-getElem?_pos,g483B0,hx,hi,d,f,g,c]
    ·have c:¬4<(x.vars.length:Int):=(by omega);cases b with
     |true=>simp(disch:=omega)[-getElem?_pos,g483B0,hx,hi,d,f,g,c,j]
     |false=>
      simp (disch:=omega) [-getElem?_pos,g483B0,hx,hi,d,f,g,c,j,ah];rw[g483L0e];simp[l]
def cD:ae->ae
 | .seq a _=>a
 |c=>c
def cm:ae->ae
 | .seq _ b=>b
 |c=>c
def qh:ae:=cD (cm (cm g483.body))
def eo:ae:=cD (cm (cm (cm g483.body)))
def U3:ae:=cm (cm (cm (cm g483.body)))
theorem Rn{e:Ex}:∃X:List (Nat×AV),(X=[]∨∃g d,X=[(8,g),(12,d)])∧cl AP qh ⟨[(1,.au 1 0),(3,.pv (.bool false)),(4,.pv (vI 0))],[(1,e.cl)],[],[]⟩=
   some (match cM e.kind with
    |some (nm,kd)=>(.normal,⟨(1,.au 1 0)::(3,.pv (.bool nm))::(4,.pv (vI kd))::X,[(1,e.cl)],[],[]⟩)
    |none=>(.ret,⟨[(2,.pv (.bool false))],[],[],[]⟩)):=by
 generalize a:e.kind=k;by_cases h3:k=3
 ·subst h3;exact⟨[(8,.pv (vI 3)),(12,.pv (.bool true))],Or.inr ⟨_,_,rfl⟩,by simp[qh,cD,cm,g483,a,cM]⟩
 by_cases c:k=10
 ·subst c;exact⟨[(8,.pv (vI 10)),(12,.pv (.bool true))],Or.inr ⟨_,_,rfl⟩,by simp[qh,cD,cm,g483,a,cM]⟩
 refine⟨[],Or.inl rfl,?_⟩;by_cases h1:k=1
 ·subst h1;simp[qh,cD,cm,g483,a,cM]
 by_cases h2:k=2
 ·subst h2;simp[qh,cD,cm,g483,a,cM]
 by_cases h4:k=4
 ·subst h4;simp[qh,cD,cm,g483,a,cM]
 by_cases h5:k=5
 ·subst h5;simp[qh,cD,cm,g483,a,cM]
 by_cases h6:k=6
 ·subst h6;simp[qh,cD,cm,g483,a,cM]
 by_cases h7:k=7
 ·subst h7;simp[qh,cD,cm,g483,a,cM]
 by_cases h8:k=8
 ·subst h8;simp[qh,cD,cm,g483,a,cM]
 by_cases f:k=9
 ·subst f;simp[qh,cD,cm,g483,a,cM]
 by_cases b:k=11
 ·subst b;simp[qh,cD,cm,g483,a,cM]
 simp[qh,cD,cm,g483,a,cM,h1,h2,h3,h4,h5,h6,h7,h8,f,c,b]
inductive Ex.CV:Ex->Prop
 |mk {e:Ex}:mE e.name->e.ty.Nm->(∀a∈e.aF,Ze a)->(∀x∈e.ch,x.CV)->e.CV
theorem Ex.CV.n{e:Ex}(h:e.CV):mE e.name:=by cases h;assumption
theorem Ex.CV.t{e:Ex}(h:e.CV):e.ty.Nm:=by cases h;assumption
theorem Ex.CV.a{e:Ex}(h:e.CV):∀a∈e.aF,Ze a:=by cases h;assumption
theorem Ex.CV.c{e:Ex}(h:e.CV):∀x∈e.ch,x.CV:=by cases h;assumption
theorem Ro{e:Ex}(B:e.Ok)(hn:e.CV){nm:Bool}{kd:Nat}(D:kd<=2){X:List (Nat×AV)}(E:X=[]∨∃C y,X=[(8,C),(12,y)]):cl AP eo ⟨(1,.au 1 0)::(3,.pv (.bool nm))::(4,.pv (vI kd))::X,[(1,e.cl)],[],[]⟩=
   some (if e.zQ nm kd=true then(.normal,⟨[(1,.au 1 0),(115,.pv (.bool false))],[(1,e.cl)],[],[]⟩)else(.ret,⟨[(2,.pv (.bool false))],[],[],[]⟩)):=by
 rcases E with rfl|⟨C,y,rfl⟩
 all_goals
   have q:=c495 hn.n;have p:=c496 hn.n;have o:=c29 B.t hn.t;have m:=c497 e.ty B.t;have k:=c33e (a:=e.ty) (b:=ca) B.t;unfold Ex.zQ;generalize Q1 e.name=u at*;generalize Ge e.name=l at*;generalize cC e.ty=v at*;generalize e.ty.wr=w at*;generalize decide (e.ty=ca)=z at*;simp[ca]at o m k;by_cases d:e.pos<0
   ·simp[eo,cD,cm,g483,d]
   by_cases f:e.kids.length=kd
   rotate_left
   ·have c:¬(e.kids.length:Int)=kd:=(by omega);simp[eo,cD,cm,g483,d,f,c]
   have c:(e.kids.length:Int)=kd:=(by omega);by_cases a:0<e.aF.length
   ·by_cases b:e.kind=8
    rotate_left
    ·simp[eo,cD,cm,g483,d,f,c,a,b]
    by_cases h:e.num<0
    ·simp[eo,cD,cm,g483,d,f,c,a,b,h]
    by_cases i:999999999<e.num
    ·simp[eo,cD,cm,g483,d,f,c,a,b,h,i]
    by_cases g:e.num=0
    ·have A:=g;cases nm with
     |false=>
      by_cases s:e.name=[]
      rotate_left
      ·simp[eo,cD,cm,g483,d,f,c,a,b,h,i,g,s]
      cases z with
      |false=>simp[eo,cD,cm,g483,d,f,c,a,b,h,i,g,s,q,p,o,m,k]
      |true=>
       simp[eo,cD,cm,g483,d,f,c,a,b,h,i,g,s,q,p,o,m,k]
     |true=>
      cases l with
      |false=>simp[eo,cD,cm,g483,d,f,c,a,b,h,i,g,q,p,o,m,k]
      |true=>
       cases z with
       |false=>simp[eo,cD,cm,g483,d,f,c,a,b,h,i,g,q,p,o,m,k]
       |true=>
        simp[eo,cD,cm,g483,d,f,c,a,b,h,i,g,q,p,o,m,k]
    ·have A:=g;simp[eo,cD,cm,g483,d,f,c,a,b,h,i,g]
   ·by_cases b:e.kind=8
    ·simp[eo,cD,cm,g483,d,f,c,a,b]
    by_cases h:e.num<0
    ·simp[eo,cD,cm,g483,d,f,c,a,b,h]
    by_cases i:999999999<e.num
    ·simp[eo,cD,cm,g483,d,f,c,a,b,h,i]
    by_cases g:e.num=0
    ·have A:=g;cases nm with
     |false=>
      by_cases s:e.name=[]
      rotate_left
      ·simp[eo,cD,cm,g483,d,f,c,a,b,h,i,g,s]
      by_cases r:e.kind=2
      ·have r2:=r;rw[s]at q p;cases u with
       |false=>simp[eo,cD,cm,g483,d,f,c,a,b,h,i,g,s,r,q,p,o,m,k]
       |true=>
        cases z with
        |false=>simp[eo,cD,cm,g483,d,f,c,a,b,h,i,g,s,r,q,p,o,m,k]
        |true=>
         simp[eo,cD,cm,g483,d,f,c,a,b,h,i,g,s,r,q,p,o,m,k]
      ·have r2:=r;by_cases j:e.kind=9
       ·have r9:=j;cases v with
        |false=>simp[eo,cD,cm,g483,d,f,c,a,b,h,i,g,s,r,j,q,p,o,m,k]
        |true=>
         cases w with
         |false=>simp[eo,cD,cm,g483,d,f,c,a,b,h,i,g,s,r,j,q,p,o,m,k]
         |true=>
          simp[eo,cD,cm,g483,d,f,c,a,b,h,i,g,s,r,j,q,p,o,m,k]
       ·have r9:=j;cases z with
        |false=>simp[eo,cD,cm,g483,d,f,c,a,b,h,i,g,s,r,j,q,p,o,m,k]
        |true=>
         simp[eo,cD,cm,g483,d,f,c,a,b,h,i,g,s,r,j,q,p,o,m,k]
     |true=>
      by_cases r:e.kind=2
      ·have r2:=r;cases u with
       |false=>simp[eo,cD,cm,g483,d,f,c,a,b,h,i,g,r,q,p,o,m,k]
       |true=>
        cases z with
        |false=>simp[eo,cD,cm,g483,d,f,c,a,b,h,i,g,r,q,p,o,m,k]
        |true=>
         simp[eo,cD,cm,g483,d,f,c,a,b,h,i,g,r,q,p,o,m,k]
      ·have r2:=r;cases l with
       |false=>simp[eo,cD,cm,g483,d,f,c,a,b,h,i,g,r,q,p,o,m,k]
       |true=>
        by_cases j:e.kind=9
        ·have r9:=j;cases v with
         |false=>simp[eo,cD,cm,g483,d,f,c,a,b,h,i,g,r,j,q,p,o,m,k]
         |true=>
          cases w with
          |false=>simp[eo,cD,cm,g483,d,f,c,a,b,h,i,g,r,j,q,p,o,m,k]
          |true=>
           simp[eo,cD,cm,g483,d,f,c,a,b,h,i,g,r,j,q,p,o,m,k]
        ·have r9:=j;cases z with
         |false=>simp[eo,cD,cm,g483,d,f,c,a,b,h,i,g,r,j,q,p,o,m,k]
         |true=>
          simp[eo,cD,cm,g483,d,f,c,a,b,h,i,g,r,j,q,p,o,m,k]
    ·have A:=g;by_cases x:e.kind=3
     rotate_left
     ·simp[eo,cD,cm,g483,d,f,c,a,b,h,i,g,x]
     cases nm with
     |false=>
      by_cases s:e.name=[]
      rotate_left
      ·simp[eo,cD,cm,g483,d,f,c,a,b,h,i,g,x,s]
      cases z with
      |false=>simp[eo,cD,cm,g483,d,f,c,a,b,h,i,g,x,s,q,p,o,m,k]
      |true=>
       simp[eo,cD,cm,g483,d,f,c,a,b,h,i,g,x,s,q,p,o,m,k]
     |true=>
      cases l with
      |false=>simp[eo,cD,cm,g483,d,f,c,a,b,h,i,g,x,q,p,o,m,k]
      |true=>
       cases z with
       |false=>simp[eo,cD,cm,g483,d,f,c,a,b,h,i,g,x,q,p,o,m,k]
       |true=>
        simp[eo,cD,cm,g483,d,f,c,a,b,h,i,g,x,q,p,o,m,k]
theorem OY{k:Int}{nm:Bool}{kd:Nat}(h:cM k=some (nm,kd)):kd<=2:=by
 unfold cM at h
 repeat' split at h
 all_goals first|(simp at h;omega)|simp at h
theorem c483(e:Ex):e.Ok->e.CV->(aC AP).p 483 [e.pv]=some [.bool e.wv]:=by
 refine Ex.recC (p:=fun e=>e.Ok->e.CV->(aC AP).p 483 [e.pv]=some [.bool e.wv]) ?_ e;intro e s g hn;obtain⟨X,u,d⟩:=Rn (e:=e);have o:e.aF.length<=1000:=g.a;obtain⟨_,kl⟩:=XZ (e:=e) o hn.a _ 0 rfl (by omega);have r:=c414 g;have hN:e.ch.length<=2000:=by rw[Ex.gZ];have:=g.k;have:=g.a;omega
 have hS:Sm e.ch:=by unfold Sm;omega
 have v:FU (.fn 501 []) [] Ex.pv (fun x=>!x.wv) e.ch:=by
  intro x hx;have k:=s x hx (g.c x hx) (hn.c x hx)
  have:(aC AP).i 501 [.pv x.pv] [] []=some ([.pv (.bool (!x.wv))],[],[]):=by
   rw[aA g501];simp at k;simp[g501,k]
  simp at this;simp[this]
 have q:=Qv sk (m:=500) (k:=516) rfl rfl hS (sh:=[]) (by intro cs h;simp at h) rfl rfl (fun _ _=>rfl) v;have e1:(!(e.ch.any fun x=>!x.wv))=e.ch.all Ex.wv:=s_;rw[Ex.Oi,<-e1];have t:g483.body=.seq (cD g483.body) (.seq (cD (cm g483.body)) (.seq qh (.seq eo U3))):=rfl;rw[az g483,t];generalize (e.ch.any fun x=>!x.wv)=b at*;rw[zar,g483L0e]at kl;cases n:cM e.kind with
 |none=>
  rw[n]at d;simp at d;simp[cD,cm,g483,d]
 |some p=>
  obtain⟨nm,kd⟩:=p;rw[n]at d;have f:=Ro g hn (nm:=nm) (OY n) u;simp only at d;by_cases j:e.zQ nm kd=true
  ·rw[zak j]at f;by_cases l:e.aF.all SB=true
   ·rw[zak l]at kl;simp only[j,l,zba];simp at d f kl r q;simp[cD,cm,g483,U3,d,f,g483L0e,kl,r,q]
   ·rw[zad l]at kl;simp only[j,l,zba];simp at d f kl;simp[cD,cm,g483,U3,d,f,g483L0e,kl]
  ·rw[zad j]at f;simp only[j];simp at d f;simp[cD,cm,g483,d,f]
theorem X0{env:List En}(hl:env.length<=1000000):∀(n i:Nat),env.length-i=n->i<=env.length->∀acc:List bD,acc.length=i->
   cl AP g476L0 ⟨[(0,.pv (.aq (env.map En.pv))),(3,.own (acc.map .str) 0),(4,.pv (vI i))],[],[],[acc.length]⟩=
     some (.exit 0,⟨[(0,.pv (.aq (env.map En.pv))),(3,.own ((acc++(env.drop i).map En.name).map .str) 0),(4,.pv (vI env.length)),(8,.pv (.bool false))],[],[],[env.length]⟩)
 |0,i,hn,hi,acc,b=>by
  have:i=env.length:=by omega
  subst this;rw[g476L0e];simp[g476B0,b]
 |n+1,i,hn,hi,acc,b=>by
  have hi:i<env.length:=(by omega);obtain⟨x,hx⟩:=aP hi;have a:=X0 hl n (i+1) (by omega) (by omega) (acc++[x.name]) (by simp;omega);have c:(acc.length+1)*16<=140737488355328:=(by omega);rw[aV hx];rw[g476L0e]at a⊢;simp at a;simp(disch:=omega)[-getElem?_pos,g476B0,hx,hi,ah,c];rw[g476L0e];simp[a]
theorem c476{env:List En}(hl:env.length<=1000000):(aC AP).p 476 [.aq (env.map En.pv)]=some [.aq ((env.map En.name).map .str)]:=by
 have L:=X0 hl _ 0 rfl (by omega) [] rfl;rw[g476L0e]at L;simp at L;rw[az g476];simp[g476,g476L0e,L]
structure DQ(n:Nat)(env:List En)(e:Ex)(d:Dv):Prop where
 tx:vE e
 ok:e.Ok
 one:e.One
 nm:e.CV
 vl:e.wv=true
 hl:e.KM n
 sz:e.sz<=1000
 sd:d.Sd
 bd:d.Bd
 en:oh env
 le:env.length+10*n<=1000
noncomputable def CJ(ds:List Dt)(home:Int)(n:Nat)(env:List En)(e:Ex)(d:Dv):List Rd×Int:=
 if kx e d=true then(if wy ds (·∈env.map En.name) e=true then(match aJ ds home n env e d with|some l=>(l,0)|none=>([],18))else([],9))else([],17)
open Classical in
theorem DQ.fq{ds:List Dt}{n:Nat}{env:List En}{e:Ex}{d:Dv}(h:DQ n env e d)(hf:kx e d=true)(a:wy ds (·∈env.map En.name) e=true):FQ ds n env e d:=by
 unfold kx at hf;unfold wy at a;exact⟨h.ok,h.hl,zch hf,h.sd,h.bd,zch a,h.en,h.le,h.sz⟩
theorem OZ{ds:List Dt}(b:ni ds){home:Int}{n:Nat}{env:List En}{e:Ex}{d:Dv}(Q:DQ n env e d):(CJ ds home n env e d).1.length<=1000∧∀r∈(CJ ds home n env e d).1,sR r.h:=by
 unfold CJ;split
 ·rename_i hf;split
  ·rename_i a;have A:=(vR b (home:=home) Q.tx (Q.fq hf a)).h;cases e1:aJ ds home n env e d with
   |none=>simp
   |some l=>
    have:=Q.sz;exact⟨zaR (A l e1).1 this,fun r hr=>((A l e1).2 r hr).1⟩
  ·simp
 ·simp
theorem c473{ds:List Dt}(o:ni ds){home:Int}{n:Nat}{env:List En}{e:Ex}{d:Dv}(Q:DQ n env e d):
   (aC AP).p 473 [.aq (ds.map Dt.pv),.aq (env.map En.pv),vI home,e.pv,d.pv]=some [.aq ((CJ ds home n env e d).1.map Rd.pv),vI (CJ ds home n env e d).2]:=by
 have v:=Q.le;have u:=Q.sz;have c:=c483 e Q.ok Q.nm;have a:=c484 Q.ok Q.sd;have i:=c486g (env:=env) (by omega);have g:=c485 o.small.num o.small.dK Q.ok Q.one (env.map En.name) (by simp;omega);rw[Q.vl]at c;unfold CJ;rw[az g473];by_cases hf:kx e d=true
 ·rw[zak hf];rw[hf]at a;by_cases h:wy ds (·∈env.map En.name) e=true
  ·rw[zak h];rw[h]at g;obtain⟨b,t,m,q,r,s⟩:=(vR o (home:=home) Q.tx (Q.fq hf h)).f.p;simp[gM,lJ]at m;simp at c a i g;cases b with
   |true=>
    cases e1:aJ ds home n env e d with
    |none=>have:=r e1;cases this
    |some l=>
     have:=(q l e1).2;subst this;simp[g473,c,a,i,g,m,hf,h]
   |false=>
    cases e1:aJ ds home n env e d with
    |none=>simp[g473,c,a,i,g,m,hf,h]
    |some l=>have:=(q l e1).1;cases this
  ·have j:wy ds (·∈env.map En.name) e=false:=(by simpa using h);rw[zad h];rw[j]at g;simp at c a i g;simp[g473,c,a,i,g,hf,j]
 ·have k:kx e d=false:=(by simpa using hf);rw[zad hf];rw[k]at a;simp at c a;simp[g473,c,a,k]
theorem X2{l:List Rd}(hl:l.length<=1000000){er:Int}:∀(n i:Nat),l.length-i=n->i<=l.length->∀acc:List Ho,acc.length=i->
   cl AP g453L0 ⟨[(13,.pv (vI er)),(14,.own (acc.map Ho.pv) 0),(26,.pv (.aq (l.map Rd.pv))),(27,.pv (vI l.length)),(28,.pv (vI i))],[],[],[acc.length]⟩=
     some (.exit 0,⟨[(13,.pv (vI er)),(14,.own ((acc++(l.drop i).map Rd.h).map Ho.pv) 0),(26,.pv (.aq (l.map Rd.pv))),(27,.pv (vI l.length)),(28,.pv (vI l.length)),(29,.pv (.bool false))],[],[],[l.length]⟩)
 |0,i,hn,hi,acc,b=>by
  have:i=l.length:=by omega
  subst this;rw[g453L0e];simp[g453B0,b]
 |n+1,i,hn,hi,acc,b=>by
  have hi:i<l.length:=(by omega);obtain⟨x,hx⟩:=aP hi;have a:=X2 hl (er:=er) n (i+1) (by omega) (by omega) (acc++[x.h]) (by simp;omega);have c:(acc.length+1)*104<=140737488355328:=(by omega);rw[aV hx];rw[g453L0e]at a⊢;simp at a;simp(disch:=omega)[-getElem?_pos,g453B0,hx,hi,ah,c];rw[g453L0e];simp[a]
theorem c453{ds:List Dt}(b:ni ds){home:Int}{n:Nat}{env:List En}{e:Ex}{d:Dv}(Q:DQ n env e d):
   (aC AP).p 453 [.aq (ds.map Dt.pv),.aq (env.map En.pv),vI home,e.pv,d.pv]=some [.aq (((CJ ds home n env e d).1.map Rd.h).map Ho.pv),vI (CJ ds home n env e d).2]:=by
 have a:=c473 b (home:=home) Q;have hl:=(OZ b (home:=home) Q).1;generalize CJ ds home n env e d=q at*;obtain⟨l,er⟩:=q;have L:=X2 (l:=l) (by simp at hl;omega) (er:=er) _ 0 rfl (by omega) [] rfl;rw[g453L0e]at L;simp at L a;rw[az g453];simp[g453,a,g453L0e,L]
theorem c454{ds:List Dt}(q:ni ds){home:Int}{n:Nat}{env:List En}{e:Ex}{d:Dv}(Q:DQ n env e d):
   (aC AP).p 454 [.aq (ds.map Dt.pv),.aq (env.map En.pv),vI home,e.pv,d.pv]=some [.aq (((CJ ds home n env e d).1.map Rd.h).map Ho.pv),vI (CJ ds home n env e d).2]:=by
 have v:=Q.le;have u:=Q.sz;have a:=c474 Q.ok Q.sd;have i:=c476 (env:=env) (by omega);have f:=c475 q.small.num q.small.dK Q.ok Q.one (env.map En.name) (by simp;omega);unfold CJ;rw[az g454];by_cases hf:kx e d=true
 ·rw[zak hf];rw[hf]at a;by_cases g:wy ds (·∈env.map En.name) e=true
  ·rw[zak g];rw[g]at f;obtain⟨b,o,h,m,r,s,t⟩:=(vR q (home:=home) Q.tx (Q.fq hf g)).c [] [] (by simp;omega) (by simp;omega);simp[dw]at m;simp at a i f;cases b with
   |true=>
    cases e1:aJ ds home n env e d with
    |none=>have:=s e1;cases this
    |some l=>
     obtain⟨_,rfl,rfl⟩:=r l e1;simp at m;simp[g454,a,i,f,m,hf,g]
   |false=>
    cases e1:aJ ds home n env e d with
    |none=>simp[g454,a,i,f,m,hf,g]
    |some l=>have:=(r l e1).1;cases this
  ·have j:wy ds (·∈env.map En.name) e=false:=(by simpa using g);rw[zad g];rw[j]at f;simp at a i f;simp[g454,a,i,f,hf,j]
 ·have k:kx e d=false:=(by simpa using hf);rw[zad hf];rw[k]at a;simp at a;simp[g454,a,k]
theorem c341d{h:Ho}(e:h.goal.Ok)(hS:Sm h.ctx)(f:∀x∈h.ctx,x.sc.ty.Ok):(aC AP).p 341 [h.pv,h.pv]=some [.bool true]:=by
 have d:=c20 (a:=h.goal) (b:=h.goal) e;have c:=c178 (a:=h.ctx) (b:=h.ctx) hS f;simp at d c;rw[az g341];simp[g341,d,c]
theorem X6{l:List Ho}(hl:l.length<=100000)(b:∀h∈l,sR h):∀(k i:Nat),l.length-i=k->i<=l.length->
   cl AP g455L0 ⟨[(0,.pv (.aq (l.map Ho.pv))),(1,.pv (.aq (l.map Ho.pv))),(5,.pv (vI i))],[],[],[]⟩=
     some (.exit 0,⟨[(0,.pv (.aq (l.map Ho.pv))),(1,.pv (.aq (l.map Ho.pv))),(5,.pv (vI l.length)),(14,.pv (.bool false))],[],[],[]⟩)
 |0,i,e,hi=>by
  have:i=l.length:=by omega
  subst this;rw[g455L0e];simp[g455B0]
 |k+1,i,e,hi=>by
  have hi:i<l.length:=(by omega);obtain⟨x,hx⟩:=aP hi;have a:=X6 hl b k (i+1) (by omega) (by omega);obtain⟨o1,o2,d⟩:=b x (aN hx);have c:=c341d (h:=x) o2.ok (by unfold Sm;omega) fun y hy=>(d y hy).ok
  rw[g455L0e]at a⊢;simp at a c;simp(disch:=omega)[-getElem?_pos,g455B0,hi,hx,c,ah];rw[g455L0e];simp[a]
theorem c455{l:List Ho}(hl:l.length<=100000)(a:∀h∈l,sR h):(aC AP).p 455 [.aq (l.map Ho.pv),.aq (l.map Ho.pv)]=some [.bool true]:=by
 have L:=X6 hl a _ 0 rfl (by omega);rw[g455L0e]at L;simp at L;rw[az g455];simp[g455,g455L0e,L]
theorem X7{l:List En}(hl:l.length<=1000000)(d:∀x∈l,x.sc.ty.Ok):∀(n i:Nat),l.length-i=n->i<=l.length->∀acc:List En,acc.length=i->
   cl AP g458L0 ⟨[(0,.pv (.aq [])),(1,.pv (.aq (l.map En.pv))),(5,.own (acc.map En.pv) 0),(6,.pv (vI i))],[],[],[acc.length]⟩=
     some (.exit 0,⟨[(0,.pv (.aq [])),(1,.pv (.aq (l.map En.pv))),(5,.own ((acc++l.drop i).map En.pv) 0),(6,.pv (vI l.length)),(10,.pv (.bool false))],[],[],[l.length]⟩)
 |0,i,hn,hi,acc,b=>by
  have:i=l.length:=by omega
  subst this;rw[g458L0e];simp[g458B0,b]
 |n+1,i,hn,hi,acc,b=>by
  have hi:i<l.length:=(by omega);obtain⟨x,hx⟩:=aP hi;have a:=X7 hl d n (i+1) (by omega) (by omega) (acc++[x]) (by simp;omega);have k:=c377 (s:=[]) (by simp[Sm]) (c:=x.sc) (d x (aN hx));rw[vB]at k;have e:(acc.length+1)*88<=140737488355328:=(by omega);rw[aV hx];rw[g458L0e]at a⊢;simp at a k;simp(disch:=omega)[-getElem?_pos,g458B0,hx,hi,ah,e,k];rw[g458L0e];simp[a]
theorem c458{l:List En}(hl:l.length<=1000000)(a:∀x∈l,x.sc.ty.Ok):(aC AP).p 458 [.aq [],.aq (l.map En.pv)]=some [.aq (l.map En.pv)]:=by
 have L:=X7 hl a _ 0 rfl (by omega) [] rfl;rw[g458L0e]at L;simp at L;rw[az g458];simp[g458,g458L0e,L]
def m0(ds:List Dt)(home:Int):Mc:=⟨ds,home,qk 0,0,0,[],[]⟩
theorem c466{ds:List Dt}{home:Int}{env:List En}(a:kD env)(hf:dt env=[]):
   (aC AP).i 466 [.pv (.aq (ds.map Dt.pv)),.pv (.aq (env.map En.pv)),.pv (vI home)] [] []=some ([.aI 0 0,.pv (.aq ((a8 env).map En.pv)),.pv (.aq [])],[some ((m0 ds home).cx 0)],[0,0]):=by
 have b:=c200r a;have d:=c201 a.sm;have e:=d6 env;have hl:=a.len;have c:=c458 (l:=a8 env) (by omega) fun x hx=>(a.ty x (cS env x hx)).ok
 rw[hf]at b;generalize a8 env=E at*;simp at b d c;rw[aA g466];simp[g466,b];rw[g466L0e];simp[g466B0,d,c,m0,Mc.cx,qk]
structure IQ(n:Nat)(env:List En)(e:Ex):Prop where
 tx:vE e
 sc:Uw e
 hl:e.KM n
 sz:e.sz<=1000
 nn:n<=100
 er:kD env
 fr:dt env=[]
 si:∀x∈env,kA 0 x.sc
def z9(k:Nat):List AV:=[.pv (vI 0),.pv (.str []),.pv (vI 0),.pv (vI 0),.own [] k]
def Gm(e:Ex)(d:Dv)(m:Mc)(i:Int)(x:List (Nat×AV)):St:=⟨[(7,.au 7 0),(9,.au 9 0),(11,.au 11 0),(13,.aI 0 0),(15,.pv (.aq [])),(16,.au 16 0),(17,.own [d.ty.pv] 0),(19,.pv (vI i))]++x,[(7,e.cl),(9,z9 1),(11,z2),(16,d.cells.map .pv)],[some (m.cx 2)],[1,0,m.rc.length,m.hd.length]⟩
def Mc.er(m:Mc)(F:Int×Int):Mc:={m with err:=F.1,pos:=F.2}
theorem X8{m:Mc}{n:Nat}(I:p8 n m.s)(hn:n<=1000000){e:Ex}{d:Dv}(g:d.ty.Ok):
   ∃(i:Int)(F:Int×Int),cl AP g457L1 (Gm e d m 0 [])=some (.exit 2,Gm e d (m.er F) i [(76,.pv (.bool false))])∧(F.1=0->F=(m.err,m.pos)∧ZJ m d.ty):=by
 have a:=Ex.aE e;have c:=Dv.aE d;have f:IntKind.i64.wrap 1=1:=by decide
 by_cases h0:m.err=0
 ·obtain⟨b,k,hT⟩:=c329 I hn g;unfold jj at k;simp[Mc.sh,Mc.tk,Mc.cells,h0]at k;cases b with
  |true=>
   refine⟨1,(15,e.pos),?_,fun h=>by simp at h⟩;rw[g457L1e];simp[g457B1,Gm,z9,z2,Mc.cx,Mc.er,h0,k,a,c,Ex.cl,f];rw[g457L1e];simp[g457B1]
  |false=>
   refine⟨1,(m.err,m.pos),?_,fun _=>⟨rfl,hT rfl⟩⟩;rw[g457L1e];simp[g457B1,Gm,z9,z2,Mc.cx,Mc.er,h0,k,a,c,Ex.cl,f];rw[g457L1e];simp[g457B1]
 ·refine⟨0,(m.err,m.pos),?_,fun h=>absurd h h0⟩;rw[g457L1e];simp[g457B1,Gm,z9,z2,Mc.cx,Mc.er,h0,a,c,Ex.cl]
def CL(d:Dv)(m:Mc)(i:Int)(x:List (Nat×AV)):St:=⟨[(9,.au 9 0),(11,.au 11 0),(13,.aI 0 0),(15,.pv (.aq [])),(16,.au 16 0),(17,.own [d.ty.pv] 0),(20,.pv (vI i))]++x,[(9,z9 1),(11,z2),(16,d.cells.map .pv)],[some (m.cx 2)],[1,0,m.rc.length,m.hd.length]⟩
theorem S5{m:Mc}{n:Nat}(I:p8 n m.s)(hn:n<=1000000)(hl:m.rc.length<=100000)(c:∀h∈m.rc,mJ n h){d:Dv}:∀(k i:Nat),m.rc.length-i=k->i<=m.rc.length->
   ∃(j:Int)(F:Int×Int),cl AP g457L2 (CL d m i [])=some (.exit 4,CL d (m.er F) j [(105,.pv (.bool false))])∧(F.1=0->F=(m.err,m.pos)∧∀h∈m.rc.drop i,∀u∈aU [h],ZJ m u)
 |0,i,p,hi=>by
  have:i=m.rc.length:=by omega
  subst this;refine⟨m.rc.length,(m.err,m.pos),?_,fun _=>⟨rfl,by simp⟩⟩;have a:=Dv.aE d;rw[g457L2e];simp[g457B2,CL,z9,z2,Mc.cx,Mc.er,a]
 |k+1,i,p,hi=>by
  have hi:i<m.rc.length:=(by omega);have a:=Dv.aE d;by_cases h0:m.err=0
  ·obtain⟨h,hx⟩:=aP hi;obtain⟨b,e,hT⟩:=c331 I hn (c h (aN hx));unfold jj at e;simp[Mc.sh,Mc.tk,Mc.cells,h0]at e;cases b with
   |true=>
    refine⟨(i:Int)+1,(15,h.pos),?_,fun q=>by simp at q⟩;rw[g457L2e];simp(disch:=omega)[-getElem?_pos,g457B2,CL,z9,z2,Mc.cx,Mc.er,h0,hi,hx,e,a,ah];rw[g457L2e];simp[g457B2]
   |false=>
    obtain⟨j,F,o,l⟩:=S5 I hn hl c (d:=d) k (i+1) (by omega) (by omega);refine⟨j,F,?_,?_⟩
    ·rw[<-o];conv=>lhs;rw[g457L2e]
     simp (disch:=omega) [-getElem?_pos,g457B2,CL,z9,z2,Mc.cx,h0,hi,hx,e,a,ah];conv=>lhs;rw[g457L2e]
     conv=>rhs;rw[g457L2e]
     simp
    ·intro r;obtain⟨g,f⟩:=l r;refine⟨g,?_⟩;rw[aV hx];intro y hy;simp only[zah]at hy;rcases hy with rfl|hy
     ·exact hT rfl
     ·exact f y hy
  ·refine⟨i,(m.err,m.pos),?_,fun h=>absurd h h0⟩;rw[g457L2e];simp[g457B2,CL,z9,z2,Mc.cx,Mc.er,h0,a,hi]
theorem S6{m:Mc}{v:List Int}(f:v.length<=1000000){d:Dv}(hl:m.rc.length<=100000)(j:∀h∈m.rc,h.ctx.length<=1000000)(hr:∀h∈m.rc,(∀x∈h.ctx,Pf m.s x.sc.ty (OL m.s x.sc.ty))∧Pf m.s h.goal (OL m.s h.goal)):∀(k i:Nat),m.rc.length-i=k->i<=m.rc.length->∀acc:List Ho,acc.length=i->
   cl AP g457L4 ⟨[(9,.au 9 0),(11,.au 11 0),(13,.aI 0 0),(16,.au 16 0),(21,.own ((dv 0 v).map As.pv) 0),(22,.own [] 1),(24,.own (acc.map Ho.pv) 2),(25,.pv (vI i))],[(9,z9 3),(11,z2),(16,d.cells.map .pv)],[some (m.cx 4)],[v.length,0,acc.length,0,m.rc.length,m.hd.length]⟩=
     some (.exit 8,⟨[(9,.au 9 0),(11,.au 11 0),(13,.aI 0 0),(16,.au 16 0),(21,.own ((dv 0 v).map As.pv) 0),(22,.own [] 1),(24,.own ((acc++(m.rc.drop i).map (K2 m v)).map Ho.pv) 2),(25,.pv (vI m.rc.length)),(177,.pv (.bool false))],[(9,z9 3),(11,z2),(16,d.cells.map .pv)],[some (m.cx 4)],[v.length,0,m.rc.length,0,m.rc.length,m.hd.length]⟩)
 |0,i,n,hi,acc,g=>by
  have:i=m.rc.length:=by omega
  subst this;have a:=jg (i:=0) (l:=v);have b:=Dv.aE d;rw[g457L4e];simp[g457B4,z9,z2,Mc.cx,g,a,b]
 |k+1,i,n,hi,acc,g=>by
  have hi:i<m.rc.length:=(by omega);obtain⟨h,hx⟩:=aP hi;have c:=S6 f (d:=d) hl j hr k (i+1) (by omega) (by omega) (acc++[K2 m v h]) (by simp;omega);have e:=c334 f (j h (aN hx)) (hr h (aN hx)).1 (hr h (aN hx)).2;have o:(acc.length+1)*104<=140737488355328:=(by omega);have a:=jg (i:=0) (l:=v);have b:=Dv.aE d;rw[aV hx,zao];unfold jj at e;rw[g457L4e]at c⊢;simp[Mc.sh,Mc.tk,Mc.cells,Ri]at e;simp[z9,z2,Mc.cx,a,b]at c;generalize K2 m v h=w at*;simp(disch:=omega)[-getElem?_pos,g457B4,z9,z2,Mc.cx,hi,hx,e,ah,o,a,b];rw[g457L4e];simp[c,a]
theorem c457t{ds:List Dt}(T:ni ds){home:Int}{n:Nat}{env:List En}{e:Ex}(Q:IQ n env e):
   ∃(s h:PV)(t:Ty)(F:Int×Int),(aC AP).p 457 [.aq (ds.map Dt.pv),.aq (env.map En.pv),vI home,e.pv]=some [s,t.pv,h,.agg [vI F.1,vI F.2]]∧(F.1=0->(e.bR ds (env.map En.name)).1=0):=by
 have hl:=Q.er.len;have E:=c476 (env:=env) (by omega);have B:=c366 T.small.num T.small.dK n Q.sc Q.hl (env.map En.name) (by simp;have:=Q.nn;omega);have O:=c466 (ds:=ds) (home:=home) Q.er Q.fr;by_cases h0:(e.bR ds (env.map En.name)).1=0
 ·have a1:=d6 env;have R:Room ds (m0 ds home) 0 (201*e.sz) e.sz (20*e.sz) (a8 env):=⟨p_ 0,by have:=Q.sz;omega,by have:=Q.sz;simp[m0];omega,by have:=Q.sz;simp[m0];omega,by simp[m0],fun x hx=>Q.si x (cS env x hx),by have:=Q.sz;omega,rfl⟩;obtain⟨d,f1,f2,f3,Z,m,n',J,st,K⟩:=HC T (H:=False) Q.tx Q.sc.ok (OB Q.hl h0) (fun h=>h.elim) _ _ _ R;have D:=eW f1 f2 f3 Z d;generalize iA f1 f2 f3 Z d=C at*;have o:=D.len;have c:=D.leaf;have q:=D.ej;have g:=D.flat;have r:=D.oB;have f:=D.kill;have y:=Dv.aE d;have ec:=Ex.aE e;have hf:∀S:Sh,ej S (.au 16 0)=none:=fun _=>rfl
  have R1:=R.step st (A':=0) (R':=0) (E':=0) (by omega) (by omega) (by omega);have k:=R1.n';have a2:=R1.rc;have a3:=R1.hd;obtain⟨i1,F1,A,q2⟩:=X8 R1.st k K.t.ok (e:=e);obtain⟨i2,F2,r1,r2⟩:=S5 (m:=m.er F1) R1.st k (by simp only[Mc.er];omega) R1.lI (d:=d) _ 0 rfl (by omega);unfold jj at J;simp[Mc.sh,Mc.tk,Mc.cells,m0,qk]at J;simp[m0,Mc.cx,qk]at O;simp[h0]at E B;rw[g457L1e]at A;rw[g457L2e]at r1;by_cases I:F2.1=0
  ·obtain⟨e1,T1⟩:=r2 I;have e2:F1.1=0:=by rw[e1]at I;exact I
   obtain⟨e3,T0⟩:=q2 e2;subst e3;have e4:F2=(m.err,m.pos):=e1;subst e4;have a:m.err=0:=e2;simp[Gm,z9,z2,Mc.cx,Mc.er,ec,y,Ex.cl,a]at A;simp[CL,z9,z2,Mc.cx,Mc.er,y,a]at r1;have kB:=mJ.kB R1.lI;have P:=mr (l:=m.rc) (fun h b=>(R1.lI h b).len);have Y:(aU m.rc).length<=100000*1000001:=zaR P (zaH _ (by omega))
   obtain⟨v,k5,vC,vV⟩:=c372 (s:=m.s) (S:=(oe n').ids) (by rw[R1.st.len];exact k) R1.st.xj R1.st.ok R1.st.ig (N5 k).vT (l:=d.ty::aU m.rc) (by unfold Sm;simp;omega) (by
    intro t j;simp only[zah]at j;rcases j with rfl|j
    ·exact K.t.ok
    ·exact(kB t j).1) (by
    intro t j;simp only[zah]at j;rcases j with rfl|j
    ·exact K.t.ig
    ·exact(kB t j).2)
   have w:v.length<=1000000:=by
    have:=gv vC.nodup vC.sub;simp[oe,eg]at this;omega
   have X:=c356 (l:=m.rc) (by omega) fun h b=>(R1.lI h b).len;have W:=c357 (m:=m) w k5
   simp[Mc.sh,Mc.tk,Mc.cells,Mc.cx,a]at X W;have bb:(1+(aU m.rc).length)*64<=140737488355328:=by omega
   have U:((aU m.rc).length+1)*64<=140737488355328:=(by omega);have b:=jw.head (aU m.rc);have G:Sm m.s.sl:=(by unfold Sm;rw[R1.st.len];omega);have rd:=OM G R1.st.ok K.t.ok T0;have V:∀h∈m.rc,∀u∈aU [h],Pf m.s u (OL m.s u):=fun h b u hu=>OM G R1.st.ok (kB u (vH.2 ⟨h,b,hu⟩)).1 (T1 h (by rw[zar];exact b) u hu)
   have L:=S6 (m:=m) w (d:=d) (by omega) (fun h b=>(R1.lI h b).len) (fun h b=>⟨fun x hx=>V h b _ (by simp[aU];exact .inl ⟨x,hx,rfl⟩),V h b _ (by simp[aU])⟩) _ 0 rfl (by omega) [] rfl;have M:=c333 (m:=m) w rd;have z:=jg (i:=0) (l:=v);rw[g457L4e]at L;rw[zar]at L;unfold jj at M;generalize Gi m v d.ty=u at*;generalize m.rc.map (K2 m v)=hs at*;generalize dv 0 v=N at*;simp[Mc.sh,Mc.tk,Mc.cells,a,Hu]at M;simp[z9,z2,Mc.cx,y,a,z]at L;refine⟨.aq [],.aq (hs.map Ho.pv),u,(0,0),?_,fun _=>h0⟩;rw[az g457];simp[g457,E,B,h0,O,J,o,c,q,g,r,f,y,hf];rw[g457L0e];simp[g457B0,a,g457L1e,A,g457L2e,r1,X,W,bb,U,b,z];rw[g457L3e];simp[g457B3,g457L4e,L,M,z]
  ·refine⟨.aq [],.aq [],ca,F2,?_,fun h=>absurd h I⟩;simp[Gm,z9,z2,Mc.cx,Mc.er,ec,y,Ex.cl]at A;simp[CL,z9,z2,Mc.cx,Mc.er,y]at r1;rw[az g457];simp[g457,E,B,h0,O,J,o,c,q,g,r,f,y,hf];rw[g457L0e];simp[g457B0,g457L1e,A,g457L2e,r1,I,ca]
 ·refine⟨.aq [],.aq [],ca,e.bR ds (env.map En.name),?_,fun h=>h⟩;rw[az g457];simp at E B;simp[g457,E,B,h0,ca]
end Go.Ab.Lw
