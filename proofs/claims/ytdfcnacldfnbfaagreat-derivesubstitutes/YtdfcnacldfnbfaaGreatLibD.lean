import Derived.Test.YtdfcnacldfnbfaaGreatLibC
/- What functions of the given program answer, told of their slim code on the abstract machine. -/
set_option linter.defProp false
set_option linter.unusedVariables false
set_option linter.unusedSimpArgs false
set_option linter.unnecessarySimpa false
set_option maxRecDepth 100000
set_option maxHeartbeats 8000000
namespace Go.Ab
def zc8:=@Bool.not_eq_true
end Go.Ab
namespace Go.Ab.Lw
open Ev
variable{home:Int}{env:List En}{e x x1:Ex}{d y:Dv}{fit:Option (List Rd)}{N i0:Nat}{U:List Dt}{fs us:List Ty}{D:Dt}{u E:Ty}{s:bF}{α:Type}
theorem BC{ds:List Dt}{envF:List En}(i:e.kids=[x])(hy:d.kids=[y])(q:Bool)(t:Ty)(hN:N<=1000000)(h:Fk 487 (iu ds home envF x y) fit N):
   (∃a,a.length<=N/\(∀l,fit=some l->a=l)/\(∃l,fit=some l)/\cl AP g487L0 (lD ds home env envF e d q t [] 0)=some (.exit 8,⟨[(1,.pv (.ae (env.map En.pv))),(4,.au 4 0),(6,.au 6 0),(7,.au 7 0),(12,.pv (.ae (envF.map En.pv))),(18,.au 18 0),(20,.own (a.map Rd.pv) 0),(164,.pv (.ae (e.kids.map Ex.pv))),(165,.pv (vI e.kids.length)),(166,.pv (vI e.kids.length)),(167,.pv (.bool false))],[(4,pB ds home),(6,e.cl),(7,iS d),(18,EB q t)],[],a.length::zF q⟩))\/
   (fit=none/\cl AP g487L0 (lD ds home env envF e d q t [] 0)=some (.ret,⟨[(8,.dm []),(9,.pv (.bool false))],[],[],0::zF q⟩)):=by
 obtain⟨b,a,h1,h2,h3,h4⟩:=h.p;have f:e.kids[0]?=some x:=by rw[i];rfl
 have c:d.kids[0]?=some y:=by rw[hy];rfl
 have hl:e.kids.length=1:=by rw[i];rfl
 cases b with
 |false=>
  refine .inr ⟨?_,RL (by omega) f c h1⟩;cases hf:fit with
  |none=>rfl
  |some l=>have:=(h2 l hf).1;cases this
 |true=>
  refine .inl ⟨a,h4,fun l hf=>(h2 l hf).2,Fk.yes (g:=0) (x:=[]) h3 rfl,?_⟩;rw[RM (by omega) (by simp) f c (by omega) h1,zaQ];have:=W8 (ds:=ds) (home:=home) (env:=env) (envF:=envF) (e:=e) (d:=d) (q:=q) (t:=t) (acc:=a);rw[hl]at this⊢;exact this
def fk9{ds:List Dt}{n:Nat}(h:e.kind=9)(g:e.kids=[x])(hy:d.kids=[y])(hd:d.Sd)(s:y.ty.Ok)(hN:N<=1000000)(h1:1<=N)(v:Fk 487 (iu ds home env x y) (aK ds home n env x y) N):
   Fk 487 (iu ds home env e d) (aK ds home (n+1) env e d) N:=by
 by_cases k:(e.kind≠6/\e.kind≠7/\d.gen≠[])\/(e.kind≠1/\e.kind≠2/\e.kind≠8/\d.inst≠[])
 .obtain⟨b,l,q,i,p,z⟩:=l_ (ds:=ds) (home:=home) (n:=n) (env:=env) k;exact⟨b,l,q,i,p,by omega⟩
 .obtain⟨f,hi⟩:=dX k;have f:=f (by omega) (by omega);have hi:=hi (by omega) (by omega) (by omega);have o:=c33e (a:=d.ty) (b:=y.ty) hd.t.ok;have k2:=c33e (a:=y.ty) (b:=e.ty) s
  have u:aK ds home (n+1) env e d=if d.ty=e.ty/\d.ty=y.ty then aK ds home n env x y else none:=by
   rw[aK,zad k];simp[h,jk,nL,g,hy]
  rw[u];rcases BC (env:=env) g hy false cA hN v with⟨r,j,i,⟨l,hl⟩,L⟩|⟨hf,L⟩
  .refine⟨decide (d.ty=y.ty) && decide (y.ty=e.ty),r,?_,?_,?_,j⟩
   .generalize decide (d.ty=y.ty)=b1 at*;generalize decide (y.ty=e.ty)=A at*;rw[g487L0e]at L;simp[lD,pB,iS,EB,zF,g,hy,f,hi,h]at L;simp at o k2;rw[aC g487];cases b1<;>simp[g487,iu,mK,h,f,hi,g,hy,g487L0e,L,o,k2]
   .intro l' c;split at c
    .rename_i w;have e1:y.ty=d.ty:=w.2.symm;have e2:d.ty=e.ty:=w.1;exact⟨by simp[e1,e2],i l' c⟩
    .cases c
   .intro w;by_cases t1:d.ty=y.ty
    .by_cases m:y.ty=e.ty
     .rw[zai ⟨t1.trans m,t1⟩,hl]at w;cases w
     .simp[m]
    .simp[t1]
  .refine⟨false,[],?_,?_,fun _=>rfl,by simp⟩
   .rw[g487L0e]at L;simp[lD,pB,iS,EB,zF,g,hy,f,hi,h]at L;rw[aC g487];simp[g487,iu,mK,h,f,hi,g,hy,g487L0e,L]
   .intro l w;rw[hf]at w;split at w<;>cases w
def acG{ds:List Dt}{n:Nat}(h:e.kind=11)(g:e.kids=[x])(hy:d.kids=[y])(hd:d.Sd)(r:Sm env)(hN:N<=900000)(v:Fk 487 (iu ds home env x y) (aK ds home n env x y) N):
   Fk 487 (iu ds home env e d) (aK ds home (n+1) env e d) (N+1):=by
 by_cases j:(e.kind≠6/\e.kind≠7/\d.gen≠[])\/(e.kind≠1/\e.kind≠2/\e.kind≠8/\d.inst≠[])
 .obtain⟨b,l,p,i,o,z⟩:=l_ (ds:=ds) (home:=home) (n:=n) (env:=env) j;exact⟨b,l,p,i,o,by omega⟩
 .obtain⟨f,hi⟩:=dX j;have f:=f (by omega) (by omega);have hi:=hi (by omega) (by omega) (by omega);have m:=c33e (a:=d.ty) (b:=y.ty) hd.t.ok;have k2:=c506g (ds:=ds) (home:=home) r (e:=e) (d:=d)
  have s:aK ds home (n+1) env e d=if d.ty=y.ty then(match aK ds home n env x y with|some l=>some (l++[⟨uA home env e d,true⟩])|none=>none)else none:=by
   rw[aK,zad j];simp[h,jk,nL,g,hy]<;>cases aK ds home n env x y<;>rfl
  rw[s];rcases BC (env:=env) g hy false cA (by omega) v with⟨k,q,i,⟨l,hl⟩,L⟩|⟨hf,L⟩
  .refine⟨decide (d.ty=y.ty),k++[⟨uA home env e d,true⟩],?_,?_,?_,by simp;omega⟩
   .generalize decide (d.ty=y.ty)=b1 at*;generalize uA home env e d=H at*;have u:(k.length+1)*112<=140737488355328:=by omega
    rw[g487L0e]at L;simp[lD,pB,iS,EB,zF,g,hy,f,hi,h]at L k2;simp at m;rw[aC g487];simp[g487,iu,mK,h,f,hi,g,hy,g487L0e,L,m,k2,u]
   .intro l' c;split at c
    .rename_i w;rw[hl]at c;cases c;rw[i l hl];exact⟨by simp[w],rfl⟩
    .cases c
   .intro w;by_cases t1:d.ty=y.ty
    .rw[zai t1,hl]at w;cases w
    .simp[t1]
  .refine⟨false,[],?_,?_,fun _=>rfl,by simp⟩
   .rw[g487L0e]at L;simp[lD,pB,iS,EB,zF,g,hy,f,hi,h]at L;rw[aC g487];simp[g487,iu,mK,h,f,hi,g,hy,g487L0e,L]
   .intro l w;rw[hf]at w;split at w<;>cases w
def fk4{ds:List Dt}{n:Nat}(j:e.kind=4)(i:e.kids=[x])(hy:d.kids=[y])(D:Sm env)(hN:N<=1000000)(h1:1<=N)(s:∀a b,lx d.ty=some (a,b)->b.Ok/\Fk 487 (iu ds home (env++[(⟨e.name,⟨0,a⟩⟩:En)]) x y) (aK ds home n (env++[⟨e.name,⟨0,a⟩⟩]) x y) N):
   Fk 487 (iu ds home env e d) (aK ds home (n+1) env e d) N:=by
 by_cases q:(e.kind≠6/\e.kind≠7/\d.gen≠[])\/(e.kind≠1/\e.kind≠2/\e.kind≠8/\d.inst≠[])
 .obtain⟨b,l,A,o,v,H⟩:=l_ (ds:=ds) (home:=home) (n:=n) (env:=env) q;exact⟨b,l,A,o,v,by omega⟩
 .obtain⟨h,hi⟩:=dX q;have h:=h (by omega) (by omega);have hi:=hi (by omega) (by omega) (by omega);have f:=c509 (t:=d.ty)
  have E:aK ds home (n+1) env e d=match lx d.ty with
   |some (a,b)=>if b=y.ty then aK ds home n (env++[⟨e.name,⟨0,a⟩⟩]) x y else none
   |none=>none:=by
   rw[aK,zad q];simp[j,jk,nL,i,hy]<;>cases lx d.ty<;>rfl
  rw[E];cases r:lx d.ty with
  |none=>
   refine⟨false,[],?_,fun l z=>by(cases z),fun _=>rfl,by simp⟩;rw[r]at f;simp[ER,cA]at f;rw[aC g487];simp[g487,iu,mK,j,h,hi,i,hy,f]
  |some G=>
   obtain⟨a,b⟩:=G;obtain⟨F,s⟩:=s a b r;rw[r]at f;have k2:=c33e (a:=b) (b:=y.ty) F;have m:=c438 (t:=a);have k:=c177 D (n:=e.name) (c:=⟨0,a⟩);simp only;generalize C:env++[(⟨e.name,⟨0,a⟩⟩:En)]=u at*;rcases BC (env:=env) i hy true b hN s with⟨B,p,o,⟨l,hl⟩,L⟩|⟨hf,L⟩
   .refine⟨decide (b=y.ty),B,?_,?_,?_,p⟩
    .generalize decide (b=y.ty)=b1 at*;rw[g487L0e]at L;simp[lD,pB,iS,EB,zF,i,hy,h,hi,j]at L;simp[ER]at f k2 m k;rw[aC g487];simp[g487,iu,mK,j,h,hi,i,hy,f,m,k,g487L0e,L,k2]
    .intro l' g;split at g
     .rename_i w;exact⟨by simp[w],o l' g⟩
     .cases g
    .intro w;by_cases t1:b=y.ty
     .rw[zai t1,hl]at w;cases w
     .simp[t1]
   .refine⟨false,[],?_,?_,fun _=>rfl,by simp⟩
    .rw[g487L0e]at L;simp[lD,pB,iS,EB,zF,i,hy,h,hi,j]at L;simp[ER]at f m k;rw[aC g487];simp[g487,iu,mK,j,h,hi,i,hy,f,m,k,g487L0e,L]
    .intro l w;rw[hf]at w;split at w<;>cases w
theorem fk5{ds:List Dt}{n C F:Nat}{k:Ex}{f Z:Dv}(A:e.kind=5)(o:e.kids=[k,x1])(hy:d.kids=[f,Z])(O:f.ty.Ok)(hN:C+F<=1000000)(h1:1<=C)(IH0:Fk 487 (iu ds home env k f) (aK ds home n env k f) C)(IH1:Fk 487 (iu ds home env x1 Z) (aK ds home n env x1 Z) F):
   Fk 487 (iu ds home env e d) (aK ds home (n+1) env e d) (C+F):=by
 by_cases E:(e.kind≠6/\e.kind≠7/\d.gen≠[])\/(e.kind≠1/\e.kind≠2/\e.kind≠8/\d.inst≠[])
 .obtain⟨b,l,N,M,K,S⟩:=l_ (ds:=ds) (home:=home) (n:=n) (env:=env) E;exact⟨b,l,N,M,K,by omega⟩
 .obtain⟨s,hi⟩:=dX E;have s:=s (by omega) (by omega);have hi:=hi (by omega) (by omega) (by omega);have I:=c220 (a:=Z.ty) (b:=d.ty);have H:=c33e (a:=f.ty) (b:=eh Z.ty d.ty) O
  have P:aK ds home (n+1) env e d=if f.ty=eh Z.ty d.ty then(match aK ds home n env k f with|some l=>(match aK ds home n env x1 Z with|some m=>some (l++m)|none=>none)|none=>none)else none:=by
   rw[aK,zad E];simp[A,jk,nL,o,hy]<;>cases aK ds home n env k f<;>first|rfl|(cases aK ds home n env x1 Z<;>rfl)
  rw[P];obtain⟨b0,D,p1,p2,p3,p4⟩:=IH0.p;obtain⟨b1,G,r1,r2,r3,R⟩:=IH1.p;have z:e.kids[0]?=some k:=by rw[o];rfl
  have y:e.kids[1]?=some x1:=(by rw[o];rfl);have v:d.kids[0]?=some f:=(by rw[hy];rfl);have u:d.kids[1]?=some Z:=(by rw[hy];rfl);have hl:e.kids.length=2:=by rw[o];rfl
  have B:∀L,cl AP g487L0 (lD ds home env env e d false cA [] 0)=some (.ret,⟨[(8,.dm []),(9,.pv (.bool false))],[],[],L::zF false⟩)->(aE AP).i 487 ((iu ds home env e d).map .pv) [] []=some ([.own [] 0,.pv (.bool false)],[],[0]):=by
   intro T L;rw[g487L0e]at L;simp[lD,pB,iS,EB,zF,o,hy,s,hi,A]at L;rw[aC g487];simp[g487,iu,mK,A,s,hi,o,hy,g487L0e,L]
  cases b0 with
  |false=>
   have fn:aK ds home n env k f=none:=by
    cases hf:aK ds home n env k f with
    |none=>rfl
    |some l=>have:=(p2 l hf).1;cases this
   refine⟨false,[],B _ (RL (by omega) z v p1),?_,fun _=>rfl,by simp⟩;intro l w;rw[fn]at w;split at w<;>cases w
  |true=>
   obtain⟨m0,h⟩:=Fk.yes (g:=0) (x:=[]) p3 rfl;have e0:=(p2 m0 h).2;have L1:=RM (ds:=ds) (home:=home) (env:=env) (envF:=env) (e:=e) (d:=d) (q:=false) (t:=cA) (acc:=[]) (i:=0) (by omega) (by simp) z v (by omega) p1;rw[zaQ]at L1;cases b1 with
   |false=>
    have fn:aK ds home n env x1 Z=none:=by
     cases hf:aK ds home n env x1 Z with
     |none=>rfl
     |some l=>have:=(r2 l hf).1;cases this
    refine⟨false,[],B _ (L1.trans (RL (by omega) y u r1)),?_,fun _=>rfl,by simp⟩;intro l w;rw[h,fn]at w;split at w<;>cases w
   |true=>
    obtain⟨m1,r⟩:=Fk.yes (g:=0) (x:=[]) r3 rfl;have e1:=(r2 m1 r).2;have Q:=RM (ds:=ds) (home:=home) (env:=env) (envF:=env) (e:=e) (d:=d) (q:=false) (t:=cA) (acc:=D) (i:=1) (by omega) (by omega) y u (by omega) r1;have J:=W8 (ds:=ds) (home:=home) (env:=env) (envF:=env) (e:=e) (d:=d) (q:=false) (t:=cA) (acc:=D++G);rw[hl]at J;have L:=(L1.trans Q).trans J;refine⟨decide (f.ty=eh Z.ty d.ty),D++G,?_,?_,?_,by simp;omega⟩
    .generalize decide (f.ty=eh Z.ty d.ty)=b at*;rw[g487L0e]at L;simp[lD,pB,iS,EB,zF,o,hy,s,hi,A]at L;simp[eh]at I H;rw[aC g487];simp[g487,iu,mK,A,s,hi,o,hy,g487L0e,L,I,H]
    .intro l' j;rw[h,r]at j;split at j
     .rename_i w;cases j;rw[e0,e1];exact⟨by simp[w],rfl⟩
     .cases j
    .intro w;rw[h,r]at w;split at w
     .cases w
     .rename_i t1;simp[t1]
noncomputable def EC(f:List En->Ex->Dv->Option (List Rd))(env first:List En)(e c x1:Ex)(d a b:Dv):Option (List Rd):=
 match f first c a with
 |none=>none
 |some l=>if jV d.gen (vars [a.ty]) (dQ env++vars (aP (l.map Rd.h))) 0=true/\d.ty=b.ty then
  match f (l9 env e d a.ty) x1 b with
  |some m=>some (l++m)
  |none=>none
   else none
theorem abU{n B A:Nat}{Y:List En}{k:Ex}{f j:Dv}(u:e.kids=[k,x1])(hy:d.kids=[f,j])(hd:d.Sd)(v:BP f.ty)(I:l7 env)(hN:B+A<=1000000)
   (E:Fk 487 (iu U home Y k f) (aK U home n Y k f) B)
   (M:∀l,aK U home n Y k f=some l->l.length<=1000/\∀r∈l,xF r.h/\r.Cl)
   (D:Fk 487 (iu U home (l9 env e d f.ty) x1 j) (aK U home n (l9 env e d f.ty) x1 j) A):
   Fk 508 [mK U home,.ae (env.map En.pv),.ae (Y.map En.pv),e.pv,d.pv] (EC (aK U home n) env Y e k x1 d f j) (B+A):=by
 have gl:=hd.gl;obtain⟨b0,s,p1,p2,p3,p4⟩:=E;obtain⟨b1,F,r1,r2,r3,N⟩:=D;have H:=c437 (S:=f.ty.nodes) (by have:=v.n;omega) (v.BT fun y hy=>hy) (ids:=d.gen) (by unfold Sm;omega);have k2:=c177 I.sm (n:=e.name) (c:=cG d.gen f.ty (vars [f.ty]));have G:=c33e (a:=d.ty) (b:=j.ty) hd.t.ok;unfold EC;cases b0 with
 |false=>
  have fn:aK U home n Y k f=none:=by
   cases hf:aK U home n Y k f with
   |none=>rfl
   |some l=>have:=(p2 l hf).1;cases this
  rw[fn];refine⟨false,[],?_,fun l z=>by(cases z),fun _=>rfl,by simp⟩;simp[iu,mK]at p1;rw[aC g508];simp[g508,mK,u,hy,p1]
 |true=>
  obtain⟨m0,q⟩:=Fk.yes (g:=0) (x:=[]) p3 rfl;have e0:=(p2 m0 q).2;subst e0;obtain⟨hl,hr⟩:=M _ q;have o:=c493 gl v I hl (fun r p=>(hr r p).1);rw[RG fun r p=>(hr r p).2]at o;rw[q];simp only;cases gb:jV d.gen (vars [f.ty]) (dQ env++vars (aP (s.map Rd.h))) 0 with
  |false=>
   rw[zad (by simp)];refine⟨false,[],?_,fun l z=>by(cases z),fun _=>rfl,by simp⟩;rw[gb]at o;simp[iu,mK]at p1 o;rw[aC g508];simp[g508,mK,u,hy,p1,o]
  |true=>
   rw[gb]at o;have L:(s.length+F.length)*112<=140737488355328:=by omega
   refine⟨b1 && decide (d.ty=j.ty),s++F,?_,?_,?_,by simp;omega⟩
   .generalize decide (d.ty=j.ty)=b at*
    change _=some [PV.ae ((l9 env e d f.ty).map En.pv)]at k2
    generalize cG d.gen f.ty (vars [f.ty])=C at*;generalize l9 env e d f.ty=E2 at*;simp[iu,mK]at p1 o H k2 G r1;rw[aC g508];cases b1<;>simp[g508,mK,u,hy,p1,o,H,k2,r1,G,L]
   .intro l' i;split at i
    .rename_i w;cases f1:aK U home n (l9 env e d f.ty) x1 j with
     |none=>rw[f1]at i;cases i
     |some m=>
      rw[f1]at i;cases i;obtain⟨K,J⟩:=r2 m f1;rw[J];exact⟨by simp[K,w.2],rfl⟩
    .cases i
   .intro w;by_cases t1:d.ty=j.ty
    .rw[zai ⟨rfl,t1⟩]at w;cases f1:aK U home n (l9 env e d f.ty) x1 j with
     |none=>simp[r3 f1]
     |some m=>rw[f1]at w;cases w
    .simp[t1]
def acH{ds:List Dt}{n q:Nat}{i:Ex}{Z j:Dv}(f:e.kind=6\/e.kind=7)(y:e.kids=[i,x1])(hy:d.kids=[Z,j])(hd:d.Sd)(A:BP Z.ty)(z:l7 env)(hN:N+q<=1000000)(h1:1<=N)
   (u:Fk 487 (iu ds home (iT env e Z.ty) i Z) (aK ds home n (iT env e Z.ty) i Z) N)
   (C:∀l,aK ds home n (iT env e Z.ty) i Z=some l->l.length<=1000/\∀r∈l,xF r.h/\r.Cl)
   (s:Fk 487 (iu ds home (l9 env e d Z.ty) x1 j) (aK ds home n (l9 env e d Z.ty) x1 j) q):
   Fk 487 (iu ds home env e d) (aK ds home (n+1) env e d) (N+q):=by
 by_cases p:(e.kind≠6/\e.kind≠7/\d.gen≠[])\/(e.kind≠1/\e.kind≠2/\e.kind≠8/\d.inst≠[])
 .obtain⟨b,l,g,o,m,v⟩:=l_ (ds:=ds) (home:=home) (n:=n) (env:=env) p;exact⟨b,l,g,o,m,by omega⟩
 .obtain⟨_,hi⟩:=dX p;have hi:=hi (by omega) (by omega) (by omega)
  have B:aK ds home (n+1) env e d=EC (aK ds home n) env (iT env e Z.ty) e i x1 d Z j:=by
   rw[aK,zad p,zad (by omega),zad (by omega),zad (by omega),zad (by omega),zad (by omega),zai f];simp only[jk,nL,y,hy,zbw,zbx,zaW];rfl
  rw[B];obtain⟨b,l,g,o,m,v⟩:=abU y hy hd A z hN u C s;have x:=c177 z.sm (n:=e.name) (c:=⟨0,Z.ty⟩);have w:=c438 (t:=Z.ty);refine⟨b,l,?_,o,m,v⟩;rcases f with f|f
  .simp[mK,iT,f,hi]at g;rw[aC g487];simp[g487,iu,mK,f,hi,g]
  .have e2:iT env e Z.ty=env++[⟨e.name,⟨0,Z.ty⟩⟩]:=(by simp[iT,f]);rw[e2]at g;simp[mK,f,hi,hy]at g;simp[f]at x w;rw[aC g487];simp[g487,iu,mK,f,hi,hy,x,w,g]
def W9{ds:List Dt}{home:Int}{env:List En}(o:env.length<=1000000){e:Ex}{d:Dv}{i:Nat}{a:Ar}(hl:fs.length=a.vars.length)(hf:fs.length<=1000){l:List Rd}:∀(k j:Nat),a.vars.length-j=k->j<=a.vars.length->∀acc:List En,acc.length<=env.length+j->
   cl AP g507L1 ⟨[(1,.pv (.ae (env.map En.pv))),(4,.au 4 0),(7,.au 7 0),(12,.own (l.map Rd.pv) 0),(13,.pv (vI i)),(14,.au 14 0),(15,.pv (.ae (fs.map Ty.pv))),(17,.pv (.ae (acc.map En.pv))),(77,.pv (.ae (e.aF.map Ar.pv))),(78,.pv (vI e.aF.length)),(79,.pv (vI i)),(110,.pv (.ae (a.vars.map .str))),(111,.pv (vI a.vars.length)),(112,.pv (vI j))],[(4,pB ds home),(7,iS d),(14,sW a)],[],[l.length]⟩=
     some (.exit 2,⟨[(1,.pv (.ae (env.map En.pv))),(4,.au 4 0),(7,.au 7 0),(12,.own (l.map Rd.pv) 0),(13,.pv (vI i)),(14,.au 14 0),(15,.pv (.ae (fs.map Ty.pv))),(17,.pv (.ae ((acc++((a.vars.zip fs).drop j).map fun p=>(⟨p.1,⟨0,p.2⟩⟩:En)).map En.pv))),(77,.pv (.ae (e.aF.map Ar.pv))),(78,.pv (vI e.aF.length)),(79,.pv (vI i)),(110,.pv (.ae (a.vars.map .str))),(111,.pv (vI a.vars.length)),(112,.pv (vI a.vars.length)),(113,.pv (.bool false))],[(4,pB ds home),(7,iS d),(14,sW a)],[],[l.length]⟩)
 |0,j,h,hj,acc,m=>by
  have:j=a.vars.length:=by omega
  subst this;have z:(a.vars.zip fs).drop a.vars.length=[]:=za6 (by rw[zde];exact Nat.min_le_left _ _);rw[z,g507L1e];simp[g507B1,pB,iS,sW]
 |k+1,j,h,hj,acc,m=>by
  have hj:j<a.vars.length:=(by omega);obtain⟨v,g⟩:=aR hj;obtain⟨t,ht⟩:=aR (l:=fs) (i:=j) (by omega);have q:j<fs.length:=(by omega);have f:=c438 (t:=t);have k2:=c177 (l:=acc) (by unfold Sm;omega) (n:=v) (c:=⟨0,t⟩);have b:=W9 (ds:=ds) (home:=home) o (e:=e) (d:=d) (i:=i) hl hf (l:=l) k (j+1) (by omega) (by omega) (acc++[⟨v,⟨0,t⟩⟩]) (by simp;omega)
  have z:acc++[(⟨v,⟨0,t⟩⟩:En)]++((a.vars.zip fs).drop (j+1)).map (fun p=>(⟨p.1,⟨0,p.2⟩⟩:En))=acc++((a.vars.zip fs).drop j).map fun p=>(⟨p.1,⟨0,p.2⟩⟩:En):=by
   rw[zA (env:=env) g ht];simp
  rw[z]at b;generalize acc++((a.vars.zip fs).drop j).map (fun p=>(⟨p.1,⟨0,p.2⟩⟩:En))=R at*;rw[g507L1e]at b⊢;simp[pB,iS,sW]at b;simp at f k2;simp(disch:=omega)[-getElem?_pos,g507B1,pB,iS,sW,hj,ht,q,g,f,k2,aq];rw[g507L1e];simp[b]
def sX(ds:List Dt)(home:Int)(env:List En)(e:Ex)(d:Dv)(b:Bool)(l:List Rd)(i:Nat):St:=
 ⟨[(1,.pv (.ae (env.map En.pv))),(4,.au 4 0),(7,.au 7 0),(11,.pv (.bool b)),(12,.own (l.map Rd.pv) 0),(77,.pv (.ae (e.aF.map Ar.pv))),(78,.pv (vI e.aF.length)),(79,.pv (vI i))],[(4,pB ds home),(7,iS d)],[],[l.length]⟩
def acI(ds:List Dt)(home:Int)(env:List En)(e:Ex)(d:Dv)(fit:Option (List Rd))(N:Nat)(r:Option (aX×St)):Prop:=∃(b:Bool)(a:List Rd),
 (r=some (.exit 0,⟨[(1,.pv (.ae (env.map En.pv))),(4,.au 4 0),(7,.au 7 0),(11,.pv (.bool b)),(12,.own (a.map Rd.pv) 0),(77,.pv (.ae (e.aF.map Ar.pv))),(78,.pv (vI e.aF.length)),(79,.pv (vI e.aF.length)),(80,.pv (.bool false))],[(4,pB ds home),(7,iS d)],[],[a.length]⟩)\/
  (b=false/\a=[]/\∃T:aH,r=some (.ret,⟨[(8,.dm []),(9,.pv (.bool false))],[],[],T⟩)))/\
 (∀l,fit=some l->b=true/\a=l)/\(fit=none->b=false)/\a.length<=N
def W_(g:Small U)(f:∀x:Ty,x.Cw->x.Wb)(hd:d.Sd)(h:e.aF.length<=1000){l:List Rd}{a:Ar}(hx:e.aF[N]?=some a):∃T:aH,cl AP g507L0 (sX U home env e d false l N)=some (.ret,⟨[(8,.dm []),(9,.pv (.bool false))],[],[],T⟩):=by
 have hi:=(zaa.1 hx).1;have c:=hd.il;have b:=c206 g (as:=d.inst) (by unfold Sm;omega) f (s:=a.dy);refine⟨[l.length],?_⟩;rw[g507L0e];simp[D5]at b;simp(disch:=omega)[-getElem?_pos,sX,g507B0,pB,iS,sW,hx,hi,b,aq]
theorem Xa{ds:List Dt}(F:Small ds)(E:∀x:Ty,x.Cw->x.Wb){home:Int}{n:Nat}{env:List En}(M:env.length<=1000000){e:Ex}{d:Dv}(hd:d.Sd)(I:∀a∈e.aF,a.vars.length<=1000)(K:e.aF.length<=1000)(V:d.kids.length=e.aF.length+1)
   (hF:∀a∈e.aF,∃fs,fieldsOf ds a.dy d.inst=some fs)
   (N:∀(k:Nat)(a:Ar)(fs:List Ty)(y:Dv),e.aF[k]?=some a->d.kids[k+1]?=some y->fieldsOf ds a.dy d.inst=some fs->fs.length=a.vars.length->Fk 487 (iu ds home (fZ env a.vars fs) a.body y) (aK ds home n (fZ env a.vars fs) a.body y) a.body.sz):
   ∀(k i:Nat),e.aF.length-i=k->i<=e.aF.length->∀(l:List Rd),l.length+cj (e.aF.drop i)<=1000000->
     acI ds home env e d (ic (aK ds home n) ds env d (e.aF.drop i) (i+1) l) (l.length+cj (e.aF.drop i)) (cl AP g507L0 (sX ds home env e d true l i))
 |0,i,C,hi,l,b1=>by
  have:i=e.aF.length:=by omega
  subst this;rw[za9];refine⟨true,l,.inl ?_,?_,?_,by omega⟩
  .rw[g507L0e];simp[sX,g507B0,pB,iS]
  .intro r hr;simp only[ic,zag]at hr;exact⟨rfl,hr⟩
  .intro hr;simp[ic]at hr
 |k+1,i,C,hi,l,b1=>by
  have hi:i<e.aF.length:=(by omega);obtain⟨a,hx⟩:=aR hi;obtain⟨y,hy⟩:=aR (l:=d.kids) (i:=i+1) (by omega);have c:i+1<d.kids.length:=(by omega);have hm:=aM hx;have U:=I a hm;obtain⟨fs,H⟩:=hF a hm;have W:=hd.il;have h:=c206 F (as:=d.inst) (by unfold Sm;omega) E (s:=a.dy);rw[H]at h;have O:=(hd.k y (aM hy)).t.ok;have k2:=c33e (a:=y.ty) (b:=d.ty) O;have B:jk d (i+1)=y:=by simp[jk,hy]
  have X:ic (aK ds home n) ds env d (e.aF.drop i) (i+1) l=if fs.length=a.vars.length/\y.ty=d.ty then
   match aK ds home n (fZ env a.vars fs) a.body y with
   |some m=>ic (aK ds home n) ds env d (e.aF.drop (i+1)) (i+1+1) (l++m)
   |none=>none
    else none:=by
    rw[aZ hx];simp only[ic,H,B]<;>split<;>first|rfl|(cases aK ds home n (fZ env a.vars fs) a.body y<;>rfl)
  rw[X];have J:cj (e.aF.drop i)=a.body.sz+cj (e.aF.drop (i+1)):=by rw[aZ hx];simp[cj]
  by_cases t1:fs.length=a.vars.length
  .have L:=W9 (ds:=ds) (home:=home) M (e:=e) (d:=d) (i:=i) (a:=a) t1 (by omega) (l:=l) _ 0 rfl (by omega) env (by omega);rw[zar]at L;have G:env++(a.vars.zip fs).map (fun p=>(⟨p.1,⟨0,p.2⟩⟩:En))=fZ env a.vars fs:=rfl;rw[G]at L;obtain⟨b,m,p1,p2,p3,p4⟩:=N i a fs y hx hy H t1;generalize hA:fZ env a.vars fs=A at*;have Y:(l.length+m.length)*112<=140737488355328:=by omega
   have key:cl AP g507L0 (sX ds home env e d true l i)=cl AP g507L0 (sX ds home env e d (b && decide (y.ty=d.ty)) (l++m) (i+1)):=by
    generalize o:cl AP g507L0 (sX ds home env e d (b && decide (y.ty=d.ty)) (l++m) (i+1))=RR;generalize decide (y.ty=d.ty)=b2 at*;rw[g507L1e]at L;rw[g507L0e]at o⊢;simp[pB,iS,sW]at L;simp[iu,mK]at p1;simp[sX,pB,iS]at o;simp[D5]at h k2;cases b <;>
    .simp at p1 o;simp(disch:=omega)[-getElem?_pos,sX,g507B0,pB,iS,sW,hx,hi,hy,c,h,k2,t1,aq,g507L1e,L,p1,Y];rw[g507L0e];simp[o]
   rw[key];by_cases D:b=true/\y.ty=d.ty
   .obtain⟨g1,g2⟩:=D;obtain⟨m',j⟩:=Fk.yes (g:=0) (x:=[]) p3 g1;have e0:=(p2 m' j).2;rw[zai ⟨t1,g2⟩,j,<-e0];simp only;have f:(b && decide (y.ty=d.ty))=true:=by simp[g1,g2]
    rw[f];obtain⟨Z,l',S,R,Q,P⟩:=Xa F E M (e:=e) hd I K V hF N k (i+1) (by omega) (by omega) (l++m) (by simp;omega);exact⟨Z,l',S,R,Q,by rw[zat]at P;omega⟩
   .have f:(b && decide (y.ty=d.ty))=false:=by
     cases b with
     |false=>rfl
     |true=>simp only[zbq,zbg];exact fun q=>D ⟨rfl,q⟩
    rw[f]
    have fn:(if fs.length=a.vars.length/\y.ty=d.ty then
     match aK ds home n A a.body y with
     |some m=>ic (aK ds home n) ds env d (e.aF.drop (i+1)) (i+1+1) (l++m)
     |none=>none
      else none)=none:=by
      split
      .rename_i w;cases hf:aK ds home n A a.body y with
       |none=>rfl
       |some m'=>exact absurd ⟨(p2 m' hf).1,w.2⟩ D
      .rfl
    rw[fn];rcases zbL (i+1) e.aF.length with h2|h2
    .obtain⟨a',v⟩:=aR h2;obtain⟨T,w⟩:=W_ F E (home:=home) (env:=env) hd K (l:=l++m) v;exact⟨false,[],.inr ⟨rfl,rfl,T,w⟩,fun _ z=>(by cases z),fun _=>rfl,by simp⟩
    .have h3:i+1=e.aF.length:=(by omega);refine⟨false,l++m,.inl ?_,fun _ z=>(by cases z),fun _=>rfl,by simp;omega⟩;rw[h3,g507L0e];simp[sX,g507B0,pB,iS]
  .rw[zad (fun z=>t1 z.1)];refine⟨false,[],.inr ⟨rfl,rfl,[l.length],?_⟩,fun _ z=>(by cases z),fun _=>rfl,by simp⟩;rw[g507L0e];simp[D5]at h;have u:¬(fs.length:Int)=a.vars.length:=by omega
   simp (disch:=omega) [-getElem?_pos,sX,g507B0,pB,iS,sW,hx,hi,hy,c,h,u,aq]
theorem abV{ds:List Dt}(B:Small ds)(N:∀x:Ty,x.Cw->x.Wb){n F:Nat}{o:Ex}{h:Dv}(X:env.length<=1000000)(A:e.kids=[o])(hd:d.Sd)(c:d.kids[0]?=some h)(R:∀a∈e.aF,a.vars.length<=1000)(M:e.aF.length<=1000)(S:d.kids.length=e.aF.length+1)
     (W:eS ds e.aF=some i0) (hi:ds[i0]?=some D) (hN:F+cj e.aF<=1000000) (h0:e.aF≠[]) (G:Fk 487 (iu ds home env o h) (aK ds home n env o h) F)
   (hF:d.inst.length=D.params.length->∀a∈e.aF,∃fs,fieldsOf ds a.dy d.inst=some fs)
   (Z:d.inst.length=D.params.length->∀(k:Nat)(a:Ar)(fs:List Ty)(y:Dv),e.aF[k]?=some a->d.kids[k+1]?=some y->fieldsOf ds a.dy d.inst=some fs->fs.length=a.vars.length->Fk 487 (iu ds home (fZ env a.vars fs) a.body y) (aK ds home n (fZ env a.vars fs) a.body y) a.body.sz):
   Fk 507 (iu ds home env e d) (xL (aK ds home n) ds D env e o d h) (F+cj e.aF):=by
 have U:=hd.il;have j:=(zaa.1 hi).1;have i:=c407 B.num B.dy (as:=e.aF);have u:=c218 (s:=D.name) (l:=d.inst) (by unfold Sm;omega);have O:=(hd.k h (aM c)).t.ok;have k2:=c33e (a:=h.ty) (b:=⟨4,D.name,0,0,d.inst⟩) O;have m:0<d.kids.length:=by omega
 rw[W]at i;unfold xL;by_cases t1:d.inst.length=D.params.length
 .by_cases f:h.ty=⟨4,D.name,0,0,d.inst⟩
  .rw[zai ⟨t1,f⟩];rw[zaE f]at k2;obtain⟨b,K,w,J,Q,q4⟩:=G;cases b with
   |false=>
    have fn:aK ds home n env o h=none:=by
     cases q:aK ds home n env o h with
     |none=>rfl
     |some l=>have:=(J l q).1;cases this
    rw[fn]
    obtain⟨a,E⟩:∃a,e.aF[0]?=some a:=by
     cases V:e.aF with
     |nil=>exact absurd V h0
     |cons a r=>exact⟨a,rfl⟩
    obtain⟨T,L⟩:=W_ B N (home:=home) (env:=env) hd M (l:=K) E;refine⟨false,[],?_,fun l z=>by(cases z),fun _=>rfl,by simp⟩;rw[g507L0e]at L;simp[iu,mK,f]at w;simp[sX,pB,iS]at L;simp[ja,f]at i u k2;rw[aC g507];simp[-getElem?_pos,g507,iu,mK,iS,A,hi,j,t1,f,c,m,i,u,k2,w,g507L0e,L]
   |true=>
    obtain⟨m0,v⟩:=Fk.yes (g:=0) (x:=[]) Q rfl;have e0:=(J m0 v).2;subst e0;rw[v];simp only;obtain⟨Y,l',p,I,H,P⟩:=Xa B N X (home:=home) (e:=e) hd R M S (hF t1) (Z t1) _ 0 rfl (by omega) K (by rw[zar];omega);rw[zar]at I H P;refine⟨Y,l',?_,I,H,by omega⟩;rw[g507L0e]at p;simp[iu,mK,f]at w;simp[ja,f]at i u k2;rw[aC g507];rcases p with p|⟨rfl,rfl,T,p⟩<;>
    .simp[sX,pB,iS]at p;simp[-getElem?_pos,g507,iu,mK,iS,A,hi,j,t1,f,c,m,i,u,k2,w,g507L0e,p]
  .rw[zad (fun z=>f z.2)];refine⟨false,[],?_,fun l z=>by(cases z),fun _=>rfl,by simp⟩;rw[zaB f]at k2;simp[ja]at i u k2;rw[aC g507];simp[-getElem?_pos,g507,iu,mK,A,hi,j,t1,c,m,i,u,k2]
 .rw[zad (fun z=>t1 z.1)];refine⟨false,[],?_,fun l z=>by(cases z),fun _=>rfl,by simp⟩;have C:¬(d.inst.length:Int)=D.params.length:=by omega
  simp[ja]at i;rw[aC g507];simp[-getElem?_pos,g507,iu,mK,A,hi,j,C,c,m,i]
def fk8{ds:List Dt}(C:Small ds)(A:∀x:Ty,x.Cw->x.Wb){n q:Nat}{g:Ex}{f:Dv}(c:e.kind=8)(B:env.length<=1000000)(s:e.kids=[g])(hd:d.Sd)(h:d.kids[0]?=some f)(v:∀a∈e.aF,a.vars.length<=1000)(z:e.aF.length<=1000)(w:d.kids.length=e.aF.length+1)
     (t:eS ds e.aF=some i0) (hi:ds[i0]?=some D) (hN:q+cj e.aF<=1000000) (h0:e.aF≠[]) (r:Fk 487 (iu ds home env g f) (aK ds home n env g f) q)
   (hF:d.inst.length=D.params.length->∀a∈e.aF,∃fs,fieldsOf ds a.dy d.inst=some fs)
   (F:d.inst.length=D.params.length->∀(k:Nat)(a:Ar)(fs:List Ty)(y:Dv),e.aF[k]?=some a->d.kids[k+1]?=some y->fieldsOf ds a.dy d.inst=some fs->fs.length=a.vars.length->Fk 487 (iu ds home (fZ env a.vars fs) a.body y) (aK ds home n (fZ env a.vars fs) a.body y) a.body.sz):
   Fk 487 (iu ds home env e d) (aK ds home (n+1) env e d) (q+cj e.aF+1):=by
 by_cases p:(e.kind≠6/\e.kind≠7/\d.gen≠[])\/(e.kind≠1/\e.kind≠2/\e.kind≠8/\d.inst≠[])
 .obtain⟨b,l,i,o,m,u⟩:=l_ (ds:=ds) (home:=home) (n:=n) (env:=env) p;exact⟨b,l,i,o,m,by omega⟩
 .obtain⟨j,_⟩:=dX p;have j:=j (by omega) (by omega)
  have E:aK ds home (n+1) env e d=xL (aK ds home n) ds D env e g d f:=by
   rw[aK,zad p];simp[c,jk,nL,s,h,t,hi,xL]<;>split<;>first|rfl|(cases aK ds home n env g f<;>rfl)
  obtain⟨b,l,i,o,m,u⟩:=abV C A B s hd h v z w t hi hN h0 r hF F;rw[E];refine⟨b,l,?_,o,m,by omega⟩;simp[iu,mK,c,j]at i;rw[aC g487];simp[g487,iu,mK,c,j,i]
def ED(h:iI u=true):u.Kn KS:=by
 unfold iI at h;simp only[zaj]at h;obtain⟨a,hf⟩:=h
 revert a hf
 refine Ty.cb (p:=fun u=>dx u=true->pP u=true->u.Kn KS) ?_ u;intro u g a hf;rw[Em]at hf;simp only[zaj,zcc,zbg,zbl,zc8,Bool.not_eq_false]at hf;obtain⟨⟨f1,f2⟩,f3⟩:=hf;rw[gf]at a;by_cases b:u.kind=1\/u.kind=2
 .rw[zai b]at a;simp at a;obtain⟨⟨⟨⟨f,e⟩,_⟩,_⟩,_⟩:=a;refine .bare e (fun _=>?_) (by rw[f];simp);rcases b with b|b
  .rw[b];simp
  .exact absurd b f1
 .rw[zad b]at a;by_cases d:u.kind=3
  .rw[zai d]at a;simp at a;obtain⟨⟨⟨⟨⟨f,e⟩,_⟩,_⟩,_⟩,_⟩:=a;exact .bare e (fun _=>by rw[d];simp) (by rw[f];simp)
  .rw[zad d,zad f2]at a;by_cases c:u.kind=4
   .rw[zai c]at a;simp at a;obtain⟨⟨_,hn⟩,i⟩:=a;refine .mk (fun q=>absurd c q) ?_ (fun x hx=>g x hx (i x hx) (f3 x hx));unfold i7 at hn;split at hn
    .rename_i q;rw[q];simp
    .split at hn
     .rename_i q;rw[q];simp
     .simp only[zaj]at hn;have h1:=hn.1;unfold mr at h1;split at h1
      .cases h1
      .simp only[zaj,zaS]at h1;rename_i q;rw[q];omega
   .rw[zad c]at a;cases a
structure II(t:Ty):Prop where
 ok:t.Ok
 kn:t.Kn KS
 n:t.nodes.length<=50000
def II.r(h:II u):BP u:=⟨h.ok,h.kn.wf,by have:=h.n;omega⟩
def BD(hx:E∈u.args):E.nodes.length<=u.nodes.length:=by
 rw[Ty.aI u,zay,za7];have:=lq (f:=fun y:Ty=>y.nodes.length) hx;omega
def II.df(h:II u)(hx:E∈u.args):II E:=⟨h.ok.df E hx,h.kn.kd E hx,by have:=BD hx;have:=h.n;omega⟩
def xM{b:Ty}(h:lx u=some (E,b)):E∈u.args/\b∈u.args:=by
 unfold lx at h;split at h
 .split at h
  .rename_i x y e;cases h;rw[e];simp
  .cases h
 .cases h
structure Xb(t:Ty):Prop where
 ok:t.Ok
 kn:t.Kn KV
 n:t.nodes.length<=1000000
def II.c(h:II u):Xb u:=⟨h.ok,h.kn.imp pL,by have:=h.n;omega⟩
def Xb.r(h:Xb u):BP u:=⟨h.ok,h.kn.wf,h.n⟩
def II.close(h:II u)(ids:List Int):Xb (cG ids u (vars [u])).ty:=by
 obtain⟨c1,c2,_,d⟩:=lr (ids:=ids) (vars [u]) [] (by simp);refine⟨qo h.ok,?_,?_⟩
 .refine oz (K:=KS) h.kn (by simp only[KS,KV];omega) ?_ (.inl (by simp));intro i z b;obtain⟨a,c,rfl⟩:=eW b;obtain⟨k,_,e⟩:=c1 a c;rw[e];exact .bare rfl (by simp[bm]) (by simp[bm])
 .have:=vk (s:=bJ ids (vars [u]) []) (fun i z b=>by
   obtain⟨a,c,rfl⟩:=eW b;obtain⟨k,_,e⟩:=c1 a c;rw[e,Ty.aI];simp[bm]) u
  have h2:=h.n;exact zaI this (by omega)
def BE{l:List Ty}{b:Nat}(f:1<=b)(hl:∀x∈l,x.nodes.length<=b)(t:Ty):(t.d7 l).nodes.length<=t.nodes.length*b:=by
 refine Ty.cb (p:=fun t=>(t.d7 l).nodes.length<=t.nodes.length*b) ?_ t;intro t d;have a:1<=t.nodes.length:=by rw[Ty.aI];simp
 rw[Ty.gm];cases e:t9 l t with
 |some x=>
  obtain⟨_,_,_,hx⟩:=jb e;have:=hl x (aM hx);rw[zaW];have h2:=zaH b a;omega
 |none=>
  rw[zaT,Ty.aI,Ty.aI t];simp only[zay,za7,zbd]
  have key:∀as:List Ty,(∀x∈as,x∈t.args)->(as.map ((fun y:Ty=>y.nodes.length) ∘ Ty.d7 l)).sum<=(as.map fun y:Ty=>y.nodes.length).sum*b:=by
   intro as;induction as with
   |nil=>intro _;simp
   |cons x r c=>
    intro hx;have h1:=d x (hx x (by simp));have h2:=c fun y hy=>hx y (by simp[hy])
    simp only[zan,zbT,Function.comp];rw[zaG];have h3:(r.map fun y=>(Ty.d7 l y).nodes.length).sum<=(r.map fun y:Ty=>y.nodes.length).sum*b:=h2;omega
  have h1:=key t.args fun _ h=>h;rw[zaG];have h2:(List.map (fun y=>(Ty.d7 l y).nodes.length) t.args).sum<=(t.args.map fun y:Ty=>y.nodes.length).sum*b:=h1
  show (List.map (fun y=>(Ty.d7 l y).nodes.length) t.args).sum+1<=_;omega
def Zk:∀d∈br,∀c∈d.cons,∀x∈c.fields,x.nodes.length<=20:=by decide +kernel
def Zl:∀d∈br,∀a∈br,∀c∈d.cons,∀c'∈a.cons,c.name=c'.name->d.params.length=a.params.length:=by decide +kernel
def RN(u:lX U)(g:∀a∈us,II a)(e:fieldsOf U s us=some fs):fs.length<=8/\∀f∈fs,Xb f:=by
 simp only[fieldsOf,zau]at e;obtain⟨q,_,d,hd,c,i,e⟩:=e;split at e
 .rename_i hl;cases e;have k:=u.all d (aM hd);obtain⟨_,_,h8⟩:=cM d k;obtain⟨r,j⟩:=vm d k;refine⟨by simpa using(h8 c (aM i)).1,?_⟩;intro f hf;simp only[zak]at hf;obtain⟨x,hx,rfl⟩:=hf;have S:=rH rfl r (j c (aM i) x hx);obtain⟨K,r1,_,r3⟩:=S.JF;simp only at r1;have hn:=Zk d k c (aM i) x hx;have o:=Vf (l:=d.params) x;have m:=BE (l:=us) (b:=50000) (by omega) (fun a t=>(g a t).n) (x.iV d.params);have:(x.iV d.params).nodes.length*50000<=20*50000:=zaH _ (by omega);exact⟨ou (fun a h=>(g a h).ok) S.ok,(Bf S.kn (by simp only[KC,KS];omega) (fun a h=>(g a h).kn) (fun y hy p=>by have:=r3 y hy p;omega)).imp pL,by omega⟩
 .cases e
def oH(env:List En):Prop:=∀x∈env,Xb x.sc.ty
def oH.push(h:oH env){c:Sc}(a:Xb c.ty):oH (env++[⟨s,c⟩]):=by
 intro x hx;simp only[zae,zaU]at hx;rcases hx with hx|rfl
 .exact h x hx
 .exact a
def oH.arm(h:oH env){vs:List bF}(hf:∀f∈fs,Xb f):oH (fZ env vs fs):=by
 intro x hx;simp only[fZ,zae,zak]at hx;rcases hx with hx|⟨p,hp,rfl⟩
 .exact h x hx
 .exact hf _ (zcK hp).2
def oH.r(h:oH env)(hl:env.length<=1000):l7 env:=⟨hl,fun x hx=>(h x hx).r⟩
def J_:∀{env:List En}{s:bF},s∈env.map En.name->∃c,jr env s=some c/\∃x∈env,c=x.sc
 |[],s,h=>by simp at h
 |a::r,s,h=>by
  unfold jr;by_cases q:s∈r.map En.name
  .obtain⟨c,h1,x,hx,h2⟩:=J_ q;rw[h1];exact⟨c,rfl,x,by simp[hx],h2⟩
  .have g:a.name=s:=by
    simp only[zan,zah]at h;rcases h with h|h
    .exact h.symm
    .exact absurd h q
   cases hn:jr r s with
   |some c=>
    exact⟨c,rfl,by
     have key:∀{l:List En}{c:Sc},jr l s=some c->∃x∈l,c=x.sc:=by
      intro l;induction l with
      |nil=>intro c h;simp[jr]at h
      |cons b t f=>
       intro c h;unfold jr at h;split at h
       .rename_i c' d;cases h;obtain⟨x,hx,e⟩:=f d;exact⟨x,by simp[hx],e⟩
       .split at h
        .cases h;exact⟨b,by simp,rfl⟩
        .cases h
     obtain⟨x,hx,e⟩:=key hn;exact⟨x,by simp[hx],e⟩⟩
   |none=>
    simp only[g,za4];exact⟨a.sc,rfl,a,by simp,rfl⟩
def Vo(f:lX U)(h:(gP U s 0).isSome=true):∃c,dH U s=some c/\c.ty.Ok/\c.ty.Wb:=by
 obtain⟨q,a⟩:=zct.1 h;obtain⟨_,d,c,hd,b,_⟩:=jE a;simp only[zbA]at hd
 have e:dH U s=some ⟨d.params.length,qw d.params c.fields (nJ d)⟩:=by
  simp only[dH,a,za8,hd,b,zaZ]
 have S:=sQ f.all (s:=s);rw[e]at S;exact⟨_,e,S.ok,S.kn.wb⟩
def J'{p:α->Bool}:∀{l:List α}{k:Nat},bI p l=some k->∃x,l[k]?=some x/\p x=true
 |[],k,h=>by simp[bI]at h
 |a::r,k,h=>by
  simp only[bI]at h;split at h
  .rename_i q;cases h;exact⟨a,rfl,q⟩
  .cases b:bI p r with
   |none=>rw[b]at h;simp at h
   |some j=>
    rw[b]at h;simp at h;subst h;obtain⟨x,h1,h2⟩:=J' b;exact⟨x,by simpa using h1,h2⟩
def RO(k:lX U){as:List Ar}(j:eS U as=some i0)(hi:U[i0]?=some D)(hl:us.length=D.params.length):∀a∈as,∃fs,fieldsOf U a.dy us=some fs:=by
 intro a l
 have g:iA D as=true:=by
  unfold eS at j;obtain⟨d,h1,h2⟩:=J' j;rw[hi]at h1;cases h1;exact h2
 unfold iA at g;simp only[zaS]at g;have hm:a.dy∈D.cons.map ke.name:=by rw[g];exact zak.2 ⟨a,l,rfl⟩
 obtain⟨c,i,hn⟩:=zak.1 hm;obtain⟨q,h⟩:=xp (n:=0) hi i hn;obtain⟨_,d,c',hd,b,e⟩:=jE h;simp only[zbA]at hd;have hp:=Zl d (k.all d (aM hd)) D (k.all D (aM hi)) c' (aM b) c i (by rw[e,hn]);refine⟨c'.fields.map fun f=>(f.iV d.params).d7 us,?_⟩;simp only[fieldsOf,h,za8,hd,b];rw[zai (by omega)]
def RP{b:Bool}(a:oH env)(hl:env.length<=1000)(hd:II d.ty):xF (uA home env e d)/\(⟨uA home env e d,b⟩:Rd).Cl:=
 ⟨⟨zaI (gM env) hl,hd.r,fun x hx=>(a x (cd env x hx)).r⟩,M6 env⟩
inductive Dv.Bd:Dv->Prop
 |mk {d:Dv}:d.ty.nodes.length<=50000->(∀t∈d.inst,t.nodes.length<=50000)->(∀x∈d.kids,x.Bd)->d.Bd
def Dv.Bd.t(h:d.Bd):d.ty.nodes.length<=50000:=by cases h;assumption
def Dv.Bd.i(h:d.Bd):∀t∈d.inst,t.nodes.length<=50000:=by cases h;assumption
def Dv.Bd.k(h:d.Bd):∀x∈d.kids,x.Bd:=by cases h;assumption
def Is.l(h:Is e d):e.ch.length=d.kids.length:=by cases h;assumption
def Is.t(h:Is e d):iI d.ty=true:=by cases h;assumption
def Is.i(h:Is e d):∀t∈d.inst,iI t=true:=by cases h;assumption
def Is.k(h:Is e d){i:Nat}(hx:e.ch[i]?=some x)(hy:d.kids[i]?=some y):Is x y:=by
 cases h with
 |mk _ _ _ h4=>
  have a:(e.ch.zip d.kids)[i]?=some (x,y):=(by rw[zb4];exact⟨hx,hy⟩);exact h4 _ (aM a)
def EE(h:Is e d)(hd:d.Sd)(a:d.Bd):II d.ty/\∀t∈d.inst,II t:=
 ⟨⟨hd.t.ok,ED h.t,a.t⟩,fun t ht=>⟨(hd.i t ht).ok,ED (h.i t ht),a.i t ht⟩⟩
def xN{l:List α}(h:l.length=1):∃a,l=[a]:=by
 match l,h with
 |[a],_=>exact⟨a,rfl⟩
def abW:∀x:Ty,x.Cw->x.Wb:=by
 intro x;refine Ty.cb (p:=fun x=>x.Cw->x.Wb) ?_ x;intro t a h;exact⟨fun q=>h.bare (by omega),fun x hx=>a x hx (h.df x hx)⟩
def oI(fit:Option (List Rd))(N:Nat):Prop:=∀l,fit=some l->l.length<=N/\∀r∈l,xF r.h/\r.Cl
def oI.none:oI none N:=fun _ h=>by cases h
def oI.nil:oI (some []) N:=fun _ h=>by cases h;simp
def oI.up{M:Nat}(h:oI fit N)(hm:N<=M):oI fit M:=fun l e=>⟨zaI (h l e).1 hm,(h l e).2⟩
def oI.app{l m:List Rd}{N M:Nat}(h:oI (some l) N)(k:oI (some m) M):oI (some (l++m)) (N+M):=by
 intro q e;cases e;obtain⟨c,b⟩:=h l rfl;obtain⟨b1,a⟩:=k m rfl;refine⟨by simp;omega,fun r hr=>?_⟩;rcases zae.1 hr with hr|hr
 .exact b r hr
 .exact a r hr
def oI.one{r:Rd}(h:xF r.h/\r.Cl)(hN:1<=N):oI (some [r]) N:=by
 intro q e;cases e;exact⟨by simpa using hN,fun x hx=>by simp at hx;subst hx;exact h⟩
section
variable {ds:List Dt} {home:Int} {n:Nat} {env:List En} {e:Ex} {d:Dv}
variable{N:Nat}{x:Ex}{y Z:Dv}
def oJ(a:(e.kind≠6/\e.kind≠7/\d.gen≠[])\/(e.kind≠1/\e.kind≠2/\e.kind≠8/\d.inst≠[])):oI (aK ds home (n+1) env e d) N:=by rw[xK a];exact .none
def BF(a:e.kind=1\/e.kind=2\/e.kind=3):oI (aK ds home (n+1) env e d) N:=by
 by_cases b:(e.kind≠6/\e.kind≠7/\d.gen≠[])\/(e.kind≠1/\e.kind≠2/\e.kind≠8/\d.inst≠[])
 .exact oJ b
 .rw[aK,zad b];rcases a with a|a|a
  .rw[zai a];split
   .split
    .exact .nil
    .exact .none
   .exact .none
  .rw[zad (by omega),zai a];split
   .split
    .exact .nil
    .exact .none
   .exact .none
  .rw[zad (by omega),zad (by omega),zai a];split
   .exact .nil
   .exact .none
def acJ(b:e.kind=10)(hN:1<=N)(c:oH env)(hl:env.length<=1000)(hd:II d.ty):oI (aK ds home (n+1) env e d) N:=by
 by_cases a:(e.kind≠6/\e.kind≠7/\d.gen≠[])\/(e.kind≠1/\e.kind≠2/\e.kind≠8/\d.inst≠[])
 .exact oJ a
 .rw[aK,zad a];simp only[b];exact .one (RP c hl hd) hN
def hr4(f:e.kind=4)(g:e.kids=[x])(hy:d.kids=[y])(j:∀a b,lx d.ty=some (a,b)->oI (aK ds home n (env++[⟨e.name,⟨0,a⟩⟩]) x y) N):oI (aK ds home (n+1) env e d) N:=by
 by_cases c:(e.kind≠6/\e.kind≠7/\d.gen≠[])\/(e.kind≠1/\e.kind≠2/\e.kind≠8/\d.inst≠[])
 .exact oJ c
 .have i:aK ds home (n+1) env e d=match lx d.ty with
   |some (a,b)=>if b=y.ty then aK ds home n (env++[⟨e.name,⟨0,a⟩⟩]) x y else none
   |none=>none:=by
   rw[aK,zad c];simp[f,jk,nL,g,hy]<;>cases lx d.ty<;>rfl
  rw[i];cases h:lx d.ty with
  |none=>exact .none
  |some p=>
   obtain⟨a,b⟩:=p;simp only;split
   .exact j a b h
   .exact .none
def hr9(b:e.kind=9)(c:e.kids=[x])(hy:d.kids=[y])(g:oI (aK ds home n env x y) N):oI (aK ds home (n+1) env e d) N:=by
 by_cases a:(e.kind≠6/\e.kind≠7/\d.gen≠[])\/(e.kind≠1/\e.kind≠2/\e.kind≠8/\d.inst≠[])
 .exact oJ a
 .have f:aK ds home (n+1) env e d=if d.ty=e.ty/\d.ty=y.ty then aK ds home n env x y else none:=by
   rw[aK,zad a];simp[b,jk,nL,c,hy]
  rw[f];split
  .exact g
  .exact .none
def acK(b:e.kind=11)(c:e.kids=[x])(hy:d.kids=[y])(f:oH env)(hl:env.length<=1000)(hd:II d.ty)(IH:oI (aK ds home n env x y) N):oI (aK ds home (n+1) env e d) (N+1):=by
 by_cases a:(e.kind≠6/\e.kind≠7/\d.gen≠[])\/(e.kind≠1/\e.kind≠2/\e.kind≠8/\d.inst≠[])
 .exact oJ a
 .have g:aK ds home (n+1) env e d=if d.ty=y.ty then(match aK ds home n env x y with|some l=>some (l++[⟨uA home env e d,true⟩])|none=>none)else none:=by
   rw[aK,zad a];simp[b,jk,nL,c,hy]<;>cases aK ds home n env x y<;>rfl
  rw[g];split
  .cases hf:aK ds home n env x y with
   |none=>exact .none
   |some l=>rw[hf]at IH;exact IH.app (.one (RP f hl hd) (zal 1))
  .exact .none
def hr5{h:Nat}{x1:Ex}(j:e.kind=5)(k:e.kids=[x,x1])(hy:d.kids=[y,Z])(IH0:oI (aK ds home n env x y) N)(f:oI (aK ds home n env x1 Z) h):oI (aK ds home (n+1) env e d) (N+h):=by
 by_cases g:(e.kind≠6/\e.kind≠7/\d.gen≠[])\/(e.kind≠1/\e.kind≠2/\e.kind≠8/\d.inst≠[])
 .exact oJ g
 .have o:aK ds home (n+1) env e d=if y.ty=eh Z.ty d.ty then(match aK ds home n env x y with|some l=>(match aK ds home n env x1 Z with|some m=>some (l++m)|none=>none)|none=>none)else none:=by
   rw[aK,zad g];simp[j,jk,nL,k,hy]<;>cases aK ds home n env x y<;>first|rfl|(cases aK ds home n env x1 Z<;>rfl)
  rw[o];split
  .cases h0:aK ds home n env x y with
   |none=>exact .none
   |some l=>
    cases h1:aK ds home n env x1 Z with
    |none=>exact .none
    |some m=>rw[h0]at IH0;rw[h1]at f;exact IH0.app f
  .exact .none
def acL{h:Nat}{x1:Ex}(j:e.kind=6\/e.kind=7)(k:e.kids=[x,x1])(hy:d.kids=[y,Z])(IH0:oI (aK ds home n (iT env e y.ty) x y) N)(b:oI (aK ds home n (l9 env e d y.ty) x1 Z) h):oI (aK ds home (n+1) env e d) (N+h):=by
 by_cases g:(e.kind≠6/\e.kind≠7/\d.gen≠[])\/(e.kind≠1/\e.kind≠2/\e.kind≠8/\d.inst≠[])
 .exact oJ g
 .have o:aK ds home (n+1) env e d=EC (aK ds home n) env (iT env e y.ty) e x x1 d y Z:=by
   rw[aK,zad g,zad (by omega),zad (by omega),zad (by omega),zad (by omega),zad (by omega),zai j];simp only[jk,nL,k,hy,zbw,zbx,zaW];rfl
  rw[o];unfold EC;cases h0:aK ds home n (iT env e y.ty) x y with
  |none=>exact .none
  |some l=>
   simp only;split
   .cases h1:aK ds home n (l9 env e d y.ty) x1 Z with
    |none=>exact .none
    |some m=>rw[h0]at IH0;rw[h1]at b;exact IH0.app b
   .exact .none
def Ka(g:∀(k:Nat)(a:Ar)(fs:List Ty)(y:Dv),e.aF[k]?=some a->d.kids[k+1]?=some y->fieldsOf ds a.dy d.inst=some fs->fs.length=a.vars.length->oI (aK ds home n (fZ env a.vars fs) a.body y) a.body.sz)(j:d.kids.length=e.aF.length+1):
   ∀(k i:Nat),e.aF.length-i=k->i<=e.aF.length->∀(l:List Rd)(N:Nat),oI (some l) N->oI (ic (aK ds home n) ds env d (e.aF.drop i) (i+1) l) (N+cj (e.aF.drop i))
 |0,i,f,hi,l,N,h=>by
  have:i=e.aF.length:=by omega
  subst this;rw[za9];simp only[ic];exact h.up (by omega)
 |k+1,i,f,hi,l,N,h=>by
  have hi:i<e.aF.length:=(by omega);obtain⟨a,hx⟩:=aR hi;obtain⟨y,hy⟩:=aR (l:=d.kids) (i:=i+1) (by omega);have c:jk d (i+1)=y:=(by simp[jk,hy]);have b:cj (e.aF.drop i)=a.body.sz+cj (e.aF.drop (i+1)):=(by rw[aZ hx];simp[cj]);rw[b,aZ hx];simp only[ic,c];cases hf:fieldsOf ds a.dy d.inst with
  |none=>exact .none
  |some fs=>
   simp only;split
   .rename_i w;have q:=g i a fs y hx hy hf w.1;cases h0:aK ds home n (fZ env a.vars fs) a.body y with
    |none=>exact .none
    |some m=>
     rw[h0]at q;have:=Ka g j k (i+1) (by omega) (by omega) (l++m) (N+a.body.sz) (h.app q);exact this.up (by omega)
   .exact .none
def hr8(h:e.kind=8)(o:e.kids=[x])(g:d.kids[0]?=some Z)(m:d.kids.length=e.aF.length+1){i0:Nat}{D:Dt}(p:eS ds e.aF=some i0)(hi:ds[i0]?=some D)(f:oI (aK ds home n env x Z) N)
   (r:d.inst.length=D.params.length->∀(k:Nat)(a:Ar)(fs:List Ty)(y:Dv),e.aF[k]?=some a->d.kids[k+1]?=some y->fieldsOf ds a.dy d.inst=some fs->fs.length=a.vars.length->oI (aK ds home n (fZ env a.vars fs) a.body y) a.body.sz):oI (aK ds home (n+1) env e d) (N+cj e.aF):=by
 by_cases j:(e.kind≠6/\e.kind≠7/\d.gen≠[])\/(e.kind≠1/\e.kind≠2/\e.kind≠8/\d.inst≠[])
 .exact oJ j
 .have q:aK ds home (n+1) env e d=xL (aK ds home n) ds D env e x d Z:=by
   rw[aK,zad j];simp[h,jk,nL,o,g,p,hi,xL]<;>split<;>first|rfl|(cases aK ds home n env x Z<;>rfl)
  rw[q];unfold xL;split
  .rename_i w;cases h0:aK ds home n env x Z with
   |none=>exact .none
   |some l=>
    rw[h0]at f;have:=Ka (r w.1) m _ 0 rfl (by omega) l N f
    rwa [zar]at this
  .exact .none
end
variable{U:List Dt}{K:bF->Prop}{e x:Ex}{B N M kd n' I n0 tm:Nat}{home w:Int}{fit:Option (List Rd)}{env:List En}{d:Dv}{s:bF}{nm:Bool}{R:Int->Ty}{G:List Sl}{Q P:Ty->Prop}{u:Ty}{m:Mc}{v V g L:List Int}{σ:List As}{W:Int->Prop}{O:List ((Int->Prop)×List Int)}{TP:Int->Sh}{lv:List Ty}
def oF.mono(h:oF U K e):∀{K':bF->Prop},(∀s,K s->K' s)->oF U K' e:=by
 induction h with
 |var h1 h2=>exact fun q=>.var h1 (q _ h2)
 |dy h1 h2=>exact fun _=>.dy h1 h2
 |Nc h1 h2 h3 _ a=>exact fun q=>.Nc h1 h2 h3 fun i x hx=>a i x hx fun s hs=>hs.imp (q s) id
def Fk.up{as:List PV}(h:Fk B as fit N)(hm:N<=M):Fk B as fit M:=by
 obtain⟨b,l,d,c,a,e⟩:=h;exact⟨b,l,d,c,a,by omega⟩
def lX.dtd(h:lX U):DtD U:=⟨h.small.num,h.small.dy,h.small.par,h.small.Wo⟩
structure FA(ds:List Dt)(home:Int)(n:Nat)(env:List En)(e:Ex)(d:Dv)(N:Nat):Prop where
 f:Fk 487 (iu ds home env e d) (aK ds home n env e d) N
 h:oI (aK ds home n env e d) N
def FA.up(h:FA U home B env e d N)(hm:N<=M):FA U home B env e d M:=⟨h.f.up hm,h.h.up hm⟩
structure FQ(ds:List Dt)(n:Nat)(env:List En)(e:Ex)(d:Dv):Prop where
 ok:e.Ok
 hl:e.BN n
 fr:Is e d
 sd:d.Sd
 bd:d.Bd
 kn:oF ds (·∈env.map En.name) e
 en:oH env
 le:env.length+10*n<=1000
 sz:e.sz<=1000
def Zm(h:oF U K e)(h1:e.kind≠1)(h2:e.kind≠2)(hx:e.ch[N]?=some x):oF U (fun s=>K s\/s∈bX e N) x:=by
 cases h with
 |var q=>exact absurd q h1
 |dy q=>exact absurd q h2
 |Nc _ _ _ h4=>exact h4 N x hx
def FQ.df{env':List En}{y:Dv}(h:FQ U (N+1) env e d)(h1:e.kind≠1)(h2:e.kind≠2)(hx:e.ch[B]?=some x)(hy:d.kids[B]?=some y)(hs:∀s,s∈env.map En.name\/s∈bX e B->s∈env'.map En.name)(a:oH env')(hl:env'.length<=env.length+10):FQ U N env' x y where
 ok:=h.ok.c x (aM hx)
 hl:=h.hl.c x (aM hx)
 fr:=h.fr.k hx hy
 sd:=h.sd.k y (aM hy)
 bd:=h.bd.k y (aM hy)
 kn:=(Zm h.kn h1 h2 hx).mono hs
 en:=a
 le:=by have:=h.le;omega
 sz:=by have:=h.sz;have:=Ex.QR (aM hx);omega
def FQ.e1(h:FQ U N env e d):l7 env:=h.en.r (by have:=h.le;omega)
def EF{α:Type}{l:List α}(h:l.length=2):∃a b,l=[a,b]:=by
 match l,h with
 |[a,b],_=>exact⟨a,b,rfl⟩
def EG{ds:List Dt}(J:lX ds)(tx:rR e):∀{n:Nat}{env:List En}{d:Dv},FQ ds n env e d->FA ds home n env e d e.sz:=by
 induction tx with
 | @leaf e g h1 h2=>
  intro n env d Q;obtain⟨n,rfl⟩:∃m,n=m+1:=by cases n with|zero=>cases Q.hl|succ m=>exact⟨m,rfl⟩
  have hp:=Ex.lY e;obtain⟨H,Y⟩:=EE Q.fr Q.sd Q.bd;have C:=Q.e1;have W:∀a∈d.inst,a.Ok:=fun a ha=>(Y a ha).ok
  rcases g with⟨g|g,_⟩|⟨g,_⟩|⟨g,_⟩
  .have hK:=(J6 g).1 Q.kn;obtain⟨c,S,x,hx,ex⟩:=J_ hK;have L:=Q.en x hx;rw[<-ex]at L;exact FA.up ⟨fk1 g C.sm Q.sd S L.ok L.kn.wb (ou W L.ok),BF (.inl g)⟩ hp
  .have hK:=(J7 g).1 Q.kn;obtain⟨c,S,X,cW⟩:=Vo J hK;exact FA.up ⟨fk2 J.dtd g Q.sd S X cW (ou W X),BF (.inr (.inl g))⟩ hp
  .exact FA.up ⟨fk3 g Q.sd,BF (.inr (.inr g))⟩ hp
  .exact FA.up ⟨acF g C.sm,acJ g (zal 1) Q.en C.1 H⟩ hp
 | @lam e a g _ h1 h2 _ R=>
  intro n env d Q;obtain⟨n,rfl⟩:∃m,n=m+1:=by cases n with|zero=>cases Q.hl|succ m=>exact⟨m,rfl⟩
  obtain⟨H,_⟩:=EE Q.fr Q.sd Q.bd;have C:=Q.e1;have el:=Q.fr.l;rw[Ex.i_,h1,h2]at el;obtain⟨y,hy⟩:=xN el.symm;have hm:e.ch[0]?=some a:=by rw[Ex.ch,h1];rfl
  have hs:=ZZ h1 h2;have T:=Q.sz;have j:=Ex.lY a
  have IH:∀u v,lx d.ty=some (u,v)->FA ds home n (env++[⟨e.name,⟨0,u⟩⟩]) a y a.sz:=by
   intro u v w;have tu:=H.df (xM w).1;refine R (Q.df (by omega) (by omega) hm (by rw[hy];rfl) ?_ (Q.en.push tu.c) (by simp));intro s hs;have hb:bX e 0=[e.name]:=by simp[bX,g]
   rw[hb]at hs;simpa using hs
  exact FA.up ⟨fk4 g h1 hy C.sm (by omega) (by omega) fun u v w=>⟨(H.df (xM w).2).ok,(IH u v w).f⟩,hr4 g h1 hy fun u v w=>(IH u v w).h⟩ (by omega)
 | @app e a b g h1 h2 _ _ G F=>
  intro n env d Q;obtain⟨n,rfl⟩:∃m,n=m+1:=by cases n with|zero=>cases Q.hl|succ m=>exact⟨m,rfl⟩
  have el:=Q.fr.l;rw[Ex.i_,h1,h2]at el;obtain⟨y,z,hy⟩:=EF el.symm;have hs:=ch2 h1 h2;have T:=Q.sz;have j:=Ex.lY a;have hm:e.ch[0]?=some a:=(by rw[Ex.ch,h1];rfl);have K:e.ch[1]?=some b:=(by rw[Ex.ch,h1];rfl);have b0:∀i,bX e i=[]:=fun i=>by simp[bX,g]
  have E:=Q.df (env':=env) (y:=y) (by omega) (by omega) hm (by rw[hy];rfl) (by intro s hs;rw[b0]at hs;simpa using hs) Q.en (by omega);have A:=G E;have B:=F (Q.df (env':=env) (y:=z) (by omega) (by omega) K (by rw[hy];rfl) (by intro s hs;rw[b0]at hs;simpa using hs) Q.en (by omega));exact FA.up ⟨fk5 g h1 hy E.sd.t.ok (by omega) j A.f B.f,hr5 g h1 hy A.h B.h⟩ (by omega)
 | @Ip e a b g _ h1 h2 _ _ G F=>
  intro n env d Q;obtain⟨n,rfl⟩:∃m,n=m+1:=by cases n with|zero=>cases Q.hl|succ m=>exact⟨m,rfl⟩
  have el:=Q.fr.l;rw[Ex.i_,h1,h2]at el;obtain⟨y,z,hy⟩:=EF el.symm;have hs:=ch2 h1 h2;have T:=Q.sz;have j:=Ex.lY a;have hm:e.ch[0]?=some a:=(by rw[Ex.ch,h1];rfl);have K:e.ch[1]?=some b:=(by rw[Ex.ch,h1];rfl);have o:d.kids[0]?=some y:=(by rw[hy];rfl);have Z:d.kids[1]?=some z:=(by rw[hy];rfl);have V:=(EE (Q.fr.k hm o) (Q.sd.k y (aM o)) (Q.bd.k y (aM o))).1
  have E:FQ ds n (iT env e y.ty) a y:=by
   refine Q.df (by omega) (by omega) hm o ?_ ?_ ?_
   .intro s hs;unfold bX at hs;unfold iT;rcases g with g|g<;>simp[g]at hs⊢<;>simpa using hs
   .unfold iT;split
    .exact Q.en.push V.c
    .exact Q.en
   .unfold iT;split<;>simp
  have A:=G E
  have B:FA ds home n (l9 env e d y.ty) b z b.sz:=by
   refine F (Q.df (by omega) (by omega) K Z ?_ ?_ ?_)
   .intro s hs;unfold bX at hs;unfold l9;rcases g with g|g<;>simp[g]at hs⊢<;>simpa using hs
   .exact Q.en.push (V.close d.gen)
   .simp[l9]
  have HR:∀l,aK ds home n (iT env e y.ty) a y=some l->l.length<=1000/\∀r∈l,xF r.h/\r.Cl:=fun l hl=>⟨by have:=(A.h l hl).1;omega,(A.h l hl).2⟩;exact FA.up ⟨acH g h1 hy Q.sd V.r Q.e1 (by omega) j A.f HR B.f,acL g h1 hy A.h B.h⟩ (by omega)
 | @xq e a g h1 _ ZS a2 _ G F=>
  intro n env d Q;obtain⟨n,rfl⟩:∃m,n=m+1:=by cases n with|zero=>cases Q.hl|succ m=>exact⟨m,rfl⟩
  obtain⟨H,Y⟩:=EE Q.fr Q.sd Q.bd;have el:=Q.fr.l;rw[Ex.i_,h1]at el;simp only[zbm]at el;have hs:=J3 h1;have T:=Q.sz;have j:=Ex.lY a;have hm:e.ch[0]?=some a:=by rw[Ex.ch,h1];rfl
  obtain⟨y,o⟩:=aR (l:=d.kids) (i:=0) (by omega);have a3:=((J8 (by omega) (by omega)).1 Q.kn).1 g;obtain⟨i0,U⟩:=zct.1 a3;obtain⟨D,hi,I⟩:=DY U
  have a1:e.aF≠[]:=by
   have:=(YF D (J.all D (aM hi))).2.1;intro q;rw[q]at I;simp at I;omega
  have E:=Q.df (env':=env) (y:=y) (by omega) (by omega) hm o (by intro s hs;simp[bX,g]at hs;simpa using hs) Q.en (by omega);have A:=G E;have hF:d.inst.length=D.params.length->∀x∈e.aF,∃fs,fieldsOf ds x.dy d.inst=some fs:=fun hl=>RO J U hi hl
  have B:d.inst.length=D.params.length->∀(k:Nat)(x:Ar)(fs:List Ty)(z:Dv),e.aF[k]?=some x->d.kids[k+1]?=some z->fieldsOf ds x.dy d.inst=some fs->fs.length=x.vars.length->FA ds home n (fZ env x.vars fs) x.body z x.body.sz:=by
   intro hl k x fs z hx hz NB a4;obtain⟨_,fC⟩:=RN J Y NB
   have a0:e.ch[k+1]?=some x.body:=by
    rw[Ex.ch,h1];simp[hx]
   refine F x (aM hx) (Q.df (by omega) (by omega) a0 hz ?_ (Q.en.arm fC) ?_)
   .intro s hs;have hb:bX e (k+1)=x.vars:=by simp[bX,g,hx]
    rw[hb]at hs;unfold fZ;rw[za3,zae,zbd];rcases hs with hs|hs
    .exact .inl hs
    .refine .inr ?_
     have ez:(x.vars.zip fs).map (En.name ∘ fun p=>(⟨p.1,⟨0,p.2⟩⟩:En))=x.vars:=by
      have:(En.name ∘ fun p:bF×Ty=>(⟨p.1,⟨0,p.2⟩⟩:En))=Prod.fst:=rfl;rw[this,List.map_fst_zip (by omega)]
     rw[ez];exact hs
   .have:=(a2 x (aM hx)).2.1;simp[fZ];omega
  exact FA.up ⟨fk8 J.small abW g (by have:=Q.e1.1;omega) h1 Q.sd o Q.ok.v Q.ok.a (by omega) U hi (by omega) a1 A.f hF fun hl k x fs z P O N M=>(B hl k x fs z P O N M).f,
    (hr8 g h1 o (by omega) U hi A.h fun hl k x fs z P O N M=>(B hl k x fs z P O N M).h).up (by omega)⟩ (by omega)
 | @YP e a g h1 h2 _ _ _ R=>
  intro n env d Q;obtain⟨n,rfl⟩:∃m,n=m+1:=by cases n with|zero=>cases Q.hl|succ m=>exact⟨m,rfl⟩
  have el:=Q.fr.l;rw[Ex.i_,h1,h2]at el;obtain⟨y,hy⟩:=xN el.symm;have hm:e.ch[0]?=some a:=(by rw[Ex.ch,h1];rfl);have hs:=ZZ h1 h2;have T:=Q.sz;have j:=Ex.lY a;have E:=Q.df (env':=env) (y:=y) (by omega) (by omega) hm (by rw[hy];rfl) (by intro s hs;simp[bX,g]at hs;simpa using hs) Q.en (by omega);have A:=R E;exact FA.up ⟨fk9 g h1 hy Q.sd E.sd.t.ok (by omega) j A.f,hr9 g h1 hy A.h⟩ (by omega)
 | @held e a g h1 h2 _ R=>
  intro n env d Q;obtain⟨n,rfl⟩:∃m,n=m+1:=by cases n with|zero=>cases Q.hl|succ m=>exact⟨m,rfl⟩
  obtain⟨H,_⟩:=EE Q.fr Q.sd Q.bd;have C:=Q.e1;have el:=Q.fr.l;rw[Ex.i_,h1,h2]at el;obtain⟨y,hy⟩:=xN el.symm;have hm:e.ch[0]?=some a:=by rw[Ex.ch,h1];rfl
  have hs:=ZZ h1 h2;have T:=Q.sz;have E:=Q.df (env':=env) (y:=y) (by omega) (by omega) hm (by rw[hy];rfl) (by intro s hs;simp[bX,g]at hs;simpa using hs) Q.en (by omega);have A:=R E;exact FA.up ⟨acG g h1 hy Q.sd C.sm (by omega) A.f,acK g h1 hy Q.en C.1 H A.h⟩ (by omega)
def c495(h:qE s):(aE AP).p 495 [.str s]=some [.bool (Ux s)]:=by
 have c:=c29 (t:=⟨4,s,0,0,[]⟩) (.mk (by unfold Sm;simp) (by simp)) (.mk h (by simp));rw[aB g495];simp at c;simp[g495,c,Ux]
def c496(h:qE s):(aE AP).p 496 [.str s]=some [.bool (Iq s)]:=by
 have c:=c29 (t:=⟨5,s,0,0,[]⟩) (.mk (by unfold Sm;simp) (by simp)) (.mk h (by simp));rw[aB g496];simp at c;simp[g496,c,Iq]
def c497(t:Ty):t.Ok->(aE AP).p 497 [t.pv]=some [.bool t.wr]:=by
 refine Ty.cb (p:=fun t=>t.Ok->(aE AP).p 497 [t.pv]=some [.bool t.wr]) ?_ t;intro t d c
 have f:HZ (.fn 515 []) [] Ty.pv (fun x=>!x.wr) t.args:=by
  intro x hx;have k:=d x hx (c.df x hx)
  have:(aE AP).i 515 [.pv x.pv] [] []=some ([.pv (.bool (!x.wr))],[],[]):=by
   rw[aC g515];simp at k;simp[g515,k]
  simp at this;simp[this]
 have a:=TX mo (m:=75) (k:=107) rfl rfl c.sm (sh:=[]) (by intro cs h;simp at h) rfl rfl (fun _ _=>rfl) f;have e:(!(t.args.any fun x=>!x.wr))=t.args.all Ty.wr:=uT;rw[Ty.WI,<-e];rw[aB g497];generalize t.args.any (fun x=>!x.wr)=b at*
 try simp at a
 by_cases h4:t.kind=4
 .simp[g497,h4,a]
 .by_cases h5:t.kind=5
  .simp[g497,h5,a]
  .simp[g497,h4,h5]
structure NmA(a:Ar):Prop where
 c:qE a.dy
 l:a.vars.length<=1000
 v:∀s∈a.vars,qE s
def Zn{s:List bF}(h:∀x∈s,qE x):HZ (.fn 499 []) [] PV.str (fun x=>!Iq x) s:=by
 intro x hx;have k:=c496 (h x hx)
 have:(aE AP).i 499 [.pv (.str x)] [] []=some ([.pv (.bool (!Iq x))],[],[]):=by
  rw[aC g499];simp[g499,k]
 simp[this]
def abX(hN:e.aF.length<=1000)(hn:∀a∈e.aF,NmA a):∀(n i:Nat),e.aF.length-i=n->i<=e.aF.length->∃v:Int,
   cl AP g483L0 ⟨[(1,.au 1 0),(127,.pv (.ae (e.aF.map Ar.pv))),(128,.pv (vI e.aF.length)),(129,.pv (vI i))],[(1,e.cl)],[],[]⟩=
     some (if(e.aF.drop i).all WJ then(.exit 2,⟨[(1,.au 1 0),(127,.pv (.ae (e.aF.map Ar.pv))),(128,.pv (vI e.aF.length)),(129,.pv (vI e.aF.length)),(130,.pv (.bool false))],[(1,e.cl)],[],[]⟩)
       else (.ret,⟨[(2,.pv (.bool false))],[],[],[]⟩))
 |0,i,r,hi=>by
  have:i=e.aF.length:=by omega
  subst this;refine⟨0,?_⟩;rw[za9,g483L0e];simp[g483B0]
 |n+1,i,r,hi=>by
  have hi:i<e.aF.length:=(by omega);obtain⟨x,hx⟩:=aR hi;obtain⟨p,t,o⟩:=hn x (aM hx);obtain⟨_,l⟩:=abX hN hn n (i+1) (by omega) (by omega);refine⟨0,?_⟩;have f:=c495 p;have j:=TX HY (m:=498) (k:=421) rfl rfl (s:=x.vars) (by unfold Sm;omega) (sh:=[]) (by intro cs h;simp at h) rfl rfl (fun _ _=>rfl) (Zn o);have e1:(!(x.vars.any fun x=>!Iq x))=x.vars.all Iq:=uT;rw[aZ hx,za1];have q:WJ x=(!decide (x.pos<0) && (Ux x.dy && (!decide (4<x.vars.length) && !(x.vars.any fun x=>!Iq x)))):=(by rw[e1];rfl);rw[q];generalize x.vars.any (fun x=>!Iq x)=b at*;generalize Ux x.dy=u at*;rw[g483L0e]at l⊢;simp at j l;by_cases d:x.pos<0
  .simp(disch:=omega)[-getElem?_pos,g483B0,hx,hi,d]
  .cases u with
   |false=>simp(disch:=omega)[-getElem?_pos,g483B0,hx,hi,d,f]
   |true=>
    by_cases g:4<x.vars.length
    .have c:4<(x.vars.length:Int):=(by omega);simp(disch:=omega)[-getElem?_pos,g483B0,hx,hi,d,f,g,c]
    .have c:¬4<(x.vars.length:Int):=(by omega);cases b with
     |true=>simp(disch:=omega)[-getElem?_pos,g483B0,hx,hi,d,f,g,c,j]
     |false=>
      simp (disch:=omega) [-getElem?_pos,g483B0,hx,hi,d,f,g,c,j,aq];rw[g483L0e];simp[l]
def cS:ah->ah
 | .seq a _=>a
 |c=>c
def cH:ah->ah
 | .seq _ b=>b
 |c=>c
def rO:ah:=cS (cH (cH g483.body))
def eU:ah:=cS (cH (cH (cH g483.body)))
def Zo:ah:=cH (cH (cH (cH g483.body)))
def Vq:∃X:List (Nat×AV),(X=[]\/∃g d,X=[(8,g),(12,d)])/\cl AP rO ⟨[(1,.au 1 0),(3,.pv (.bool false)),(4,.pv (vI 0))],[(1,e.cl)],[],[]⟩=
   some (match de e.kind with
    |some (nm,kd)=>(.normal,⟨(1,.au 1 0)::(3,.pv (.bool nm))::(4,.pv (vI kd))::X,[(1,e.cl)],[],[]⟩)
    |none=>(.ret,⟨[(2,.pv (.bool false))],[],[],[]⟩)):=by
 generalize a:e.kind=k;by_cases h3:k=3
 .subst h3;exact⟨[(8,.pv (vI 3)),(12,.pv (.bool true))],Or.inr ⟨_,_,rfl⟩,by simp[rO,cS,cH,g483,a,de]⟩
 by_cases c:k=10
 .subst c;exact⟨[(8,.pv (vI 10)),(12,.pv (.bool true))],Or.inr ⟨_,_,rfl⟩,by simp[rO,cS,cH,g483,a,de]⟩
 refine⟨[],Or.inl rfl,?_⟩;by_cases h1:k=1
 .subst h1;simp[rO,cS,cH,g483,a,de]
 by_cases h2:k=2
 .subst h2;simp[rO,cS,cH,g483,a,de]
 by_cases h4:k=4
 .subst h4;simp[rO,cS,cH,g483,a,de]
 by_cases h5:k=5
 .subst h5;simp[rO,cS,cH,g483,a,de]
 by_cases h6:k=6
 .subst h6;simp[rO,cS,cH,g483,a,de]
 by_cases h7:k=7
 .subst h7;simp[rO,cS,cH,g483,a,de]
 by_cases h8:k=8
 .subst h8;simp[rO,cS,cH,g483,a,de]
 by_cases f:k=9
 .subst f;simp[rO,cS,cH,g483,a,de]
 by_cases b:k=11
 .subst b;simp[rO,cS,cH,g483,a,de]
 simp[rO,cS,cH,g483,a,de,h1,h2,h3,h4,h5,h6,h7,h8,f,c,b]
inductive Ex.ET:Ex->Prop
 |mk {e:Ex}:qE e.name->e.ty.Nm->(∀a∈e.aF,NmA a)->(∀x∈e.ch,x.ET)->e.ET
def Ex.ET.n(h:e.ET):qE e.name:=by cases h;assumption
def Ex.ET.t(h:e.ET):e.ty.Nm:=by cases h;assumption
def Ex.ET.a(h:e.ET):∀a∈e.aF,NmA a:=by cases h;assumption
def Ex.ET.c(h:e.ET):∀x∈e.ch,x.ET:=by cases h;assumption
def Vr(A:e.Ok)(hn:e.ET)(C:kd<=2){X:List (Nat×AV)}(D:X=[]\/∃B x,X=[(8,B),(12,x)]):cl AP eU ⟨(1,.au 1 0)::(3,.pv (.bool nm))::(4,.pv (vI kd))::X,[(1,e.cl)],[],[]⟩=
   some (if e.Bn nm kd=true then(.normal,⟨[(1,.au 1 0),(115,.pv (.bool false))],[(1,e.cl)],[],[]⟩)else(.ret,⟨[(2,.pv (.bool false))],[],[],[]⟩)):=by
 rcases D with rfl|⟨B,x,rfl⟩
 all_goals
   have p:=c495 hn.n;have k2:=c496 hn.n;have o:=c29 A.t hn.t;have m:=c497 e.ty A.t;have k:=c33e (a:=e.ty) (b:=cA) A.t;unfold Ex.Bn;generalize Ux e.name=u at*;generalize Iq e.name=l at*;generalize dx e.ty=v at*;generalize e.ty.wr=w at*;generalize decide (e.ty=cA)=z at*;simp[cA]at o m k;by_cases d:e.pos<0
   .simp[eU,cS,cH,g483,d]
   by_cases f:e.kids.length=kd
   rotate_left
   .have c:¬(e.kids.length:Int)=kd:=(by omega);simp[eU,cS,cH,g483,d,f,c]
   have c:(e.kids.length:Int)=kd:=(by omega);by_cases a:0<e.aF.length
   .by_cases b:e.kind=8
    rotate_left
    .simp[eU,cS,cH,g483,d,f,c,a,b]
    by_cases h:e.num<0
    .simp[eU,cS,cH,g483,d,f,c,a,b,h]
    by_cases i:999999999<e.num
    .simp[eU,cS,cH,g483,d,f,c,a,b,h,i]
    by_cases g:e.num=0
    .have y:=g;cases nm with
     |false=>
      by_cases r:e.name=[]
      rotate_left
      .simp[eU,cS,cH,g483,d,f,c,a,b,h,i,g,r]
      cases z with
      |false=>simp[eU,cS,cH,g483,d,f,c,a,b,h,i,g,r,p,k2,o,m,k]
      |true=>
       simp[eU,cS,cH,g483,d,f,c,a,b,h,i,g,r,p,k2,o,m,k]
     |true=>
      cases l with
      |false=>simp[eU,cS,cH,g483,d,f,c,a,b,h,i,g,p,k2,o,m,k]
      |true=>
       cases z with
       |false=>simp[eU,cS,cH,g483,d,f,c,a,b,h,i,g,p,k2,o,m,k]
       |true=>
        simp[eU,cS,cH,g483,d,f,c,a,b,h,i,g,p,k2,o,m,k]
    .have y:=g;simp[eU,cS,cH,g483,d,f,c,a,b,h,i,g]
   .by_cases b:e.kind=8
    .simp[eU,cS,cH,g483,d,f,c,a,b]
    by_cases h:e.num<0
    .simp[eU,cS,cH,g483,d,f,c,a,b,h]
    by_cases i:999999999<e.num
    .simp[eU,cS,cH,g483,d,f,c,a,b,h,i]
    by_cases g:e.num=0
    .have y:=g;cases nm with
     |false=>
      by_cases r:e.name=[]
      rotate_left
      .simp[eU,cS,cH,g483,d,f,c,a,b,h,i,g,r]
      by_cases q:e.kind=2
      .have r2:=q;rw[r]at p k2;cases u with
       |false=>simp[eU,cS,cH,g483,d,f,c,a,b,h,i,g,r,q,p,k2,o,m,k]
       |true=>
        cases z with
        |false=>simp[eU,cS,cH,g483,d,f,c,a,b,h,i,g,r,q,p,k2,o,m,k]
        |true=>
         simp[eU,cS,cH,g483,d,f,c,a,b,h,i,g,r,q,p,k2,o,m,k]
      .have r2:=q;by_cases j:e.kind=9
       .have r9:=j;cases v with
        |false=>simp[eU,cS,cH,g483,d,f,c,a,b,h,i,g,r,q,j,p,k2,o,m,k]
        |true=>
         cases w with
         |false=>simp[eU,cS,cH,g483,d,f,c,a,b,h,i,g,r,q,j,p,k2,o,m,k]
         |true=>
          simp[eU,cS,cH,g483,d,f,c,a,b,h,i,g,r,q,j,p,k2,o,m,k]
       .have r9:=j;cases z with
        |false=>simp[eU,cS,cH,g483,d,f,c,a,b,h,i,g,r,q,j,p,k2,o,m,k]
        |true=>
         simp[eU,cS,cH,g483,d,f,c,a,b,h,i,g,r,q,j,p,k2,o,m,k]
     |true=>
      by_cases q:e.kind=2
      .have r2:=q;cases u with
       |false=>simp[eU,cS,cH,g483,d,f,c,a,b,h,i,g,q,p,k2,o,m,k]
       |true=>
        cases z with
        |false=>simp[eU,cS,cH,g483,d,f,c,a,b,h,i,g,q,p,k2,o,m,k]
        |true=>
         simp[eU,cS,cH,g483,d,f,c,a,b,h,i,g,q,p,k2,o,m,k]
      .have r2:=q;cases l with
       |false=>simp[eU,cS,cH,g483,d,f,c,a,b,h,i,g,q,p,k2,o,m,k]
       |true=>
        by_cases j:e.kind=9
        .have r9:=j;cases v with
         |false=>simp[eU,cS,cH,g483,d,f,c,a,b,h,i,g,q,j,p,k2,o,m,k]
         |true=>
          cases w with
          |false=>simp[eU,cS,cH,g483,d,f,c,a,b,h,i,g,q,j,p,k2,o,m,k]
          |true=>
           simp[eU,cS,cH,g483,d,f,c,a,b,h,i,g,q,j,p,k2,o,m,k]
        .have r9:=j;cases z with
         |false=>simp[eU,cS,cH,g483,d,f,c,a,b,h,i,g,q,j,p,k2,o,m,k]
         |true=>
          simp[eU,cS,cH,g483,d,f,c,a,b,h,i,g,q,j,p,k2,o,m,k]
    .have y:=g;by_cases s:e.kind=3
     rotate_left
     .simp[eU,cS,cH,g483,d,f,c,a,b,h,i,g,s]
     cases nm with
     |false=>
      by_cases r:e.name=[]
      rotate_left
      .simp[eU,cS,cH,g483,d,f,c,a,b,h,i,g,s,r]
      cases z with
      |false=>simp[eU,cS,cH,g483,d,f,c,a,b,h,i,g,s,r,p,k2,o,m,k]
      |true=>
       simp[eU,cS,cH,g483,d,f,c,a,b,h,i,g,s,r,p,k2,o,m,k]
     |true=>
      cases l with
      |false=>simp[eU,cS,cH,g483,d,f,c,a,b,h,i,g,s,p,k2,o,m,k]
      |true=>
       cases z with
       |false=>simp[eU,cS,cH,g483,d,f,c,a,b,h,i,g,s,p,k2,o,m,k]
       |true=>
        simp[eU,cS,cH,g483,d,f,c,a,b,h,i,g,s,p,k2,o,m,k]
def RQ{k:Int}(h:de k=some (nm,kd)):kd<=2:=by
 unfold de at h
 repeat' split at h
 all_goals first|(simp at h;omega)|simp at h
def c483(e:Ex):e.Ok->e.ET->(aE AP).p 483 [e.pv]=some [.bool e.xr]:=by
 refine Ex.recC (p:=fun e=>e.Ok->e.ET->(aE AP).p 483 [e.pv]=some [.bool e.xr]) ?_ e;intro e r g hn;obtain⟨X,t,d⟩:=Vq (e:=e);have o:e.aF.length<=1000:=g.a;obtain⟨_,kl⟩:=abX (e:=e) o hn.a _ 0 rfl (by omega);have k2:=c414 g;have hN:e.ch.length<=2000:=by rw[Ex.i_];have:=g.k;have:=g.a;omega
 have hS:Sm e.ch:=by unfold Sm;omega
 have u:HZ (.fn 501 []) [] Ex.pv (fun x=>!x.xr) e.ch:=by
  intro x hx;have k:=r x hx (g.c x hx) (hn.c x hx)
  have:(aE AP).i 501 [.pv x.pv] [] []=some ([.pv (.bool (!x.xr))],[],[]):=by
   rw[aC g501];simp at k;simp[g501,k]
  simp at this;simp[this]
 have q:=TX y8 (m:=500) (k:=516) rfl rfl hS (sh:=[]) (by intro cs h;simp at h) rfl rfl (fun _ _=>rfl) u;have e1:(!(e.ch.any fun x=>!x.xr))=e.ch.all Ex.xr:=uT;rw[Ex.QT,<-e1];have s:g483.body=.seq (cS g483.body) (.seq (cS (cH g483.body)) (.seq rO (.seq eU Zo))):=rfl;rw[aB g483,s];generalize (e.ch.any fun x=>!x.xr)=b at*;rw[zar,g483L0e]at kl;cases n:de e.kind with
 |none=>
  rw[n]at d;simp at d;simp[cS,cH,g483,d]
 |some p=>
  obtain⟨nm,kd⟩:=p;rw[n]at d;have f:=Vr g hn (nm:=nm) (RQ n) t;simp only at d;by_cases j:e.Bn nm kd=true
  .rw[zai j]at f;by_cases l:e.aF.all WJ=true
   .rw[zai l]at kl;simp only[j,l,zbq];simp at d f kl k2 q;simp[cS,cH,g483,Zo,d,f,g483L0e,kl,k2,q]
   .rw[zad l]at kl;simp only[j,l,zbq];simp at d f kl;simp[cS,cH,g483,Zo,d,f,g483L0e,kl]
  .rw[zad j]at f;simp only[j];simp at d f;simp[cS,cH,g483,d,f]
def abY(hl:env.length<=1000000):∀(n i:Nat),env.length-i=n->i<=env.length->∀acc:List bF,acc.length=i->
   cl AP g476L0 ⟨[(0,.pv (.ae (env.map En.pv))),(3,.own (acc.map .str) 0),(4,.pv (vI i))],[],[],[acc.length]⟩=
     some (.exit 0,⟨[(0,.pv (.ae (env.map En.pv))),(3,.own ((acc++(env.drop i).map En.name).map .str) 0),(4,.pv (vI env.length)),(8,.pv (.bool false))],[],[],[env.length]⟩)
 |0,i,hn,hi,acc,b=>by
  have:i=env.length:=by omega
  subst this;rw[g476L0e];simp[g476B0,b]
 |n+1,i,hn,hi,acc,b=>by
  have hi:i<env.length:=(by omega);obtain⟨x,hx⟩:=aR hi;have a:=abY hl n (i+1) (by omega) (by omega) (acc++[x.name]) (by simp;omega);have c:(acc.length+1)*16<=140737488355328:=(by omega);rw[aZ hx];rw[g476L0e]at a⊢;simp at a;simp(disch:=omega)[-getElem?_pos,g476B0,hx,hi,aq,c];rw[g476L0e];simp[a]
def c476(hl:env.length<=1000000):(aE AP).p 476 [.ae (env.map En.pv)]=some [.ae ((env.map En.name).map .str)]:=by
 have L:=abY hl _ 0 rfl (by omega) [] rfl;rw[g476L0e]at L;simp at L;rw[aB g476];simp[g476,g476L0e,L]
structure DQ(n:Nat)(env:List En)(e:Ex)(d:Dv):Prop where
 tx:rR e
 ok:e.Ok
 one:e.One
 nm:e.ET
 vl:e.xr=true
 hl:e.BN n
 sz:e.sz<=1000
 sd:d.Sd
 bd:d.Bd
 en:oH env
 le:env.length+10*n<=1000
noncomputable def RS(ds:List Dt)(home:Int)(n:Nat)(env:List En)(e:Ex)(d:Dv):List Rd×Int:=
 if pA e d=true then(if BS ds (·∈env.map En.name) e=true then(match aK ds home n env e d with|some l=>(l,0)|none=>([],18))else([],9))else([],17)
open Classical in
def DQ.fq{U:List Dt}{N:Nat}{env:List En}{e:Ex}{d:Dv}(h:DQ N env e d)(hf:pA e d=true)(a:BS U (·∈env.map En.name) e=true):FQ U N env e d:=by
 unfold pA at hf;unfold BS at a;exact⟨h.ok,h.hl,zca hf,h.sd,h.bd,zca a,h.en,h.le,h.sz⟩
def Zp(b:lX U)(Q:DQ N env e d):(RS U home N env e d).1.length<=1000/\∀r∈(RS U home N env e d).1,xF r.h:=by
 unfold RS;split
 .rename_i hf;split
  .rename_i a;have A:=(EG b (home:=home) Q.tx (Q.fq hf a)).h;cases e1:aK U home N env e d with
   |none=>simp
   |some l=>
    have:=Q.sz;exact⟨zaI (A l e1).1 this,fun r hr=>((A l e1).2 r hr).1⟩
  .simp
 .simp
def c473(m:lX U)(Q:DQ N env e d):
   (aE AP).p 473 [.ae (U.map Dt.pv),.ae (env.map En.pv),vI home,e.pv,d.pv]=some [.ae ((RS U home N env e d).1.map Rd.pv),vI (RS U home N env e d).2]:=by
 have u:=Q.le;have t:=Q.sz;have c:=c483 e Q.ok Q.nm;have a:=c484 Q.ok Q.sd;have k2:=c486g (env:=env) (by omega);have g:=c485 m.small.num m.small.dy Q.ok Q.one (env.map En.name) (by simp;omega);rw[Q.vl]at c;unfold RS;rw[aB g473];by_cases hf:pA e d=true
 .rw[zai hf];rw[hf]at a;by_cases h:BS U (·∈env.map En.name) e=true
  .rw[zai h];rw[h]at g;obtain⟨b,s,k,o,q,r⟩:=(EG m (home:=home) Q.tx (Q.fq hf h)).f.p;simp[iu,mK]at k;simp at c a k2 g;cases b with
   |true=>
    cases e1:aK U home N env e d with
    |none=>have:=q e1;cases this
    |some l=>
     have:=(o l e1).2;subst this;simp[g473,c,a,k2,g,k,hf,h]
   |false=>
    cases e1:aK U home N env e d with
    |none=>simp[g473,c,a,k2,g,k,hf,h]
    |some l=>have:=(o l e1).1;cases this
  .have i:BS U (·∈env.map En.name) e=false:=(by simpa using h);rw[zad h];rw[i]at g;simp at c a k2 g;simp[g473,c,a,k2,g,hf,i]
 .have j:pA e d=false:=(by simpa using hf);rw[zad hf];rw[j]at a;simp at c a;simp[g473,c,a,j]
def abZ{l:List Rd}(hl:l.length<=1000000){er:Int}:∀(n i:Nat),l.length-i=n->i<=l.length->∀acc:List Ho,acc.length=i->
   cl AP g453L0 ⟨[(13,.pv (vI er)),(14,.own (acc.map Ho.pv) 0),(26,.pv (.ae (l.map Rd.pv))),(27,.pv (vI l.length)),(28,.pv (vI i))],[],[],[acc.length]⟩=
     some (.exit 0,⟨[(13,.pv (vI er)),(14,.own ((acc++(l.drop i).map Rd.h).map Ho.pv) 0),(26,.pv (.ae (l.map Rd.pv))),(27,.pv (vI l.length)),(28,.pv (vI l.length)),(29,.pv (.bool false))],[],[],[l.length]⟩)
 |0,i,hn,hi,acc,b=>by
  have:i=l.length:=by omega
  subst this;rw[g453L0e];simp[g453B0,b]
 |n+1,i,hn,hi,acc,b=>by
  have hi:i<l.length:=(by omega);obtain⟨x,hx⟩:=aR hi;have a:=abZ hl (er:=er) n (i+1) (by omega) (by omega) (acc++[x.h]) (by simp;omega);have c:(acc.length+1)*104<=140737488355328:=(by omega);rw[aZ hx];rw[g453L0e]at a⊢;simp at a;simp(disch:=omega)[-getElem?_pos,g453B0,hx,hi,aq,c];rw[g453L0e];simp[a]
def c453(b:lX U)(Q:DQ N env e d):
   (aE AP).p 453 [.ae (U.map Dt.pv),.ae (env.map En.pv),vI home,e.pv,d.pv]=some [.ae (((RS U home N env e d).1.map Rd.h).map Ho.pv),vI (RS U home N env e d).2]:=by
 have a:=c473 b (home:=home) Q;have hl:=(Zp b (home:=home) Q).1;generalize RS U home N env e d=q at*;obtain⟨l,er⟩:=q;have L:=abZ (l:=l) (by simp at hl;omega) (er:=er) _ 0 rfl (by omega) [] rfl;rw[g453L0e]at L;simp at L a;rw[aB g453];simp[g453,a,g453L0e,L]
def m0(ds:List Dt)(home:Int):Mc:=⟨ds,home,nE 0,0,0,[],[]⟩
def EH{a:Int->Ty}(t:Ty):(∀w,cf t w->R w=a w)->t.ev R=t.ev a:=by
 refine Ty.cb (p:=fun t=>(∀w,cf t w->R w=a w)->t.ev R=t.ev a) ?_ t;intro t b h;rw[Ty.bE,Ty.bE a t];by_cases k:t.kind=1
 .rw[zai k,zai k];exact h _ (.var k)
 .rw[zad k,zad k];congr 1;exact zaP fun x hx=>b x hx fun w c=>h w (.arg k hx c)
def RU(s:List Sl)(b r:Int->Ty):Int->Ty:=fun v=>match dr s (az v)with|some x=>x.ty.ev r|none=>b v
def uD(s:List Sl)(b:Int->Ty):Nat->Int->Ty
 |0=>b
 |k+1=>RU s b (uD s b k)
theorem Zq{a:Int->Nat}(hr:∀i v,Edge G i v->a v<a i)(N:Nat):∀v,a v=N->∀k k',N<k->N<k'->uD G R k v=uD G R k' v:=by
 induction N using Nat.strongRecOn with
 |ind N d=>
  intro v l k k' m f;obtain⟨j,rfl⟩:∃j,k=j+1:=⟨k-1,by omega⟩;obtain⟨c,rfl⟩:∃j,k'=j+1:=⟨k'-1,by omega⟩;simp only[uD,RU];cases h:dr G (az v)with
  |none=>rfl
  |some x=>
   obtain⟨_,i,hi,hx,g⟩:=cq h;have hi:v=(i:Int):=hi;refine EH x.ty fun w e=>?_
   have:=hr v w ⟨i,x,hi,hx,g,e⟩;exact d (a w) (by omega) w rfl j c (by omega) (by omega)
theorem Zr(m:xS G)(b:Int->Ty)(f:∀v,Q (b v))(hs:∀x∈G,x.bd=true->∀r:Int->Ty,(∀v,Q (r v))->Q (x.ty.ev r)):∃r:Int->Ty,Sat r G/\(∀v,¬jR G v->r v=b v)/\∀v,Q (r v):=by
 obtain⟨c,hr⟩:=m;refine⟨fun v=>uD G b (c v+1) v,fun i x hx a=>?_,fun v j=>?_,fun v=>?_⟩
 .have d:dr G (az i)=some x:=by
   unfold dr;rw[zai ⟨rfl,by simp[az]⟩];have:(az (i:Int)).id.toNat=i:=by simp[az]
   rw[this,hx];simp[a]
  have e:uD G b (c i+1) i=x.ty.ev (uD G b (c i)):=(by simp only[uD,RU,d]);refine e.trans (EH x.ty fun w l=>?_);have:=hr i w ⟨i,x,rfl,hx,a,l⟩;exact Zq hr (c w) w rfl (c i) (c w+1) (by omega) (by omega)
 .have d:dr G (az v)=none:=by
   cases h:dr G (az v)with
   |none=>rfl
   |some x=>
    obtain⟨_,i,hi,hx,a⟩:=cq h;exact absurd ⟨i,x,hi,hx,a⟩ j
  show uD G b (c v+1) v=_;simp only[uD,RU,d]
 .have key:∀k v,Q (uD G b k v):=by
   intro k;induction k with
   |zero=>exact f
   |succ k g=>
    intro v;simp only[uD,RU];cases h:dr G (az v)with
    |none=>exact f v
    |some x=>
     obtain⟨_,i,hi,hx,a⟩:=cq h;exact hs x (aM hx) a _ g
  exact key _ v
structure VQ(t:Ty):Prop where
 kw:t.Kw
 pl:dx t=true/\(∀y∈t.nodes,y.kind≠2/\y.kind≠5)
def RV{k:Int}(h0:0<=k)(h1:k<=1000000):VQ (az k):=by
 refine⟨jd,?_,?_⟩
 .rw[gf];simp[az,h0,h1]
 .intro y hy;rw[Ty.aI]at hy;simp[az]at hy;subst hy;simp
def RW(hr:∀v,VQ (R v))(m:u.Kw):Gv u->VQ (u.ev R):=by
 induction m with
 | @mk u h1 h2 h3 l=>
  intro f;by_cases k:u.kind=1
  .rw[gQ k];exact hr _
  .have d:u.kind=4:=by
    by_cases q:u.kind=4
    .exact q
    .have a:=(h1 q).1;have b:=f.hd;simp only[KS]at a;omega
   obtain⟨j,i,h⟩:u.id=0/\u.home=0/\i7 u.name u.args.length=true:=by
    rcases f.hd with q|q|q
    .omega
    .omega
    .exact q.2
   have e:u.ev R=⟨u.kind,u.name,u.id,u.home,u.args.map (Ty.ev R)⟩:=(by rw[Ty.bE,zad k]);rw[e]
   have g:∀x∈u.args.map (Ty.ev R),VQ x:=by
    intro x hx;simp only[zak]at hx;obtain⟨a,c,rfl⟩:=hx;exact l a c (f.df a c)
   refine⟨.mk (fun q=>absurd d q) h2 fun x hx=>(g x hx).kw,?_,?_⟩
   .rw[gf];simp only[d,j,i,zaD,h];simp;intro a c;exact(g _ (zbt c)).pl.1
   .intro y hy;rw[Ty.aI]at hy;simp only[zah,zaf]at hy;rcases hy with rfl|⟨a,c,hy⟩
    .simp[d]
    .exact(g a c).pl.2 y hy
def RX{f:Nat->Ex->BM}:∀{l:List Ex}{i:Nat},(xa f i l).1=0<->∀(k:Nat)(x:Ex),l[k]?=some x->(f (i+k) x).1=0
 |[],i=>by simp[xa]
 |y::r,i=>by
  simp only[xa];by_cases h:(f i y).1≠0
  .rw[zai h];exact⟨fun h1=>absurd h1 h,fun h1=>h1 0 y rfl⟩
  .rw[zad h,RX (l:=r)];have h:=Classical.not_not.1 h;constructor
   .intro h1 k x a;cases k with
    |zero=>simp at a;subst a;exact h
    |succ k=>have:=h1 k x (by simpa using a);rwa [show i+1+k=i+(k+1) by omega]at this
   .intro h1 k x a;have:=h1 (k+1) x (by simpa using a)
    rwa [show i+(k+1)=i+1+k by omega]at this
def Zs{N:List bF}:(e.bW U N).1=0<->(fm U N e).1=0/\∀(k:Nat)(x:Ex),e.ch[k]?=some x->(x.bW U (N++bX e k)).1=0:=by
 rw[Ex.Bc];by_cases h:(fm U N e).1≠0
 .rw[zai h];exact⟨fun h1=>absurd h1 h,fun h1=>absurd h1.1 h⟩
 .rw[zad h,RX];have h:=Classical.not_not.1 h;constructor
  .intro h1;exact⟨h,fun k x a=>by have:=h1 k x a;simpa using this⟩
  .intro h1 k x a;have:=h1.2 k x a;simpa using this
theorem RY:∀{e:Ex}{N:List bF},e.BN B->(e.bW U N).1=0->oF U (·∈N) e:=by
 induction B with
 |zero=>intro e N b;cases b
 |succ B f=>
  intro e N b h;obtain⟨h1,h2⟩:=Zs.1 h;by_cases a:e.kind=1
  .refine .var a ?_;by_cases q:e.name∈N
   .exact q
   .simp[fm,a,q]at h1
  .by_cases k2:e.kind=2
   .refine .dy k2 ?_;by_cases q:(gP U e.name 0).isSome=true
    .exact q
    .simp[fm,k2,q]at h1
   .refine .Nc a k2 (fun d=>?_) fun i x hx=>(f (b.c x (aM hx)) (h2 i x hx)).imp fun s hs=>by simpa using hs
    cases q:eS U e.aF with
    |some i=>rfl
    |none=>
     simp[fm,d]at h1;unfold rn at h1;cases e1:findF U e.aF with
     |some F=>rw[e1]at h1;exact absurd h1 (Er e1)
     |none=>rw[e1,q]at h1;simp at h1
def En.sb(s:List As)(x:En):En:=⟨x.name,⟨x.sc.id,x.sc.ty.sub s⟩⟩
variable{s:List As}
def Xc(hs:Sm s){l:List En}(hl:l.length<=1000000)(d:∀x∈l,x.sc.ty.Ok):∀(n i:Nat),l.length-i=n->i<=l.length->∀acc:List En,acc.length=i->
   cl AP g458L0 ⟨[(0,.pv (.ae (s.map As.pv))),(1,.pv (.ae (l.map En.pv))),(5,.own (acc.map En.pv) 0),(6,.pv (vI i))],[],[],[acc.length]⟩=
     some (.exit 0,⟨[(0,.pv (.ae (s.map As.pv))),(1,.pv (.ae (l.map En.pv))),(5,.own ((acc++(l.drop i).map (En.sb s)).map En.pv) 0),(6,.pv (vI l.length)),(10,.pv (.bool false))],[],[],[l.length]⟩)
 |0,i,hn,hi,acc,b=>by
  have:i=l.length:=by omega
  subst this;rw[g458L0e];simp[g458B0,b]
 |n+1,i,hn,hi,acc,b=>by
  have hi:i<l.length:=(by omega);obtain⟨x,hx⟩:=aR hi;have a:=Xc hs hl d n (i+1) (by omega) (by omega) (acc++[En.sb s x]) (by simp;omega);have k:=c377 hs (c:=x.sc) (d x (aM hx));have e:(acc.length+1)*88<=140737488355328:=(by omega);rw[aZ hx,zan];simp only[En.sb]at a⊢;rw[g458L0e]at a⊢;simp at a k;simp(disch:=omega)[-getElem?_pos,g458B0,hx,hi,aq,e,k];rw[g458L0e];simp[a]
def c458g(hs:Sm s){l:List En}(hl:l.length<=1000000)(a:∀x∈l,x.sc.ty.Ok):(aE AP).p 458 [.ae (s.map As.pv),.ae (l.map En.pv)]=some [.ae ((l.map (En.sb s)).map En.pv)]:=by
 have L:=Xc hs hl a _ 0 rfl (by omega) [] rfl;rw[zar,zaQ]at L;generalize l.map (En.sb s)=r at*;rw[g458L0e]at L;simp at L;rw[aB g458];simp[g458,g458L0e,L]
def ct:List En:=[⟨[120],⟨0,az 0⟩⟩,⟨[121],⟨0,eh (az 0) (az 1)⟩⟩]
def Vs:dQ ct=[0,1]:=by decide +kernel
theorem Vt:aW ct=ct:=rfl
def jv:∀x∈ct,x.sc.ty.Kn KS/\x.sc.ty.Ok/\x.sc.ty.nodes.length<=3/\Gv x.sc.ty/\∀w,cf x.sc.ty w->0<=w/\w<2:=by
 intro x hx;simp[ct]at hx;rcases hx with rfl|rfl
 .refine⟨jd,bw rfl,by decide,iG _,fun w c=>?_⟩;have:=da (t:=az 0) rfl c;simp[az]at this;omega
 .have a:=d6 (n:=2) (k:=0) (by omega);have b:=d6 (n:=2) (k:=1) (by omega);have f:=sT a b;exact⟨f.wf,f.ok,by decide,IC (iG _) (iG _),fun w c=>db.1 (f.gZ w c)⟩
def RZ:l7 ct:=by
 have h:oH ct:=fun x hx=>⟨(jv x hx).2.1,(jv x hx).1.imp pL,by have:=(jv x hx).2.2.1;omega⟩;exact h.r (by simp[ct])
def mW(ds:List Dt)(home:Int):Mc:=j_ (m0 ds home) 2
theorem Vu:ct.map (En.sb [⟨0,az 0⟩,⟨1,az 1⟩])=ct:=rfl
def c466w{ds:List Dt}:
   (aE AP).i 466 [.pv (.ae (ds.map Dt.pv)),.pv (.ae (ct.map En.pv)),.pv (vI home)] [] []=some ([.aL 0 0,.pv (.ae (ct.map En.pv)),.pv (.ae [vI 0,vI 1])],[some ((mW ds home).cx 0)],[0,0]):=by
 have b:=c200r RZ;have k2:=c201 RZ.sm;have a:=c458g (s:=[⟨0,az 0⟩,⟨1,az 1⟩]) (by simp[Sm]) (l:=ct) (by simp[ct]) fun x hx=>(jv x hx).2.1
 rw[Vs]at b;rw[Vt]at k2;rw[Vu]at a;have e0:=c367 (m:=m0 ds home) (n:=0) (nj 0) (by omega);have e1:=c367 (m:={m0 ds home with s:=a7 (m0 ds home).s (m0 ds home).home false}) (n:=1) (qF.fresh (nj 0) home) (by omega);have c:IntKind.i64.wrap 1=1:=by decide
 have d:IntKind.i64.wrap 2=2:=by decide
 unfold jc at e0 e1;generalize ct.map En.pv=E at*;simp[m0,nE,a7,Mc.sh,Mc.tk,Mc.cells,az,cA]at e0 e1;simp[az]at b k2 a;rw[aC g466];simp[g466,b];rw[g466L0e];simp[g466B0,e0,c];rw[g466L0e];simp[g466B0,e1,c,d];rw[g466L0e];simp[g466B0,k2,a,mW,m0,nE,a7,j_,uz,Mc.cx,cA]
def z9(k:Nat):List AV:=[.pv (vI 0),.pv (.str []),.pv (vI 0),.pv (vI 0),.own [] k]
def Mc.er(m:Mc)(F:Int×Int):Mc:={m with err:=F.1,pos:=F.2}
def EI(l:List Ty)(e:Ex)(d:Dv)(m:Mc)(i:Int)(x:List (Nat×AV)):St:=⟨[(7,.au 7 0),(9,.au 9 0),(11,.au 11 0),(13,.aL 0 0),(15,.pv (.ae [vI 0,vI 1])),(16,.au 16 0),(17,.own (l.map Ty.pv) 0),(19,.pv (vI i))]++x,[(7,e.cl),(9,z9 1),(11,z2),(16,d.cells.map .pv)],[some (m.cx 2)],[l.length,0,m.rc.length,m.hd.length]⟩
def Xd(I:qF N m.s)(hn:N<=1000000){e:Ex}{d:Dv}{l:List Ty}(hl:l.length<=1000)(g:∀t∈l,t.Ok):∀(k i:Nat),l.length-i=k->i<=l.length->
   ∃(j:Int)(F:Int×Int),cl AP g457L1 (EI l e d m i [])=some (.exit 2,EI l e d (m.er F) j [(76,.pv (.bool false))])/\(F.1=0->F=(m.err,m.pos)/\∀t∈l.drop i,Sml m t)
 |0,i,u,hi=>by
  have:i=l.length:=by omega
  subst this;have a:=Ex.aG e;have c:=Dv.aG d;refine⟨l.length,(m.err,m.pos),?_,fun _=>⟨rfl,by simp⟩⟩;rw[g457L1e];simp[g457B1,EI,z9,z2,Mc.cx,Mc.er,a,c,Ex.cl]
 |k+1,i,u,hi=>by
  have hi:i<l.length:=(by omega);have a:=Ex.aG e;have c:=Dv.aG d;by_cases h0:m.err=0
  .obtain⟨t,hx⟩:=aR hi;obtain⟨b,f,hT⟩:=c329 I hn (g t (aM hx));unfold jc at f;simp[Mc.sh,Mc.tk,Mc.cells,h0]at f;cases b with
   |true=>
    refine⟨(i:Int)+1,(15,e.pos),?_,fun h=>by simp at h⟩;rw[g457L1e];simp(disch:=omega)[-getElem?_pos,g457B1,EI,z9,z2,Mc.cx,Mc.er,h0,f,a,c,Ex.cl,hi,hx,aq];rw[g457L1e];simp[g457B1]
   |false=>
    obtain⟨j,F,r,q⟩:=Xd I hn (e:=e) (d:=d) hl g k (i+1) (by omega) (by omega);refine⟨j,F,?_,?_⟩
    .rw[<-r];conv=>lhs;rw[g457L1e]
     simp (disch:=omega) [-getElem?_pos,g457B1,EI,z9,z2,Mc.cx,h0,hi,hx,f,a,c,Ex.cl,aq];conv=>lhs;rw[g457L1e]
     conv=>rhs;rw[g457L1e]
     simp
    .intro hF;obtain⟨p,o⟩:=q hF;refine⟨p,?_⟩;rw[aZ hx];intro y hy;simp only[zah]at hy;rcases hy with rfl|hy
     .exact hT rfl
     .exact o y hy
  .refine⟨i,(m.err,m.pos),?_,fun h=>absurd h h0⟩;rw[g457L1e];simp[g457B1,EI,z9,z2,Mc.cx,Mc.er,h0,a,c,Ex.cl,hi]
def EJ(l:List Ty)(d:Dv)(m:Mc)(i:Int)(x:List (Nat×AV)):St:=⟨[(9,.au 9 0),(11,.au 11 0),(13,.aL 0 0),(15,.pv (.ae [vI 0,vI 1])),(16,.au 16 0),(17,.own (l.map Ty.pv) 0),(20,.pv (vI i))]++x,[(9,z9 1),(11,z2),(16,d.cells.map .pv)],[some (m.cx 2)],[l.length,0,m.rc.length,m.hd.length]⟩
def Xe(I:qF N m.s)(hn:N<=1000000)(hl:m.rc.length<=100000)(c:∀h∈m.rc,l6 N h){d:Dv}{l:List Ty}:∀(k i:Nat),m.rc.length-i=k->i<=m.rc.length->
   ∃(j:Int)(F:Int×Int),cl AP g457L2 (EJ l d m i [])=some (.exit 4,EJ l d (m.er F) j [(105,.pv (.bool false))])/\(F.1=0->F=(m.err,m.pos)/\∀h∈m.rc.drop i,∀u∈aP [h],Sml m u)
 |0,i,r,hi=>by
  have:i=m.rc.length:=by omega
  subst this;refine⟨m.rc.length,(m.err,m.pos),?_,fun _=>⟨rfl,by simp⟩⟩;have a:=Dv.aG d;rw[g457L2e];simp[g457B2,EJ,z9,z2,Mc.cx,Mc.er,a]
 |k+1,i,r,hi=>by
  have hi:i<m.rc.length:=(by omega);have a:=Dv.aG d;by_cases h0:m.err=0
  .obtain⟨h,hx⟩:=aR hi;obtain⟨b,e,hT⟩:=c331 I hn (c h (aM hx));unfold jc at e;simp[Mc.sh,Mc.tk,Mc.cells,h0]at e;cases b with
   |true=>
    refine⟨(i:Int)+1,(15,h.pos),?_,fun q=>by simp at q⟩;rw[g457L2e];simp(disch:=omega)[-getElem?_pos,g457B2,EJ,z9,z2,Mc.cx,Mc.er,h0,hi,hx,e,a,aq];rw[g457L2e];simp[g457B2]
   |false=>
    obtain⟨j,F,p,o⟩:=Xe I hn hl c (d:=d) (l:=l) k (i+1) (by omega) (by omega);refine⟨j,F,?_,?_⟩
    .rw[<-p];conv=>lhs;rw[g457L2e]
     simp (disch:=omega) [-getElem?_pos,g457B2,EJ,z9,z2,Mc.cx,h0,hi,hx,e,a,aq];conv=>lhs;rw[g457L2e]
     conv=>rhs;rw[g457L2e]
     simp
    .intro hF;obtain⟨g,f⟩:=o hF;refine⟨g,?_⟩;rw[aZ hx];intro y hy;simp only[zah]at hy;rcases hy with rfl|hy
     .exact hT rfl
     .exact f y hy
  .refine⟨i,(m.err,m.pos),?_,fun h=>absurd h h0⟩;rw[g457L2e];simp[g457B2,EJ,z9,z2,Mc.cx,Mc.er,h0,a,hi]
def Xf(f:v.length<=1000000){d:Dv}{S:List As}(hl:m.rc.length<=100000)(j:∀h∈m.rc,h.ctx.length<=1000000)(hr:∀h∈m.rc,(∀x∈h.ctx,J4 m.s x.sc.ty (Ey m.s x.sc.ty))/\J4 m.s h.goal (Ey m.s h.goal)):∀(k i:Nat),m.rc.length-i=k->i<=m.rc.length->∀acc:List Ho,acc.length=i->
   cl AP g457L4 ⟨[(9,.au 9 0),(11,.au 11 0),(13,.aL 0 0),(16,.au 16 0),(21,.own ((bh 0 v).map As.pv) 0),(22,.own (S.map As.pv) 1),(24,.own (acc.map Ho.pv) 2),(25,.pv (vI i))],[(9,z9 3),(11,z2),(16,d.cells.map .pv)],[some (m.cx 4)],[v.length,S.length,acc.length,0,m.rc.length,m.hd.length]⟩=
     some (.exit 8,⟨[(9,.au 9 0),(11,.au 11 0),(13,.aL 0 0),(16,.au 16 0),(21,.own ((bh 0 v).map As.pv) 0),(22,.own (S.map As.pv) 1),(24,.own ((acc++(m.rc.drop i).map (IF m v)).map Ho.pv) 2),(25,.pv (vI m.rc.length)),(177,.pv (.bool false))],[(9,z9 3),(11,z2),(16,d.cells.map .pv)],[some (m.cx 4)],[v.length,S.length,m.rc.length,0,m.rc.length,m.hd.length]⟩)
 |0,i,n,hi,acc,g=>by
  have:i=m.rc.length:=by omega
  subst this;have a:=dF (i:=0) (l:=v);have b:=Dv.aG d;rw[g457L4e];simp[g457B4,z9,z2,Mc.cx,g,a,b]
 |k+1,i,n,hi,acc,g=>by
  have hi:i<m.rc.length:=(by omega);obtain⟨h,hx⟩:=aR hi;have c:=Xf f (d:=d) (S:=S) hl j hr k (i+1) (by omega) (by omega) (acc++[IF m v h]) (by simp;omega);have e:=c334 f (j h (aM hx)) (hr h (aM hx)).1 (hr h (aM hx)).2;have o:(acc.length+1)*104<=140737488355328:=(by omega);have a:=dF (i:=0) (l:=v);have b:=Dv.aG d;rw[aZ hx,zan];unfold jc at e;rw[g457L4e]at c⊢;simp[Mc.sh,Mc.tk,Mc.cells,Vg]at e;simp[z9,z2,Mc.cx,a,b]at c;generalize IF m v h=w at*;simp(disch:=omega)[-getElem?_pos,g457B4,z9,z2,Mc.cx,hi,hx,e,aq,o,a,b];rw[g457L4e];simp[c,a]
structure IW(n:Nat)(e:Ex):Prop where
 tx:rR e
 sc:YA e
 hl:e.BN n
 sz:e.sz<=1000
 nn:n<=100
def Zt:∀x∈ct,ly 2 x.sc:=by
 intro x hx;obtain⟨a,b,_,_,d⟩:=jv x hx
 have h0:x.sc.id=0:=by
  simp[ct]at hx;rcases hx with rfl|rfl<;>rfl
 have:=eg.mono (n:=2) (t:=x.sc.ty) ⟨b,a,fun w f=>db.2 (d w f),trivial⟩
 have e:x.sc=⟨0,x.sc.ty⟩:=by
  generalize x.sc=c at*;cases c;simp only at h0;rw[h0]
 rw[e];exact this
def rP{ds:List Dt}(Q:IW N e):Room ds (mW ds home) 2 (201*e.sz) e.sz (20*e.sz) ct:=
 ⟨xB (nj 0) home 2,by have:=Q.sz;omega,by have:=Q.sz;simp[mW,j_,m0];omega,by have:=Q.sz;simp[mW,j_,m0];omega,by simp[mW,j_,m0],Zt,by have:=Q.sz;simp[ct];omega,rfl⟩
structure Nt(ds:List Dt)(home:Int)(e:Ex)(m:Mc)(n:Nat)(d:Dv):Prop where
 run:∃a b c k:Bool,jc 368 [.pv (.ae (ct.map En.pv)),.pv e.pv] (mW ds home) [.agg (mD a b c k d)] m
 st:Step False (mW ds home) 2 (201*e.sz) e.sz m n
 di:NC n e.sz d
 si:lA ds (mW ds home) 2 ct e m n d
def Vv{ds:List Dt}(b:lX ds)(Q:IW N e)(h0:(e.bW ds (ct.map En.name)).1=0):∃m n' d,Nt ds home e m n' d:=by
 obtain⟨d,f1,f2,f3,c,m,n',a,st,di,si⟩:=Ve b (H:=False) Q.tx Q.sc.ok (YV Q.hl h0) (fun h=>h.elim) _ _ _ (rP (ds:=ds) (home:=home) Q);exact⟨m,n',d,⟨f1,f2,f3,c,a⟩,st,di,si⟩
structure bV(m:Mc)(n:Nat)(d:Dv)(v:List Int):Prop where
 k:(aE AP).p 372 [m.s.pv,.ae ((az 0::az 1::d.ty::aP m.rc).map Ty.pv)]=some [.ae (v.map vI)]
 c:gV (mC n).ids v
 i:∀w,w∈v<->∃t∈az 0::az 1::d.ty::aP m.rc,RT m.s.sl t w/\¬jR m.s.sl w
def Vw{ds:List Dt}{n:Nat}(Q:IW n e)(N:Nt ds home e m n' d):∃v,bV m n' d v/\v.length<=1000000:=by
 have R1:=(rP (ds:=ds) (home:=home) Q).step N.st (A':=0) (R':=0) (E':=0) (by omega) (by omega) (by omega);have a:=R1.n';have i:=R1.rc;have j:=N.st.le;have kf:=l6.kf R1.kB;have b:=lu (l:=m.rc) (fun h o=>(R1.kB h o).len);have c:(aP m.rc).length<=100000*1000001:=zaI b (zaH _ (by omega))
 have all:∀t∈az 0::az 1::d.ty::aP m.rc,t.Ok/\∀w,cf t w->w∈(mC n').ids:=by
  intro t ht;simp only[zah]at ht;rcases ht with rfl|rfl|rfl|ht
  .exact⟨bw rfl,(d6 (n:=n') (k:=0) (by omega)).gZ⟩
  .exact⟨bw rfl,(d6 (n:=n') (k:=1) (by omega)).gZ⟩
  .exact⟨N.di.t.ok,N.di.t.gZ⟩
  .exact kf t ht
 obtain⟨v,g,vC,f⟩:=c372 (s:=m.s) (S:=(mC n').ids) (by rw[R1.st.len];exact a) R1.st.rz R1.st.ok R1.st.gZ (Uh a).ym (l:=az 0::az 1::d.ty::aP m.rc) (by unfold Sm;simp;omega) (fun t ht=>(all t ht).1) (fun t ht=>(all t ht).2);refine⟨v,⟨g,vC,f⟩,?_⟩;have:=fh vC.nodup vC.sub;simp[mC,eL]at this;omega
theorem c457w{ds:List Dt}(Z:lX ds){n:Nat}(Q:IW n e):
   (∃(t:Ty)(F:Int×Int),(aE AP).p 457 [.ae (ds.map Dt.pv),.ae (ct.map En.pv),vI home,e.pv]=some [.ae [],t.pv,.ae [],.agg [vI F.1,vI F.2]]/\F.1≠0)\/
   ∃(m:Mc)(n':Nat)(d:Dv)(v:List Int)(t:Ty)(h:List Ho),(aE AP).p 457 [.ae (ds.map Dt.pv),.ae (ct.map En.pv),vI home,e.pv]=some [.ae ([⟨0,mJ m v (az 0)⟩,⟨1,mJ m v (az 1)⟩].map As.pv),t.pv,.ae (h.map Ho.pv),.agg [vI 0,vI 0]]/\
     (e.bW ds (ct.map En.name)).1=0/\Nt ds home e m n' d/\m.err=0/\bV m n' d v/\v.length<=1000000/\J4 m.s (az 0) (Ey m.s (az 0))/\J4 m.s (az 1) (Ey m.s (az 1)):=by
 have K:=c476 (env:=ct) (by simp[ct]);have k2:=c366 Z.small.num Z.small.dy n Q.sc Q.hl (ct.map En.name) (by simp[ct];have:=Q.nn;omega);have X:=c466w (ds:=ds) (home:=home);by_cases h0:(e.bW ds (ct.map En.name)).1=0
 .obtain⟨m,n',d,N⟩:=Vv Z (home:=home) Q h0;obtain⟨v,V,b⟩:=Vw Q N;obtain⟨f1,f2,f3,f4,M⟩:=N.run;have D:=iH f1 f2 f3 f4 d;generalize mD f1 f2 f3 f4 d=C at*;have r:=D.len;have f:=D.leaf;have w:=D.eQ;have j:=D.flat;have y:=D.pO;have g:=D.kill;have B:=Dv.aG d;have ec:=Ex.aG e;have hf:∀S:Sh,eQ S (.au 16 0)=none:=fun _=>rfl
  have R1:=(rP (ds:=ds) (home:=home) Q).step N.st (A':=0) (R':=0) (E':=0) (by omega) (by omega) (by omega);have L:=R1.n';have a3:=R1.rc;have a4:=R1.hd;obtain⟨i1,F1,J,q2⟩:=Xd R1.st L (l:=[az 0,az 1,d.ty]) (by simp) (by intro t ht;simp at ht;rcases ht with rfl|rfl|rfl;exact bw rfl;exact bw rfl;exact N.di.t.ok) (e:=e) (d:=d) _ 0 rfl (by simp);obtain⟨i2,F2,r1,r2⟩:=Xe (m:=m.er F1) R1.st L (by simp only[Mc.er];omega) R1.kB (d:=d) (l:=[az 0,az 1,d.ty]) _ 0 rfl (by omega);have U:=c63 (n:=(0:Int));have T:=c63 (n:=(1:Int));have G:IntKind.i64.wrap 1=1:=(by decide);have R:IntKind.i64.wrap 2=2:=(by decide);unfold jc at M;simp[mW,j_,m0,Mc.sh,Mc.tk,Mc.cells]at M;simp[mW,j_,m0,Mc.cx]at X;simp[h0]at K k2;simp at U T;rw[g457L1e]at J;rw[g457L2e]at r1;generalize hE:ct.map En.pv=E at*;generalize a5:ct.map En.name=E2 at*;generalize (uz home (nE 0) 2)=s0 at*;by_cases hF:F2.1=0
  .obtain⟨e1,T1⟩:=r2 hF;have e2:F1.1=0:=by rw[e1]at hF;exact hF
   obtain⟨e3,O⟩:=q2 e2;subst e3;have e4:F2=(m.err,m.pos):=e1;subst e4;have a:m.err=0:=e2;simp[EI,z9,z2,Mc.cx,Mc.er,ec,B,Ex.cl,a,az]at J;simp[EJ,z9,z2,Mc.cx,Mc.er,B,a,az]at r1;have kf:=l6.kf R1.kB;have Y:=lu (l:=m.rc) (fun h c=>(R1.kB h c).len);have a2:(aP m.rc).length<=100000*1000001:=zaI Y (zaH _ (by omega));have k6:=c356 (l:=m.rc) (by omega) fun h c=>(R1.kB h c).len
   have k7:=c357 (m:=m) b V.k;simp[Mc.sh,Mc.tk,Mc.cells,Mc.cx,a,az]at k6 k7;have bb:(3+(aP m.rc).length)*64<=140737488355328:=(by omega);have a1:((aP m.rc).length+3)*64<=140737488355328:=(by omega);have a0:((aP m.rc).length+1+1+1)*64<=140737488355328:=(by omega);have c:=mo.head (aP m.rc);have q:Sm m.s.sl:=(by unfold Sm;rw[R1.st.len];omega);rw[zar]at O;have rd:=Bz q R1.st.ok N.di.t.ok (O d.ty (by simp));have I:=Bz q R1.st.ok (bw rfl) (O (az 0) (by simp));have H:=Bz q R1.st.ok (bw rfl) (O (az 1) (by simp));have rh:∀h∈m.rc,∀u∈aP [h],J4 m.s u (Ey m.s u):=fun h c u hu=>Bz q R1.st.ok (kf u (xE.2 ⟨h,c,hu⟩)).1 (T1 h (by rw[zar];exact c) u hu)
   have P:=Xf (m:=m) b (d:=d) (S:=[⟨0,mJ m v (az 0)⟩,⟨1,mJ m v (az 1)⟩]) (by omega) (fun h c=>(R1.kB h c).len) (fun h c=>⟨fun x hx=>rh h c _ (by simp[aP];exact .inl ⟨x,hx,rfl⟩),rh h c _ (by simp[aP])⟩) _ 0 rfl (by omega) [] rfl;have W:=c333 (m:=m) b rd;have A:=c333 (m:=m) b I;have z:=c333 (m:=m) b H;have o:=dF (i:=0) (l:=v);rw[g457L4e]at P;rw[zar]at P;unfold jc at W A z;refine .inr ⟨m,n',d,v,mJ m v d.ty,m.rc.map (IF m v),?_,h0,N,a,V,b,I,H⟩;generalize mJ m v d.ty=u at*;generalize mJ m v (az 0)=u0 at*;generalize mJ m v (az 1)=u1 at*;generalize m.rc.map (IF m v)=hs at*;generalize bh 0 v=NN at*;simp[Mc.sh,Mc.tk,Mc.cells,a,Ej,az]at W A z;simp[z9,z2,Mc.cx,B,a,o]at P;rw[aB g457];simp[g457,K,k2,h0,X,M,r,f,w,j,y,g,B,hf];rw[g457L0e];simp[g457B0,U,G];rw[g457L0e];simp[g457B0,T,G,R];rw[g457L0e];simp[g457B0,a,g457L1e,J,g457L2e,r1,k6,k7,bb,a1,a0,c,o];rw[g457L3e];simp[g457B3,A,G,o];rw[g457L3e];simp[g457B3,z,G,R,o];rw[g457L3e];simp[g457B3,g457L4e,P,W,o]
  .refine .inl ⟨cA,F2,?_,hF⟩;simp[EI,z9,z2,Mc.cx,Mc.er,ec,B,Ex.cl,az]at J;simp[EJ,z9,z2,Mc.cx,Mc.er,B,az]at r1;rw[aB g457];simp[g457,K,k2,h0,X,M,r,f,w,j,y,g,B,hf];rw[g457L0e];simp[g457B0,U,G];rw[g457L0e];simp[g457B0,T,G,R];rw[g457L0e];simp[g457B0,g457L1e,J,g457L2e,r1,hF,cA]
 .refine .inl ⟨cA,e.bW ds (ct.map En.name),?_,h0⟩;generalize ct.map En.pv=E at*;generalize ct.map En.name=E2 at*;rw[aB g457];simp at K k2;simp[g457,K,k2,h0,cA]
mutual
def Dv.kf:Dv->List Ty
 |⟨t,i,_,ks⟩=>t::i++Dv.R4 ks
def Dv.R4:List Dv->List Ty
 |[]=>[]
 |d::r=>Dv.kf d++Dv.R4 r
end
def Dv.Kb:∀l:List Dv,Dv.R4 l=l.flatMap Dv.kf
 |[]=>by simp[Dv.R4]
 |d::r=>by simp[Dv.R4,Dv.Kb r]
def Dv.sY(d:Dv):d.kf=(d.ty::d.inst)++d.kids.flatMap Dv.kf:=by
 cases d;simp only[Dv.kf,Dv.Kb]
def Dv.Fi.kf(h:d.Fi N):d.kf.length<=201*d.nN/\∀t∈d.kf,eg N t:=by
 induction h with
 | @mk d h1 h2 h3 _ _ c=>
  rw[Dv.sY,Dv.lB];constructor
  .have key:∀l:List Dv,(∀x∈l,x.kf.length<=201*x.nN)->(l.flatMap Dv.kf).length<=201*(l.map Dv.nN).sum:=by
    intro l;induction l with
    |nil=>simp
    |cons a r b=>
     intro h;have f:=h a (by simp);have e:=b fun x hx=>h x (by simp[hx])
     simp only[zaq,zat,zan,zbT];omega
   have:=key d.kids fun x hx=>(c x hx).1;simp only[zat,zay];omega
  .intro t ht;simp only[zae,zah,zaf]at ht;rcases ht with(rfl|ht)|⟨x,hx,ht⟩
   .exact h1
   .exact h2 t ht
   .exact(c x hx).2 t ht
def Dv.pn{y:Dv}(hx:y∈d.kids):y.nN<d.nN:=by
 have:=lq (f:=Dv.nN) hx;rw[Dv.lB d];omega
def Dv.Kc(d:Dv):d.kids.length<d.nN:=by
 rw[Dv.lB d]
 have:d.kids.length<=(d.kids.map Dv.nN).sum:=by
  generalize d.kids=l;induction l with
  |nil=>simp
  |cons a r b=>have:=Dv.lB a;simp;omega
 omega
def ab0(g:d.kids.length<=100000)(l:∀x∈d.kids,x.kf.length<=30000000)(hT:d.kf.length<=30000000)(f:∀x∈d.kids,(aE AP).p 469 [x.pv]=some [.ae (x.kf.map Ty.pv)]):∀(k i:Nat),d.kids.length-i=k->i<=d.kids.length->∀acc:List Ty,acc++(d.kids.drop i).flatMap Dv.kf=d.kf->
   cl AP g469L0 ⟨[(1,.au 1 0),(3,.own (acc.map Ty.pv) 0),(4,.pv (vI i))],[(1,d.cells.map .pv)],[],[acc.length]⟩=
     some (.exit 0,⟨[(1,.au 1 0),(3,.own (d.kf.map Ty.pv) 0),(4,.pv (vI d.kids.length)),(15,.pv (.bool false))],[(1,d.cells.map .pv)],[],[d.kf.length]⟩)
 |0,i,hn,hi,acc,a=>by
  have:i=d.kids.length:=by omega
  subst this;have b:=Dv.aG d;rw[za9]at a;simp at a;rw[g469L0e];simp[g469B0,a,b]
 |k+1,i,hn,hi,acc,a=>by
  have hi:i<d.kids.length:=(by omega);obtain⟨x,hx⟩:=aR hi;have b:=Dv.aG d;have e:=f x (aM hx);rw[aZ hx,zaq,<-zaF]at a;have c:=ab0 g l hT f k (i+1) (by omega) (by omega) (acc++x.kf) a
  have m:acc.length+x.kf.length<=30000000:=by
   have:=zcp List.length a;simp at this;omega
  have j:(acc.length+x.kf.length)*64<=140737488355328:=(by omega);have h:=mo.head x.kf;rw[g469L0e]at c⊢;simp[b]at c;simp at e;simp(disch:=omega)[-getElem?_pos,g469B0,hx,hi,aq,j,e,b,h];rw[g469L0e];simp[c]
def c469(h:d.Fi N):d.nN<=100000->(aE AP).p 469 [d.pv]=some [.ae (d.kf.map Ty.pv)]:=by
 induction h with
 | @mk d h1 h2 h3 h4 h5 c=>
  intro e;have fi:=Dv.Fi.mk h1 h2 h3 h4 h5;have ht:=fi.kf.1;have b:=Dv.aG d;have i:=d.Kc;have L:=ab0 (d:=d) (by omega) (fun x hx=>by have:=(h5 x hx).kf.1;have:=Dv.pn hx;omega) (by omega) (fun x hx=>c x hx (by have:=Dv.pn hx;omega)) _ 0 rfl (by omega) (d.ty::d.inst) (by rw[zar,Dv.sY]);have g:(1+d.inst.length)*64<=140737488355328:=by omega
  have a:(d.inst.length+1)*64<=140737488355328:=(by omega);have f:=mo.head d.inst;rw[g469L0e]at L;simp[b]at L;rw[aB g469];by_cases z:d.inst=[]
  .simp[z]at L;simp[g469,b,z,g469L0e,L]
  .simp[g469,b,z,g,a,f,g469L0e,L]
structure TyF(t:Ty):Prop where
 ok:t.Ok
 kn:t.Kn KS
 n:t.nodes.length<=4000
inductive Dv.Fo:Dv->Prop
 |mk {d:Dv}:TyF d.ty->(∀t∈d.inst,TyF t)->d.inst.length<=200->d.gen.length<=1000->d.kids.length<=1000->(∀x∈d.kids,x.Fo)->d.Fo
def f7(u:Ty)(us:List Ty)(g:List Int)(ks:List Dv):List AV:=[.pv (vI u.kind),.pv (.str u.name),.pv (vI u.id),.pv (vI u.home),.pv (.ae (u.args.map Ty.pv)),.own (us.map Ty.pv) 4,.pv (.ae (g.map vI)),.own (ks.map Dv.pv) 5]
def Sm4(m:Mc)(t:Ty):Prop:=∃r:Nat,r<=4000/\Tr m.s.sl t r
inductive Dv.Al (P:Ty->Prop):Ex->Dv->Prop
 |mk {e:Ex} {d:Dv}:P d.ty->(∀t∈d.inst,P t)->(∀(i:Nat) x y,e.ch[i]?=some x->d.kids[i]?=some y->y.Al P x)->d.Al P e
def Xg{m:Mc}(I:qF N m.s)(hn:N<=1000000){e:Ex}(j:d.inst.length<=200)(hf:∀t∈d.inst,eg N t):∀(k i:Nat),d.inst.length-i=k->i<=d.inst.length->∀b:Bool,∃g:Bool,
   cl AP g467L0 ⟨[(0,.aL 0 0),(4,.au 4 0),(5,.au 5 0),(8,.pv (.bool b)),(9,.pv (vI i))],[(4,e.cl),(5,d.cells.map .pv)],[some (m.cx 0)],[m.rc.length,m.hd.length]⟩=
     some (.exit 0,⟨[(0,.aL 0 0),(4,.au 4 0),(5,.au 5 0),(8,.pv (.bool g)),(9,.pv (vI d.inst.length)),(26,.pv (.bool false))],[(4,e.cl),(5,d.cells.map .pv)],[some (m.cx 0)],[m.rc.length,m.hd.length]⟩)/\(g=false->b=false/\∀t∈d.inst.drop i,Sm4 m t)
 |0,i,q,hi,b=>by
  have:i=d.inst.length:=by omega
  subst this;have c:=Ex.aG e;have f:=Dv.aG d;refine⟨b,?_,fun h=>⟨h,by simp⟩⟩;rw[g467L0e];simp[g467B0,Mc.cx,c,f,Ex.cl]
 |k+1,i,q,hi,b=>by
  have hi:i<d.inst.length:=(by omega);obtain⟨t,hx⟩:=aR hi;have c:=Ex.aG e;have f:=Dv.aG d;obtain⟨r,l,_,_,p⟩:=c355 (by unfold Sm;rw[I.len];omega) I.ok (m:=4000) (by omega) (hf t (aM hx)).ok;obtain⟨g,a,o⟩:=Xg I hn (e:=e) j hf k (i+1) (by omega) (by omega) (b || decide ((4000:Int)<r));refine⟨g,?_,fun h=>?_⟩
  rotate_left
  .obtain⟨h1,h2⟩:=o h;simp only[zbZ,zbg]at h1;refine⟨h1.1,?_⟩;rw[aZ hx];intro y hy;rcases zah.1 hy with rfl|hy
   .exact⟨r,by omega,p (by omega)⟩
   .exact h2 y hy
  clear o;rw[g467L0e]at a⊢;simp[Mc.cx,c,f,Ex.cl]at a;simp at l;cases b with
  |true=>
   simp at a;simp(disch:=omega)[-getElem?_pos,g467B0,Mc.cx,c,f,Ex.cl,hi,hx,aq];rw[g467L0e];simp[a]
  |false=>
   simp at a;simp(disch:=omega)[-getElem?_pos,g467B0,Mc.cx,c,f,Ex.cl,hi,hx,l,aq];rw[g467L0e];simp[a]
def Xh{Q:Ex->Dv->Prop}{c:List Ex}(w:c.length<=2000)(hd:d.kids.length<=100000)(o:∀(i:Nat)(x:Ex)(y:Dv),c[i]?=some x->d.kids[i]?=some y->∃(p:Int)(b:Bool),jc 467 [.pv x.pv,.pv y.pv] m [.pv (vI p),.pv (.bool b)] m/\(b=false->Q x y)):∀(k i:Nat),c.length-i=k->i<=c.length->
   (∃p:Int,cl AP g467L1 ⟨[(0,.aL 0 0),(5,.au 5 0),(10,.pv (.ae (c.map Ex.pv))),(11,.pv (vI i))],[(5,d.cells.map .pv)],[some (m.cx 0)],[m.rc.length,m.hd.length]⟩=some (.ret,⟨[(6,.pv (vI p)),(7,.pv (.bool true))],[],[some (m.cx 2)],[m.rc.length+1,m.hd.length+1,m.rc.length,m.hd.length]⟩))\/
   ∃j:Int,cl AP g467L1 ⟨[(0,.aL 0 0),(5,.au 5 0),(10,.pv (.ae (c.map Ex.pv))),(11,.pv (vI i))],[(5,d.cells.map .pv)],[some (m.cx 0)],[m.rc.length,m.hd.length]⟩=some (.exit 2,⟨[(0,.aL 0 0),(5,.au 5 0),(10,.pv (.ae (c.map Ex.pv))),(11,.pv (vI j)),(58,.pv (.bool false))],[(5,d.cells.map .pv)],[some (m.cx 0)],[m.rc.length,m.hd.length]⟩)/\∀(j:Nat) x y,i<=j->c[j]?=some x->d.kids[j]?=some y->Q x y
 |0,i,v,hi=>by
  have:i=c.length:=by omega
  subst this;have f:=Dv.aG d;refine .inr ⟨c.length,?_,fun j x y hj hx _=>by have:=(zaa.1 hx).1;omega⟩;rw[g467L1e];simp[g467B1,Mc.cx,f]
 |k+1,i,v,hi=>by
  have hi:i<c.length:=(by omega);obtain⟨x,hx⟩:=aR hi;have f:=Dv.aG d;by_cases hj:i<d.kids.length
  .obtain⟨y,hy⟩:=aR hj;obtain⟨p,b,g,t⟩:=o i x y hx hy;unfold jc at g;simp[Mc.sh,Mc.tk,Mc.cells]at g;cases b with
   |true=>
    refine .inl ⟨p,?_⟩;rw[g467L1e];simp(disch:=omega)[-getElem?_pos,g467B1,Mc.cx,f,hi,hj,hx,hy,g,aq]
   |false=>
    have u:=Xh w hd o k (i+1) (by omega) (by omega)
    have e1:cl AP g467L1 ⟨[(0,.aL 0 0),(5,.au 5 0),(10,.pv (.ae (c.map Ex.pv))),(11,.pv (vI i))],[(5,d.cells.map .pv)],[some (m.cx 0)],[m.rc.length,m.hd.length]⟩=cl AP g467L1 ⟨[(0,.aL 0 0),(5,.au 5 0),(10,.pv (.ae (c.map Ex.pv))),(11,.pv (vI (i+1:Nat)))],[(5,d.cells.map .pv)],[some (m.cx 0)],[m.rc.length,m.hd.length]⟩:=by
     conv=>lhs;rw[g467L1e]
     simp (disch:=omega) [-getElem?_pos,g467B1,Mc.cx,f,hi,hj,hx,hy,g,aq];conv=>lhs;rw[g467L1e]
     conv=>rhs;rw[g467L1e]
     simp
    rw[e1];rcases u with h|⟨j,h,h2⟩
    .exact .inl h
    .refine .inr ⟨j,h,fun n s r l e a=>?_⟩;by_cases q:n=i
     .subst q;rw[hx]at e;rw[hy]at a;cases e;cases a;exact t rfl
     .exact h2 n s r (by omega) e a
  .refine .inr ⟨i,?_,fun j x y l _ hy=>by have:=(zaa.1 hy).1;omega⟩;rw[g467L1e];simp(disch:=omega)[-getElem?_pos,g467B1,Mc.cx,f,hi,hj]
def c467x(I:qF N m.s)(hn:N<=1000000)(e:Ex):e.Ok->∀{d:Dv},d.Fi N->d.nN<=100000->∃(p:Int)(b:Bool),jc 467 [.pv e.pv,.pv d.pv] m [.pv (vI p),.pv (.bool b)] m/\(b=false->d.Al (Sm4 m) e):=by
 refine Ex.recC (p:=fun e=>e.Ok->∀{d:Dv},d.Fi N->d.nN<=100000->∃(p:Int)(b:Bool),jc 467 [.pv e.pv,.pv d.pv] m [.pv (vI p),.pv (.bool b)] m/\(b=false->d.Al (Sm4 m) e)) ?_ e;intro e v ok d fi C;have q:=Ex.aG e;have g:=Dv.aG d;have D:=Dv.lB d
 have u:d.kids.length<=100000:=by
  have h1:d.kids.length<=(d.kids.map Dv.nN).sum:=by
   generalize d.kids=l;induction l with
   |nil=>simp
   |cons a r v=>have:=Dv.lB a;simp;omega
  omega
 obtain⟨r,o,_,_,z⟩:=c355 (by unfold Sm;rw[I.len];omega) I.ok (m:=4000) (by omega) fi.t.ok;have k2:=c145 ok;obtain⟨b,A,E⟩:=Xg I hn (e:=e) fi.il fi.i _ 0 rfl (by omega) (decide ((4000:Int)<r))
 have B:=Xh (Q:=fun x y=>y.Al (Sm4 m) x) (m:=m) (c:=e.ch) (by rw[Ex.i_];have:=ok.k;have:=ok.a;omega) (d:=d) u (fun i x y hx hy=>v x (aM hx) (ok.c x (aM hx)) (fi.k y (aM hy)) (by
  have h1:=lq (f:=Dv.nN) (aM hy);omega)) _ 0 rfl (by omega)
 unfold jc;rw[g467L0e]at A;rw[g467L1e]at B;simp[Mc.cx,q,g,Ex.cl]at A;simp[Mc.cx,g]at B;simp at o k2;cases b with
 |true=>
  refine⟨e.pos,true,?_,fun h=>by cases h⟩;rw[aC g467];simp[g467,Mc.sh,Mc.tk,Mc.cells,o,g467L0e,A,q,g]
 |false=>
  rcases B with⟨p,B⟩|⟨⟨j,B⟩,w⟩
  .refine⟨p,true,?_,fun h=>by cases h⟩;rw[aC g467];simp[g467,Mc.sh,Mc.tk,Mc.cells,o,g467L0e,A,k2,g467L1e,B,q,g]
  .refine⟨0,false,?_,fun _=>?_⟩
   rotate_left
   .obtain⟨h1,h2⟩:=E rfl;rw[zbg]at h1;exact .mk ⟨r,by omega,z (by omega)⟩ (by simpa using h2) fun i x y hx hy=>w i x y hx hy
   clear w;rw[aC g467];simp[g467,Mc.sh,Mc.tk,Mc.cells,o,g467L0e,A,k2,g467L1e,B,q,g]
def EK:∀{V:List Int}{i:Nat},((bh i V).any fun a=>a.id == w)=decide (w∈V)
 |[],_=>by simp[bh]
 |a::r,i=>by
  simp only[bh,zbU,EK (V:=r)];rw[za0];simp only[zbo,zb7,zaS,zah];exact⟨fun h=>h.imp Eq.symm id,fun h=>h.imp Eq.symm id⟩
def EL:∀{i:Nat},bh i (V++g)=bh i V++bh (i+V.length) g:=by
 induction V with
 |nil=>intro i;simp[bh]
 |cons a r b=>
  intro i;simp only[za2,bh,b,zay];rw[show i+1+r.length=i+(r.length+1) by omega]
def Nu:bh 0 (V++[w])=bh 0 V++[⟨w,az V.length⟩]:=by
 rw[EL];simp[bh]
variable{N:List As}
def Xi{m:Mc}(hN:N.length<=2000000)(hw:v[B]?=some w):∀(n k:Nat),N.length-k=n->k<=N.length->∀b:Bool,∃e:Bool,(e=(b || (N.drop k).any fun a=>a.id == w))/\
   cl AP g468L1 ⟨[(7,.pv (.ae (v.map vI))),(8,.own (N.map As.pv) 0),(9,.pv (vI B)),(10,.pv (.bool b)),(11,.pv (vI k))],[],[some (m.cx 1)],[N.length,m.rc.length,m.hd.length]⟩=
     some (.exit 2,⟨[(7,.pv (.ae (v.map vI))),(8,.own (N.map As.pv) 0),(9,.pv (vI B)),(10,.pv (.bool e)),(11,.pv (vI N.length)),(29,.pv (.bool false))],[],[some (m.cx 1)],[N.length,m.rc.length,m.hd.length]⟩)
 |0,k,hn,d,b=>by
  have:k=N.length:=by omega
  subst this;refine⟨b,by simp,?_⟩;rw[g468L1e];simp[g468B1,Mc.cx]
 |n+1,k,hn,d,b=>by
  have d:k<N.length:=(by omega);obtain⟨a,f⟩:=aR d;have hi:=(zaa.1 hw).1;obtain⟨e,g,c⟩:=Xi (m:=m) hN hw n (k+1) (by omega) (by omega) (b || (a.id == w));refine⟨e,by rw[g,aZ f,zbU,Bool.or_assoc],?_⟩;clear g;rw[g468L1e]at c⊢;cases b with
  |true=>
   simp[Mc.cx]at c;simp(disch:=omega)[-getElem?_pos,g468B1,Mc.cx,d,f,hi,hw,aq];rw[g468L1e];simp[c]
  |false=>
   simp[Mc.cx]at c;simp(disch:=omega)[-getElem?_pos,g468B1,Mc.cx,d,f,hi,hw,aq];rw[g468L1e];simp[c]
def R5{m:Mc}(t:v.length<=1000000):∀(n i:Nat),v.length-i=n->i<=v.length->∀V:List Int,V.length<=1000000+i->V.Nodup->∃V':List Int,V'.length<=2000000/\V'.Nodup/\(∃X,V'=V++X)/\(∀w∈v.drop i,w∈V')/\(∀w∈V',w∈V\/w∈v)/\
   cl AP g468L0 ⟨[(7,.pv (.ae (v.map vI))),(8,.own ((bh 0 V).map As.pv) 0),(9,.pv (vI i))],[],[some (m.cx 1)],[V.length,m.rc.length,m.hd.length]⟩=
     some (.exit 0,⟨[(7,.pv (.ae (v.map vI))),(8,.own ((bh 0 V').map As.pv) 0),(9,.pv (vI v.length)),(23,.pv (.bool false))],[],[some (m.cx 1)],[V'.length,m.rc.length,m.hd.length]⟩)
 |0,i,hn,hi,V,hN,j=>by
  have:i=v.length:=by omega
  subst this;have cl:=dF (i:=0) (l:=V);refine⟨V,by omega,j,⟨[],by simp⟩,by simp,fun w h=>.inl h,?_⟩;rw[g468L0e];simp[g468B0,Mc.cx,cl]
 |n+1,i,hn,hi,V,hN,j=>by
  have hi:i<v.length:=(by omega);obtain⟨w,hw⟩:=aR hi;have cl:=dF (i:=0) (l:=V);obtain⟨b,k,L⟩:=Xi (m:=m) (N:=bh 0 V) (by omega) hw _ 0 rfl (by omega) false;rw[zar,zcu]at k;have d:b=true<->w∈V:=(by rw[k,EK];simp);have x:(V.length+1)*72<=140737488355328:=(by omega);have s:=c63 (n:=(V.length:Int));cases b with
  |true=>
   obtain⟨V',r,q,⟨X,g⟩,p,o,f⟩:=R5 (m:=m) t n (i+1) (by omega) (by omega) V (by omega) j;refine⟨V',r,q,⟨X,g⟩,?_,o,?_⟩
   .rw[aZ hw];intro y hy;rcases zah.1 hy with rfl|hy
    .rw[g];exact zbM _ (d.1 rfl)
    .exact p y hy
   clear k d;rw[g468L0e]at f⊢;rw[g468L1e]at L;simp[Mc.cx,cl]at f L;simp(disch:=omega)[-getElem?_pos,g468B0,Mc.cx,hi,hw,aq,cl];rw[g468L1e];simp(disch:=omega)[L,aq,cl];rw[g468L0e];simp[f,cl]
  |false=>
   obtain⟨V',r,q,⟨X,g⟩,p,o,f⟩:=R5 (m:=m) t n (i+1) (by omega) (by omega) (V++[w]) (by simp;omega) (by
    rw[zcr];refine⟨j,by simp,fun a z c u e=>?_⟩;simp at u;subst u;subst e;have:=d.2 z;simp at this)
   refine⟨V',r,q,⟨w::X,by rw[g];simp⟩,?_,fun y hy=>?_,?_⟩
   rotate_left
   .rcases o y hy with h|h
    .rcases zae.1 h with h|h
     .exact .inl h
     .simp at h;rw[h];exact .inr (aM hw)
    .exact .inr h
   rotate_left
   .rw[aZ hw];intro y hy;rcases zah.1 hy with rfl|hy
    .rw[g];simp
    .exact p y hy
   rw[Nu]at f;clear k d;rw[g468L0e]at f⊢;rw[g468L1e]at L;simp[Mc.cx,az,cl]at f L;simp at s;simp(disch:=omega)[-getElem?_pos,g468B0,Mc.cx,hi,hw,aq,cl];rw[g468L1e];simp(disch:=omega)[-getElem?_pos,L,hi,hw,s,x,aq,cl];rw[g468L0e];simp[f,cl]
def c468x(I:qF B m.s)(hn:B<=1000000)(hN:V.length<=1000000)(r:V.Nodup){l:List Ty}(hl:l.length<=30000000)(hf:∀t∈l,eg B t):
   ∃V':List Int,V'.length<=2000000/\V'.Nodup/\(∃X,V'=V++X)/\(∀t∈l,∀w,RT m.s.sl t w->¬jR m.s.sl w->w∈V')/\(∀w∈V',w∈V\/(w∈(mC B).ids/\¬jR m.s.sl w))/\(aE AP).i 468 [.aL 0 0,.pv (.ae ((bh 0 V).map As.pv)),.pv (.ae (l.map Ty.pv))] m.sh m.tk=some ([.own ((bh 0 V').map As.pv) 0],[some (m.cx 1)],[V'.length,m.rc.length,m.hd.length]):=by
 obtain⟨v,c,vC,e⟩:=c372 (s:=m.s) (S:=(mC B).ids) (by rw[I.len];exact hn) I.rz I.ok I.gZ (Uh hn).ym (l:=l) (by unfold Sm;omega) (fun t ht=>(hf t ht).ok) (fun t ht=>(hf t ht).gZ)
 have d:v.length<=1000000:=by
  have:=fh vC.nodup vC.sub;simp[mC,eL]at this;omega
 obtain⟨V',p,o,k,j,g,L⟩:=R5 (m:=m) d _ 0 rfl (by omega) V (by omega) r;refine⟨V',p,o,k,fun t ht w hr b=>j w (by rw[zar];exact(e w).2 ⟨t,ht,hr,b⟩),fun w hw=>(g w hw).imp id fun h=>⟨vC.sub w h,by obtain⟨_,_,_,b⟩:=(e w).1 h;exact b⟩,?_⟩;have cl:=dF (i:=0) (l:=V);have a:=dF (i:=0) (l:=V');have b:V.length*72<=140737488355328:=by omega
 have q:=aav.head (bh 0 V);rw[g468L0e]at L;simp[Mc.cx,cl,a]at L;simp at c;rw[aC g468];by_cases z:V=[]
 .subst z;simp[bh]at L;simp[g468,Mc.sh,Mc.tk,Mc.cells,Mc.cx,c,bh,g468L0e,L,a]
 .have f:bh 0 V≠[]:=fun h=>z (zba.1 (by rw[<-cl,h];rfl));generalize bh 0 V=N at*;simp[g468,Mc.sh,Mc.tk,Mc.cells,Mc.cx,c,b,q,f,cl,a,g468L0e,L]
def Xj(hN:σ.length<=2000000)(e:g.length<=1000):∀(n i:Nat),g.length-i=n->i<=g.length->∀acc:List Int,acc.length=i->
   cl AP g480L0 ⟨[(0,.pv (.ae (g.map vI))),(1,.pv (.ae (σ.map As.pv))),(5,.own (acc.map vI) 0),(6,.pv (vI i))],[],[],[acc.length]⟩=
     some (.exit 0,⟨[(0,.pv (.ae (g.map vI))),(1,.pv (.ae (σ.map As.pv))),(5,.own ((acc++(g.drop i).map fun w=>((az w).sub σ).id).map vI) 0),(6,.pv (vI g.length)),(10,.pv (.bool false))],[],[],[g.length]⟩)
 |0,i,hn,hi,acc,c=>by
  have:i=g.length:=by omega
  subst this;rw[g480L0e];simp[g480B0,c]
 |n+1,i,hn,hi,acc,c=>by
  have hi:i<g.length:=(by omega);obtain⟨w,hw⟩:=aR hi;have b:=c63 (n:=w);have k2:=c46 (s:=σ) (by unfold Sm;omega) (t:=Ty.mk 1 [] w 0 []) (bw rfl);have a:=Xj hN e n (i+1) (by omega) (by omega) (acc++[((Ty.mk 1 [] w 0 []).sub σ).id]) (by simp;omega);rw[aZ hw,zan];have ev:az w=Ty.mk 1 [] w 0 []:=rfl;rw[ev];have f:(acc.length+1)*8<=140737488355328:=(by omega);have d:bj 1 (acc.map vI)=true:=gL.head acc;generalize (Ty.mk 1 [] w 0 []).sub σ=u at*;rw[g480L0e]at a⊢;simp at a;simp at b k2;simp(disch:=omega)[-getElem?_pos,g480B0,hi,hw,b,k2,f,d,aq];rw[g480L0e];simp[a]
def c480x(hN:s.length<=2000000)(a:g.length<=1000):(aE AP).p 480 [.ae (g.map vI),.ae (s.map As.pv)]=some [.ae ((g.map fun w=>((az w).sub s).id).map vI)]:=by
 have L:=Xj hN a _ 0 rfl (by omega) [] rfl;rw[zar,zaQ]at L;generalize (g.map fun w=>((az w).sub s).id)=g' at*;rw[g480L0e]at L;simp at L;rw[aB g480];simp[g480,g480L0e,L]
def Kd(hF:∀w∈V,R w=(az w).sub (bh 0 V))(c:u.Kw):(∀w,cf u w->w∈V)->u.sub (bh 0 V)=u.ev R:=by
 induction c with
 | @mk u h1 h2 h3 a=>
  intro h;rw[Ty.sub_eq,Ty.bE];by_cases k:u.kind=1
  .rw[zai k,zai k,hF _ (h _ (.var k))];obtain⟨x,hx⟩:=BA (i:=0) (h _ (.var k));rw[hx,Ty.sub_eq,zai (by rfl)];show _=(cR (bh 0 V) u.id).getD _;rw[hx];rfl
  .rw[zad k,zad k];congr 1;exact zaP fun x hx=>a x hx fun w b=>h w (.arg k hx b)
def c333f{n:Nat}(I:qF n m.s)(hn:n<=1000000)(hV:V.length<=2000000)(hS:Sat R m.s.sl)(hF:∀w∈V,R w=(az w).sub (bh 0 V)){E:Ty}(y:eg n E)(hr:Sm4 m E)(B:∀w,RT m.s.sl E w->¬jR m.s.sl w->w∈V):
   jc 333 [.pv E.pv,.pv (.ae ((bh 0 V).map As.pv))] m [Ej (E.ev R)] m/\TyF (E.ev R):=by
 have c:Sm m.s.sl:=by unfold Sm;rw[I.len];omega
 obtain⟨z,A,hT⟩:=hr;obtain⟨u,o,f,D,b⟩:=c358y c I.ok y.ok hT A;have g:=b.kw I.wf y.wf;have d:=b.gZ I.rz;have e:u.sub (bh 0 V)=E.ev R:=by rw[Kd hF g fun w p=>B w ((d w).1 p).1 ((d w).1 p).2,IA hS b]
 have cl:=dF (i:=0) (l:=V);have k2:=c46 (s:=bh 0 V) (by unfold Sm;omega) f
 have v:∀i x,cR (bh 0 V) i=some x->∃k:Int,x=az k:=by
  intro i x hx;obtain⟨j,h,_⟩:=nr hx;exact⟨_,h⟩
 rw[<-e];refine⟨?_,⟨qk (fun a C=>Bl a C) f,?_,?_⟩⟩
 .unfold jc;generalize u.sub (bh 0 V)=w at*;generalize bh 0 V=N at*;simp at o k2;rw[aC g333];simp[g333,Mc.sh,Mc.tk,Mc.cells,o,k2,Ej]
 .refine oz (K:=KS) g (fun k q _=>q) ?_ (.inl (by simp));intro i x hx;obtain⟨k,rfl⟩:=v i x hx;exact jd
 .refine zaI (vk (fun i x hx=>?_) u) (by omega);obtain⟨k,rfl⟩:=v i x hx;rw[Ty.aI];simp[az]
def Xk{r:Int->Ty}(hN:s.length<=2000000)(e:d.inst.length<=200)(hf:∀t∈d.inst,jc 333 [.pv t.pv,.pv (.ae (s.map As.pv))] m [Ej (t.ev r)] m){u:Ty}{g:List Int}:∀(k i:Nat),d.inst.length-i=k->i<=d.inst.length->∀acc:List Ty,acc.length=i->
   cl AP g470L0 ⟨[(0,.aL 0 0),(2,.pv (.ae (s.map As.pv))),(4,.au 4 0),(6,.au 6 0),(7,.au 7 0),(8,.pv (vI i))],[(4,d.cells.map .pv),(6,zD 0),(7,f7 u acc g [])],[some (m.cx 6)],[0,0,0,0,acc.length,0,m.rc.length,m.hd.length]⟩=
     some (.exit 0,⟨[(0,.aL 0 0),(2,.pv (.ae (s.map As.pv))),(4,.au 4 0),(6,.au 6 0),(7,.au 7 0),(8,.pv (vI d.inst.length)),(24,.pv (.bool false))],[(4,d.cells.map .pv),(6,zD 0),(7,f7 u (acc++(d.inst.drop i).map (Ty.ev r)) g [])],[some (m.cx 6)],[0,0,0,0,d.inst.length,0,m.rc.length,m.hd.length]⟩)
 |0,i,h,hi,acc,f=>by
  have:i=d.inst.length:=by omega
  subst this;have a:=Dv.aG d;rw[g470L0e];simp[g470B0,zD,f7,Mc.cx,a,f]
 |k+1,i,h,hi,acc,f=>by
  have hi:i<d.inst.length:=(by omega);obtain⟨t,hx⟩:=aR hi;have a:=Dv.aG d;have b:=hf t (aM hx);have c:=Xk hN e hf (u:=u) (g:=g) k (i+1) (by omega) (by omega) (acc++[t.ev r]) (by simp;omega);rw[aZ hx,zan];generalize t.ev r=w at*;have j:(acc.length+1)*64<=140737488355328:=(by omega);unfold jc at b;rw[g470L0e]at c⊢;simp[zD,f7,Mc.cx,a]at c;simp[Mc.sh,Mc.tk,Mc.cells,Ej]at b;simp(disch:=omega)[-getElem?_pos,g470B0,zD,f7,Mc.cx,a,hi,hx,b,j,aq,aU];rw[g470L0e];simp[c]
def Xl{r:Int->Ty}{m:Mc}(s:d.kids.length<=1000)(w:∀x∈d.kids,∃a b c k:Bool,jc 470 [.pv x.pv,.pv (.ae (N.map As.pv))] m [.agg (mD a b c k (x.ev r))] m){u:Ty}{us:List Ty}{g:List Int}:∀(k i:Nat),d.kids.length-i=k->i<=d.kids.length->∀acc:List Dv,acc.length=i->
   cl AP g470L1 ⟨[(0,.aL 0 0),(2,.pv (.ae (N.map As.pv))),(4,.au 4 0),(6,.au 6 0),(7,.au 7 0),(9,.pv (vI i))],[(4,d.cells.map .pv),(6,zD 0),(7,f7 u us g acc)],[some (m.cx 6)],[0,0,0,0,us.length,acc.length,m.rc.length,m.hd.length]⟩=
     some (.exit 2,⟨[(0,.aL 0 0),(2,.pv (.ae (N.map As.pv))),(4,.au 4 0),(6,.au 6 0),(7,.au 7 0),(9,.pv (vI d.kids.length)),(44,.pv (.bool false))],[(4,d.cells.map .pv),(6,zD 0),(7,f7 u us g (acc++(d.kids.drop i).map (Dv.ev r)))],[some (m.cx 6)],[0,0,0,0,us.length,d.kids.length,m.rc.length,m.hd.length]⟩)
 |0,i,A,hi,acc,t=>by
  have:i=d.kids.length:=by omega
  subst this;have o:=Dv.aG d;rw[g470L1e];simp[g470B1,zD,f7,Mc.cx,o,t]
 |k+1,i,A,hi,acc,t=>by
  have hi:i<d.kids.length:=(by omega);obtain⟨x,hx⟩:=aR hi;have o:=Dv.aG d;obtain⟨f1,f2,f3,v,p⟩:=w x (aM hx);have q:=Xl (m:=m) s w (u:=u) (us:=us) (g:=g) k (i+1) (by omega) (by omega) (acc++[x.ev r]) (by simp;omega);rw[aZ hx,zan];generalize x.ev r=y at*;have B:(acc.length+1)*136<=140737488355328:=(by omega);have D:=iH f1 f2 f3 v y;generalize mD f1 f2 f3 v y=C at*;have z:=Dv.aG y;have j:=D.len;have e:=D.leaf;have l:=D.eQ;have h:=D.flat;have n:=D.pO;have f:=D.kill;unfold jc at p;rw[g470L1e]at q⊢;simp[zD,f7,Mc.cx,o]at q;simp[Mc.sh,Mc.tk,Mc.cells]at p;simp(disch:=omega)[-getElem?_pos,g470B1,zD,f7,Mc.cx,o,hi,hx,p,B,aq,aU,j,e,l,h,n,f,z];rw[g470L1e];simp[q]
def Zu{N:Nat}(h:d.Fi N):(d.ev R).nN=d.nN:=by
 induction h with
 | @mk d _ _ _ _ _ a=>
  rw[Dv.bE,Dv.lB,Dv.lB d];simp only[zbd];congr 2;exact zaP fun x hx=>a x hx
def c470x{r:Int->Ty}{n:Nat}(hN:N.length<=2000000)(h:d.Fi n):∀e:Ex,d.nN<=1000->d.Gd m.s.sl e->d.Al (fun t=>jc 333 [.pv t.pv,.pv (.ae (N.map As.pv))] m [Ej (t.ev r)] m/\TyF (t.ev r)) e->(∀g∈d.jF,((az g).sub N).id=(r g).id)->
   (∃a b c k:Bool,jc 470 [.pv d.pv,.pv (.ae (N.map As.pv))] m [.agg (mD a b c k (d.ev r))] m)/\(d.ev r).Fo:=by
 induction h with
 | @mk d h1 h2 h3 h4 h5 H=>
  intro e I o K j;cases o with
  |mk _ _ C _ q=>
  cases K with
  |mk F E L=>
  have J:=d.Kc
  have G:∀x∈d.kids,(∃a b c k:Bool,jc 470 [.pv x.pv,.pv (.ae (N.map As.pv))] m [.agg (mD a b c k (x.ev r))] m)/\(x.ev r).Fo:=by
   intro x hx;obtain⟨i,hi⟩:=zaY hx;have hl:=(zaa.1 hi).1;obtain⟨y,hy⟩:=aR (l:=e.ch) (i:=i) (by omega);refine H x hx y (by have:=Dv.pn hx;omega) (q i y x hy hi) (L i y x hy hi) fun g o=>j g ?_
   rw[Dv.jf,zae,zaf];exact .inr ⟨x,hx,o⟩
  have z:(d.gen.map fun w=>((az w).sub N).id)=d.gen.map fun v=>(r v).id:=zaP fun g o=>j g (by rw[Dv.jf,zae];exact .inl o);refine⟨⟨false,false,false,false,?_⟩,?_⟩
  .have p:=F.1;have k2:=c480x hN h4;rw[z]at k2;have D:=Dv.aG d;have A:=Xk (r:=r) (m:=m) hN h3 (fun t ht=>(E t ht).1) (u:=d.ty.ev r) (g:=d.gen.map fun v=>(r v).id) _ 0 rfl (by omega) [] rfl;have B:=Xl (r:=r) (m:=m) (N:=N) (d:=d) (by omega) (fun x hx=>(G x hx).1) (u:=d.ty.ev r) (us:=d.inst.map (Ty.ev r)) (g:=d.gen.map fun v=>(r v).id) _ 0 rfl (by omega) [] rfl;rw[zar,zaQ]at A B;rw[Dv.bE];have il:=zaD (f:=Ty.ev r) (as:=d.inst);have kl:=zaD (f:=Dv.ev r) (as:=d.kids);generalize d.ty.ev r=u at*;generalize d.inst.map (Ty.ev r)=us at*;generalize d.kids.map (Dv.ev r)=ks at*;generalize (d.gen.map fun v=>(r v).id)=g' at*;unfold jc at p;simp[Mc.sh,Mc.tk,Mc.cells,Ej]at p
   try simp at k2
   rw[g470L0e]at A;rw[g470L1e]at B;simp[zD,f7,Mc.cx,D,il]at A B;unfold jc;rw[aC g470];simp[g470,Mc.sh,Mc.tk,Mc.cells,p,k2,D,g470L0e,A,g470L1e,B,mD,ib,il,kl]
  .rw[Dv.bE];refine .mk F.2 (fun t ht=>?_) (by simpa using h3) (by simpa using h4) (by simp only[zaD];omega) fun x hx=>?_
   .simp only[zak]at ht;obtain⟨y,hy,rfl⟩:=ht;exact(E y hy).2
   .simp only[zak]at hx;obtain⟨y,hy,rfl⟩:=hx;exact(G y hy).2
def dvZ:Dv:=⟨cA,[],[],[]⟩
def Vx(h:∀t,P t->Q t)(a:d.Al P e):d.Al Q e:=by
 induction a with
 |mk h1 h2 _ b=>exact .mk (h _ h1) (fun t ht=>h t (h2 t ht)) b
def Zv(a:d.Al P e):d.Al Q e->d.Al (fun t=>P t/\Q t) e:=by
 induction a with
 |mk h1 h2 _ h=>
  intro b;cases b with
  |mk g f c=>exact .mk ⟨h1,g⟩ (fun t ht=>⟨h2 t ht,f t ht⟩) fun i x y hx hy=>h i x y hx hy (c i x y hx hy)
def Zw(g:d.Gd G e):(∀t∈d.kf,P t)->d.Al P e:=by
 induction g with
 | @mk e d h1 h2 h3 h4 h5 a=>
  intro h;rw[Dv.sY]at h;refine .mk (h _ (by simp)) (fun t ht=>h t (by simp[ht])) fun i x y hx hy=>a i x y hx hy fun t ht=>h t ?_;simp only[zae,zaf];exact .inr ⟨y,aM hy,ht⟩
def Zx(g:d.Gd G e):∀w∈d.jF,∃t∈d.kf,RT G t w:=by
 induction g with
 | @mk e d h1 h2 h3 h4 h5 a=>
  intro w hw;rw[Dv.jf,zae,zaf]at hw;rw[Dv.sY];rcases hw with hw|⟨y,hy,hw⟩
  .obtain⟨y,hy,q⟩:=h4 w hw;refine⟨y.ty,?_,q⟩;simp only[zae,zaf];exact .inr ⟨y,hy,by rw[Dv.sY];simp⟩
  .obtain⟨i,hi⟩:=zaY hy;have hl:=(zaa.1 hi).1;obtain⟨x,hx⟩:=aR (l:=e.ch) (i:=i) (by omega);obtain⟨t,ht,q⟩:=a i x y hx hi w hw;refine⟨t,?_,q⟩;simp only[zae,zaf];exact .inr ⟨y,hy,ht⟩
def Vy(t:Ty):(∀w,cf t w->w∈V)->t.sub (bh 0 V++s)=t.sub (bh 0 V):=by
 refine Ty.cb (p:=fun t=>(∀w,cf t w->w∈V)->t.sub (bh 0 V++s)=t.sub (bh 0 V)) ?_ t;intro t b h;rw[Ty.sub_eq,Ty.sub_eq (bh 0 V) t];by_cases k:t.kind=1
 .rw[zai k,zai k]
  have:∀l:List As,(∃x,cR l t.id=some x)->cR (l++s) t.id=cR l t.id:=by
   intro l;induction l with
   |nil=>rintro⟨x,hx⟩;simp[cR]at hx
   |cons a r b=>
    intro hx;simp only[za2,cR]at hx⊢;split
    .rfl
    .rename_i q;rw[zad q]at hx;exact b hx
  rw[this _ (BA (h _ (.var k)))]
 .rw[zad k,zad k];congr 1;exact zaP fun x hx=>b x hx fun w c=>h w (.arg k hx c)
def Vz(hn:V.Nodup){w':Int}:∀{i:Nat},cR (bh i V) w=some u->cR (bh i V) w'=some u->w=w':=by
 induction V with
 |nil=>intro i h;simp[bh,cR]at h
 |cons a r b=>
  intro i h h';obtain⟨h0,hr⟩:=zcn.1 hn;simp only[bh,cR]at h h';split at h
  .rename_i e1;split at h'
   .rename_i e2;rw[<-e1,<-e2]
   .cases h
    obtain⟨j,e,_⟩:=nr h';simp[az]at e;omega
  .split at h'
   .cases h'
    obtain⟨j,e,_⟩:=nr h;simp[az]at e;omega
   .exact b hr h h'
structure Nv(s:List Sl)(n:Nat)(V:List Int)(r:Int->Ty):Prop where
 sat:Sat r s
 q:∀w,VQ (r w)
 v:∀w∈V,¬jR s w->r w=(az w).sub (bh 0 V)
 u:∀w,¬jR s w->r w=az (r w).id
 inj:∀w w':Int,0<=w->w<n->0<=w'->w'<n->¬jR s w->¬jR s w'->(r w).id=(r w').id->w=w'
def VA{n:Nat}{s:cK}(I:qF n s)(q:nI tW s.sl)(hV:V.Nodup)(hl:V.length+n<=900000):∃r,Nv s.sl n V r:=by
 let b:Int->Ty:=fun v=>match cR (bh 0 V) v with|some x=>x|none=>if 0<=v/\v<n then az (V.length+v)else az 0
 have l:∀v,∃k:Int,b v=az k/\0<=k/\k<=1000000:=by
  intro v;show ∃k:Int,(match cR (bh 0 V) v with|some x=>x|none=>if 0<=v/\v<n then az (V.length+v)else az 0)=az k/\_;cases e:cR (bh 0 V) v with
  |some x=>
   obtain⟨j,h1,h2⟩:=nr e;have:=(zaa.1 h2).1;exact⟨_,h1,by omega,by omega⟩
  |none=>
   simp only;split
   .exact⟨_,rfl,by omega,by omega⟩
   .exact⟨0,rfl,by omega,by omega⟩
 obtain⟨r,h1,h2,h3⟩:=Zr I.rz b (Q:=VQ) (fun v=>by obtain⟨k,e,a,c⟩:=l v;rw[e];exact RV a c) fun x hx g r hr=>by
  obtain⟨i,hi⟩:=zaY hx;exact RW hr (I.wf x hx) (q i x hi g trivial).2
 refine⟨r,h1,h3,fun w hw hn=>?_,fun w hn=>?_,fun w w' y u b0 b1 hn f t=>?_⟩
 .rw[h2 w hn];obtain⟨x,hx⟩:=BA (i:=0) hw;show(match cR (bh 0 V) w with|some x=>x|none=>if 0<=w/\w<n then az (V.length+w)else az 0)=_;rw[hx];show x=(az w).sub (bh 0 V);rw[Ty.sub_eq,zai (by rfl)];show x=(cR (bh 0 V) w).getD _;rw[hx];rfl
 .rw[h2 w hn];obtain⟨k,e,_⟩:=l w;rw[e];rfl
 .rw[h2 w hn,h2 w' f]at t
  have key:∀v:Int,0<=v->v<n->(∃j:Nat,cR (bh 0 V) v=some (az (j:Int))/\(b v).id=j/\j<V.length)\/(cR (bh 0 V) v=none/\(b v).id=V.length+v):=by
   intro v h0 p;have d:b v=match cR (bh 0 V) v with|some x=>x|none=>if 0<=v/\v<n then az (V.length+v)else az 0:=rfl
   cases e:cR (bh 0 V) v with
   |some x=>
    obtain⟨j,h1,h2⟩:=nr e;have:=(zaa.1 h2).1;rw[zbK]at h1;refine .inl ⟨j,by rw[h1],?_,this⟩;rw[d,e,h1];rfl
   |none=>
    refine .inr ⟨rfl,?_⟩;rw[d,e];simp only;rw[zai ⟨h0,p⟩];rfl
  rcases key w y u with⟨j,p1,p2,p3⟩|⟨p1,p2⟩<;>rcases key w' b0 b1 with⟨o,h,m,z⟩|⟨h,m⟩
  .have:j=o:=by omega
   subst this;exact Vz hV p1 h
  .omega
  .omega
  .omega
theorem c450w{ds:List Dt}(hD:lX ds){n:Nat}(Q:IW n e)(hA:ES e):
   (∃(s:PV)(t:Ty)(h:PV)(d:Dv)(F G:Int×Int),(aE AP).p 457 [.ae (ds.map Dt.pv),.ae (ct.map En.pv),vI home,e.pv]=some [s,t.pv,h,.agg [vI F.1,vI F.2]]/\(aE AP).p 450 [.ae (ds.map Dt.pv),.ae (ct.map En.pv),vI home,e.pv]=some [d.pv,.agg [vI G.1,vI G.2]]/\(F.1≠0\/G.1≠0))\/
   ∃(m:Mc)(n':Nat)(d:Dv)(V:List Int)(r:Int->Ty)(t:Ty)(h:List Ho),(aE AP).p 457 [.ae (ds.map Dt.pv),.ae (ct.map En.pv),vI home,e.pv]=some [.ae ([⟨0,r 0⟩,⟨1,r 1⟩].map As.pv),t.pv,.ae (h.map Ho.pv),.agg [vI 0,vI 0]]/\
     (aE AP).p 450 [.ae (ds.map Dt.pv),.ae (ct.map En.pv),vI home,e.pv]=some [(d.ev r).pv,.agg [vI 0,vI 0]]/\
     (e.bW ds (ct.map En.name)).1=0/\Nt ds home e m n' d/\m.err=0/\Nv m.s.sl n' V r/\(d.ev r).Fo/\d.nN<=1000/\(r 0).nodes.length<=200/\(r 1).nodes.length<=200/\(r 0).Ok/\(r 1).Ok:=by
 rcases c457w hD (home:=home) Q with⟨t,F,a,hF⟩|⟨m,n',d,v,t,h,a,h0,N,ai,NV,ac,a5,a4⟩
 .refine .inl ⟨_,_,_,dvZ,F,F,a,?_,.inl hF⟩;simp at a;rw[aB g450];simp[g450,a,hF,dvZ,cA]
 .have k3:=c466w (ds:=ds) (home:=home);have ec:=Ex.aG e;obtain⟨f1,f2,f3,f4,k4⟩:=N.run;have R1:=(rP (ds:=ds) (home:=home) Q).step N.st (A':=0) (R':=0) (E':=0) (by omega) (by omega) (by omega);have U:=R1.n';have cc:=R1.rc;have ce:=R1.hd;have cg:=N.di.n;have hZ:=Q.sz;have c9:=N.st.up;have ci:=N.st.le;have ck:(mW ds home).home=home:=rfl;obtain⟨rs,_,S,VL⟩:=N.si.sn ai (RY Q.hl h0) hA
  have ba:nI tW (mW ds home).s.sl:=fun i x hx K _=>by
   rcases pg home (nE 0) 2 i x hx with q|q
   .simp[nE]at q
   .rw[q]at K;cases K
  obtain⟨g1,g2,_⟩:=VL ba (fun x hx=>(jv x (cd _ x hx)).2.2.2.1)
  have b6:∀g∈d.jF,¬jR m.s.sl g:=fun g hg=>by
   obtain⟨W',O,_,ho,b7,_⟩:=S (fun w=>0<=w/\w<2) (fun w h=>h) (fun i x hx K _=>by
    rcases pg home (nE 0) 2 i x hx with q|q
    .simp[nE]at q
    .rw[q]at K;cases K) (fun x hx=>⟨(jv x (cd _ x hx)).2.2.2.2,(jv x (cd _ x hx)).2.2.2.1⟩)
   obtain⟨o,b5,b4⟩:=(b7 g).1 hg;exact((ho o b5).2.2 g b4).2.2.1
  obtain⟨p,b,k5,ak⟩:=c467x R1.st U e Q.sc.ok N.di.f (by omega);have k7:=c356 (l:=m.rc) (by omega) fun h hh=>(R1.kB h hh).len
  have k8:=c357 (m:=m) ac NV.k;have k9:=c469 N.di.f (by omega);have b2:=fh NV.c.nodup NV.c.sub;have c5:v.length<=n':=(by simpa[mC,eL]using b2);obtain⟨V,an,al,⟨X,a0⟩,z,am,ab⟩:=c468x R1.st U (V:=v) ac NV.c.nodup (l:=d.kf) (by have:=N.di.f.kf.1;omega) N.di.f.kf.2;have D:=iH f1 f2 f3 f4 d;generalize mD f1 f2 f3 f4 d=C at*;have M:=D.len;have j:=D.leaf;have P:=D.eQ;have y:=D.flat;have R:=D.pO;have u:=D.kill;have dc:=Dv.aG d;have hf:∀S:Sh,eQ S (.au 17 0)=none:=fun _=>rfl
  have v0:=c63 (n:=(0:Int));have v1:=c63 (n:=(1:Int));have w1:IntKind.i64.wrap 1=1:=(by decide);have w2:IntKind.i64.wrap 2=2:=(by decide);simp at v0 v1;have kf:=l6.kf R1.kB;have b3:=lu (l:=m.rc) (fun h hh=>(R1.kB h hh).len);have c7:(aP m.rc).length<=100000*1000001:=zaI b3 (zaH _ (by omega));have bb:(3+(aP m.rc).length)*64<=140737488355328:=(by omega);have c4:((aP m.rc).length+3)*64<=140737488355328:=(by omega);have bO:((aP m.rc).length+1+1+1)*64<=140737488355328:=(by omega);have hh:=mo.head (aP m.rc);have bq:=dF (i:=0) (l:=v);have B:=k4;have A:=k5;unfold jc at B A;simp[mW,j_,m0,Mc.sh,Mc.tk,Mc.cells]at B;simp[mW,j_,m0,Mc.cx]at k3;simp[Mc.sh,Mc.tk,Mc.cells]at A;cases b with
  |true=>
   refine .inl ⟨_,_,_,dvZ,(0,0),(15,p),a,?_,.inr (by simp)⟩;simp at a;generalize ct.map En.pv=E at*;generalize (uz home (nE 0) 2)=s0 at*;rw[aB g450];simp[g450,a,k3,B,M,j,P,y,R,u,dc,hf,A,dvZ,cA]
  |false=>
   have a3:∀w∈V,w∈(mC n').ids/\¬jR m.s.sl w:=fun w hw=>by
    rcases am w hw with h|h
    .exact⟨NV.c.sub w h,by obtain⟨_,_,_,K⟩:=(NV.i w).1 h;exact K⟩
    .exact h
   have co:V.length<=n':=by
    have:=fh al fun w hw=>(a3 w hw).1;simpa[mC,eL]using this
   obtain⟨r,NR⟩:=VA (n:=n') R1.st g1 al (by omega);have hF:∀w∈V,r w=(az w).sub (bh 0 V):=fun w hw=>NR.v w hw (a3 w hw).2
   have ZS:d.Al (fun t=>jc 333 [.pv t.pv,.pv (.ae ((bh 0 V).map As.pv))] m [Ej (t.ev r)] m/\TyF (t.ev r)) e:=by
    have a1:=ak rfl;have a2:d.Al (fun t=>t∈d.kf) e:=Zw g2 fun t ht=>ht
    refine Vx (fun t ht=>?_) (Zv a1 a2);exact c333f R1.st U an NR.sat hF (N.di.f.kf.2 t ht.2) ht.1 (z t ht.2)
   have aj:∀g∈d.jF,((az g).sub (bh 0 V)).id=(r g).id:=fun g hg=>by
    obtain⟨t,ht,hr⟩:=Zx g2 g hg;have b8:=b6 g hg;rw[hF g (z t ht g hr b8)]
   obtain⟨⟨z1,z2,z3,z4,T⟩,b9⟩:=c470x (r:=r) (N:=bh 0 V) (by rw[dF];exact an) N.di.f e (by omega) g2 ZS aj
   have L:∀w,∀t∈[az 0,az 1],RT m.s.sl t w->¬jR m.s.sl w->w∈V:=fun w t ht hr K=>by
    rw[a0];refine zbM _ ((NV.i w).2 ⟨t,?_,hr,K⟩);simp at ht;rcases ht with rfl|rfl<;>simp
   have fin:∀k:Nat,k<2->J4 m.s (az k) (Ey m.s (az k))->mJ m v (az k)=r k/\(r k).nodes.length<=200/\(r k).Ok:=fun k hk rd=>by
    have uK:=rd.r.kw R1.st.wf jd;have uo:=rd.r.gZ R1.st.rz
    have e1:(Ey m.s (az k)).sub (bh 0 V)=r k:=by
     rw[Kd hF uK fun w ho=>L w (az k) (by
      have:k=0\/k=1:=by omega
      rcases this with rfl|rfl<;>simp) ((uo w).1 ho).1 ((uo w).1 ho).2,IA NR.sat rd.r,ry]
    have e2:mJ m v (az k)=(Ey m.s (az k)).sub (bh 0 V):=by
     unfold mJ;rw[a0,EL];refine(Vy _ fun w ho=>?_).symm;have:=(uo w).1 ho
     exact (NV.i w).2 ⟨az k,by
      have:k=0\/k=1:=by omega
      rcases this with rfl|rfl<;>simp,this.1,this.2⟩
    have rp:=RC (v:=v) R1.st.wf (jd.imp pL) rd;rw[e2,e1]at rp;exact⟨e2.trans e1,rp.n,rp.ok⟩
   obtain⟨y0,aO,ay⟩:=fin 0 (by omega) a5;obtain⟨y1,ax,ao⟩:=fin 1 (by omega) a4;have c8:=a;have be:mJ m v (az 0)=r 0:=y0;have bc:mJ m v (az 1)=r 1:=y1;rw[be,bc]at a;refine .inr ⟨m,n',d,V,r,t,h,a,?_,h0,N,ai,NR,b9,by omega,aO,ax,ay,ao⟩;clear fin ZS aj L hF z am a3 a0 NR NV a5 a4;have D':=iH z1 z2 z3 z4 (d.ev r);have bi:=Dv.aG (d.ev r);generalize d.ev r=d' at*;generalize mD z1 z2 z3 z4 d'=C' at*;have W:=D'.len;have H:=D'.leaf;have Y:=D'.eQ;have J:=D'.flat;have Z:=D'.pO;have I:=D'.kill;have tC:C'.take 8=C':=zaz (by omega);have bv:=dF (i:=0) (l:=V);unfold jc at T;generalize bh 0 v=N0 at*;generalize bh 0 V=N1 at*;simp[Mc.sh,Mc.tk,Mc.cells]at T;simp[Mc.sh,Mc.tk,Mc.cells,Mc.cx,az]at k7 k8 ab;simp at a k9;generalize ct.map En.pv=E at*;generalize (uz home (nE 0) 2)=s0 at*;rw[aB g450];simp[g450,a,k3,B,M,j,P,y,R,u,dc,hf,A];rw[g450L0e];simp[g450B0,v0,w1];rw[g450L0e];simp[g450B0,v1,w1,w2];rw[g450L0e];simp[g450B0,k7,bb,c4,bO,hh,k8,k9,bq,bv,ab,T,W,H,Y,J,Z,I,bi,tC]
structure xQ(B:Nat)(t:Ty):Prop where
 ok:t.Ok
 nm:t.Nm
 n:t.nodes.length<=B
inductive Dv.Ds (B I:Nat):Dv->Prop
 |mk {d:Dv}:xQ B d.ty->(∀t∈d.inst,xQ B t)->d.inst.length<=I->d.gen.length<=I+1000->d.kids.length<=1000->(∀x∈d.kids,x.Ds B I)->d.Ds B I
def xQ.up{C:Nat}(h:xQ B u)(a:B<=C):xQ C u:=⟨h.ok,h.nm,zaI h.n a⟩
def xR(h:u.Kn W):u.Nm:=by
 induction h with
 |mk _ hn _ a=>exact .mk (by unfold qE;omega) a
def Dv.Fo.ds(h:d.Fo):d.Ds 4000 200:=by
 induction h with
 |mk h1 h2 h3 h4 h5 _ a=>exact .mk ⟨h1.ok,xR h1.kn,h1.n⟩ (fun t ht=>⟨(h2 t ht).ok,xR (h2 t ht).kn,(h2 t ht).n⟩) h3 (by omega) h5 a
def Dv.Ds.sd(h:d.Ds B I)(b:B<=50000)(c:I<=1000):d.Sd/\d.Bd:=by
 induction h with
 |mk h1 h2 h3 h4 h5 _ a=>exact⟨.mk ⟨h1.ok,h1.nm⟩ (fun t ht=>⟨(h2 t ht).ok,(h2 t ht).nm⟩) (by omega) (by omega) h5 fun x hx=>(a x hx).1,.mk (zaI h1.n b) (fun t ht=>zaI (h2 t ht).n b) fun x hx=>(a x hx).2⟩
def Dv.Ds.jF(h:d.Ds B I):d.jF.length<=(I+1000)*d.nN:=by
 induction h with
 | @mk d _ _ _ h4 _ _ c=>
  rw[Dv.jf,Dv.lB]
  have key:∀l:List Dv,(∀x∈l,x.jF.length<=(I+1000)*x.nN)->(l.flatMap Dv.jF).length<=(I+1000)*(l.map Dv.nN).sum:=by
   intro l;induction l with
   |nil=>simp
   |cons a r b=>
    intro h;have f:=h a (by simp);have e:=b fun x hx=>h x (by simp[hx])
    simp only[zaq,zat,zan,zbT,zb9];omega
  have:=key d.kids c;rw[zat,zb9];omega
def ab1(h:d.kids.length<=100000)(hT:d.jF.length<=30000000)(g:∀x∈d.kids,(aE AP).p 471 [x.pv]=some [.ae (x.jF.map vI)]):∀(k i:Nat),d.kids.length-i=k->i<=d.kids.length->∀acc:List Int,acc++(d.kids.drop i).flatMap Dv.jF=d.jF->
   cl AP g471L0 ⟨[(1,.au 1 0),(3,.own (acc.map vI) 0),(4,.pv (vI i))],[(1,d.cells.map .pv)],[],[acc.length]⟩=
     some (.exit 0,⟨[(1,.au 1 0),(3,.own (d.jF.map vI) 0),(4,.pv (vI d.kids.length)),(12,.pv (.bool false))],[(1,d.cells.map .pv)],[],[d.jF.length]⟩)
 |0,i,hn,hi,acc,a=>by
  have:i=d.kids.length:=by omega
  subst this;have b:=Dv.aG d;rw[za9]at a;simp at a;rw[g471L0e];simp[g471B0,a,b]
 |k+1,i,hn,hi,acc,a=>by
  have hi:i<d.kids.length:=(by omega);obtain⟨x,hx⟩:=aR hi;have b:=Dv.aG d;have f:=g x (aM hx);rw[aZ hx,zaq,<-zaF]at a;have c:=ab1 h hT g k (i+1) (by omega) (by omega) (acc++x.jF) a
  have m:acc.length+x.jF.length<=30000000:=by
   have:=zcp List.length a;simp at this;omega
  have l:(acc.length+x.jF.length)*8<=140737488355328:=(by omega);have j:bj 1 (x.jF.map vI)=true:=gL.head x.jF;have e:bj 1 (acc.map vI)=true:=gL.head acc;rw[g471L0e]at c⊢;simp[b]at c
  try simp at f
  simp (disch:=omega) [-getElem?_pos,g471B0,hx,hi,aq,l,f,b,j,e];rw[g471L0e];simp[c]
def c471(h:d.Ds B I):(I+1000)*d.nN<=20000000->d.nN<=100000->(aE AP).p 471 [d.pv]=some [.ae (d.jF.map vI)]:=by
 induction h with
 | @mk d h1 h2 h3 h4 h5 h6 b=>
  intro i c;have ds:=Dv.Ds.mk h1 h2 h3 h4 h5 h6;have j:=ds.jF;have a:=Dv.aG d
  have L:=ab1 (d:=d) (by omega) (by omega) (fun x hx=>b x hx (by
   have:=Dv.pn hx;exact zaI (Nat.mul_le_mul_left _ (by omega)) i) (by have:=Dv.pn hx;omega)) _ 0 rfl (by omega) d.gen (by rw[zar,Dv.jf])
  have f:d.gen.length<=d.jF.length:=(by rw[Dv.jf];simp);have g:d.gen.length*8<=140737488355328:=(by omega);have e:bj 1 (d.gen.map vI)=true:=gL.head d.gen;rw[g471L0e]at L;simp[a]at L;rw[aB g471];by_cases z:d.gen=[]
  .simp[z]at L;simp[g471,a,z,g471L0e,L]
  .simp[g471,a,z,g,e,g471L0e,L]
def IJ(σ:List As)(r:Int->Ty):Int->Ty:=fun w=>(r w).sub σ
def BG(t:Ty):(t.ev R).sub σ=t.ev (IJ σ R):=by
 refine Ty.cb (p:=fun t=>(t.ev R).sub σ=t.ev (IJ σ R)) ?_ t;intro t a;by_cases k:t.kind=1
 .rw[gQ k,gQ k];rfl
 .rw[Ty.bE,zad k,Ty.sub_eq,zad (by exact k),Ty.bE,zad k];simp only[zbd];congr 1;exact zaP fun x hx=>a x hx
def VB(h:Sat R G):Sat (IJ σ R) G:=fun i x hx a=>by
 show (R i).sub σ=_;rw[h i x hx a,BG]
variable{v:Int}{N:Nat}
def R6(t:Ty):cf (t.sub σ) v->(cf t v/\cR σ v=none)\/∃a∈σ,cf a.ty v:=by
 refine Ty.cb (p:=fun t=>cf (t.sub σ) v->(cf t v/\cR σ v=none)\/∃a∈σ,cf a.ty v) ?_ t;intro t c h;rw[Ty.sub_eq]at h;by_cases k:t.kind=1
 .rw[zai k]at h;cases e:cR σ t.id with
  |some x=>
   rw[e,zaW]at h;obtain⟨a,b,rfl⟩:=eW e;exact .inr ⟨a,b,h⟩
  |none=>
   rw[e,zaT]at h;have:=da k h;subst this;exact .inl ⟨h,e⟩
 .rw[zad k]at h;cases h with
  |var q=>exact absurd q k
  |arg _ hm d=>
   simp only[zak]at hm;obtain⟨a,b,rfl⟩:=hm;exact(c a b d).imp (fun h=>⟨.arg k b h.1,h.2⟩) id
def R7(hs:∀a∈σ,VQ a.ty)(h:u.Kw):dx u=true->(∀y∈u.nodes,y.kind≠2/\y.kind≠5)->VQ (u.sub σ):=by
 induction h with
 | @mk u h1 h2 h3 m=>
  intro c hn;have hK:u.Kw:=.mk h1 h2 h3;rw[Ty.sub_eq];by_cases k:u.kind=1
  .rw[zai k];cases e:cR σ u.id with
   |some x=>
    obtain⟨a,b,rfl⟩:=eW e;exact hs a b
   |none=>exact⟨hK,c,hn⟩
  .rw[zad k];by_cases d:u.kind=4
   .have n:=c;rw[gf,zad (by omega),zad (by omega),zad (by omega),zai d]at c;simp only[zaj,zb7,zas]at c;obtain⟨⟨⟨l,j⟩,i⟩,g⟩:=c
    have f:∀x∈u.args.map (Ty.sub σ),VQ x:=by
     intro x hx;simp only[zak]at hx;obtain⟨a,b,rfl⟩:=hx;refine m a b (g a b) fun y hy=>hn y ?_;rw[Ty.aI,zah,zaf];exact .inr ⟨a,b,hy⟩
    refine⟨.mk (fun q=>absurd d q) h2 fun x hx=>(f x hx).kw,?_,?_⟩
    .rw[gf,zad (by simp only;omega),zad (by simp only;omega),zad (by simp only;omega),zai (by exact d)];simp only[zaj,zb7,zas,zaD];exact⟨⟨⟨l,j⟩,i⟩,fun x hx=>(f x hx).pl.1⟩
    .intro y hy;rw[Ty.aI]at hy;simp only[zah,zaf]at hy;rcases hy with rfl|⟨a,b,hy⟩
     .simp[d]
     .exact(f a b).pl.2 y hy
   .have e:u.args=[]:=(h1 d).2
    have:(⟨u.kind,u.name,u.id,u.home,u.args.map (Ty.sub σ)⟩:Ty)=u:=by
     rw[e];cases u;simp only at e;subst e;rfl
    rw[this];exact⟨hK,c,hn⟩
def VQ.sub(hs:∀a∈σ,VQ a.ty)(h:VQ u):VQ (u.sub σ):=R7 hs h.kw h.pl.1 h.pl.2
def Ke{k:Int}(t:Ty):(∀y∈t.nodes,y.kind≠k)->t.gC k=false:=by
 refine Ty.cb (p:=fun t=>(∀y∈t.nodes,y.kind≠k)->t.gC k=false) ?_ t;intro t a h;rw[Ty.o_,zbZ,zbl];refine⟨zaB (h t (by rw[Ty.aI];simp)),fun x hx=>?_⟩;rw[a x hx fun y hy=>h y (by rw[Ty.aI,zah,zaf];exact .inr ⟨x,hx,hy⟩)];simp
def VQ.plain(h:VQ u):iI u=true:=by
 unfold iI pP;rw[h.pl.1,Ke u fun y hy=>(h.pl.2 y hy).1,Ke u fun y hy=>(h.pl.2 y hy).2];rfl
def Zy(hr:∀v,VQ (R v))(g:d.Gd G e):(∀t∈d.kf,t.Kw)->Is e (d.ev R):=by
 induction g with
 | @mk e d h1 h2 h3 h4 h5 f=>
  intro b;rw[Dv.sY]at b;rw[Dv.bE];refine .mk (by simpa using h3) (RW hr (b _ (by simp)) h1).plain (fun t ht=>?_) fun p hp=>?_
  .simp only[zak]at ht;obtain⟨a,c,rfl⟩:=ht;exact(RW hr (b _ (by simp[c])) (h2 a c)).plain
  .obtain⟨i,hi⟩:=zaY hp;rw[zb4]at hi;obtain⟨hx,hy⟩:=hi;simp only[zbb,zac]at hy;obtain⟨y,hy,e1⟩:=hy;rw[<-e1];refine f i _ y hx hy fun t ht=>b t ?_;simp only[zae,zaf];exact .inr ⟨y,aM hy,ht⟩
def VC(N:Nv G B V R)(f:xS G)(hC:nI W G):∀w,W w->cf (R w) v->∃w',W w'/\¬jR G w'/\v=(R w').id:=by
 obtain⟨c,hr⟩:=f
 have key:∀k w,c w=k->W w->cf (R w) v->∃w',W w'/\¬jR G w'/\v=(R w').id:=by
  intro k;induction k using Nat.strongRecOn with
  |ind k d=>
   intro w j hw b;by_cases a:jR G w
   .obtain⟨i,x,rfl,hx,a⟩:=a;rw[N.sat i x hx a]at b;obtain⟨g,h1,h2⟩:=Rk _ _ b;have:=hr i g ⟨i,x,rfl,hx,a,h1⟩;exact d (c g) (by omega) g rfl ((hC i x hx a hw).1 g h1) h2
   .refine⟨w,hw,a,?_⟩;have e:=N.u w a;generalize h:(R w).id=q at*;rw[e]at b;exact da (t:=az q) rfl b
 exact fun w=>key _ w rfl
def Kf(N:Nv G B V R)(i:xS G)(h:Bs G W n0 B O):∀o∈O,JT R o:=fun o q=>by
 obtain⟨h1,h2,h3⟩:=h o q;refine⟨fun g c=>N.u g (h3 g c).2.2.1,fun g c g' f e=>?_,fun g c w hw d=>?_⟩
 .have a:=h3 g c;have b:=h3 g' f;exact N.inj g g' (by omega) a.2.1 (by omega) b.2.1 a.2.2.1 b.2.2.1 e
 .obtain⟨w',p1,p2,p3⟩:=VC N i h1 w hw d;have a:=h3 g c;have b:=h2 w' p1;have:=N.inj g w' (by omega) a.2.1 b.1 b.2 a.2.2.1 p2 p3;subst this;exact a.2.2.2.1 p1
structure SbQ(σ:List As):Prop where
 l:σ.length<=3
 q:∀a∈σ,VQ a.ty
 b:∀a∈σ,xQ 9 a.ty
 o:∀a∈σ,∀w,cf a.ty w->w=900\/w=901
def VD:(∀a∈σ,a.id≠v)->cR σ v=none:=by
 induction σ with
 |nil=>intro _;rfl
 |cons a r b=>
  intro h;simp only[cR];rw[zad (h a (by simp)),b fun x hx=>h x (by simp[hx])]
def Xm{g:Int}(e:R g=az (R g).id)(h:∀a∈σ,a.id≠(R g).id):IJ σ R g=R g:=by
 show (R g).sub σ=_;generalize b:(R g).id=q at*;rw[e,Ty.sub_eq,zai (by rfl)];show(cR σ q).getD _=_;rw[VD h];rfl
def VE(N:Nv G B V R)(f:xS G)(j:Bs G W n0 B O)(Q:SbQ σ)
   (i:∀o∈O,∀g∈o.2,(R g).id<900/\∀a∈σ,a.id≠(R g).id):∀o∈O,JT (IJ σ R) o:=fun o q=>by
 obtain⟨g1,g2,k⟩:=Kf N f j o q;have e:∀g∈o.2,IJ σ R g=R g:=fun g b=>Xm (g1 g b) (i o q g b).2
 refine⟨fun g b=>by rw[e g b];exact g1 g b,fun g b g' d h=>g2 g b g' d (by rwa [e g b,e g' d]at h),fun g b w hw c=>?_⟩;rw[e g b]at c;rcases R6 _ c with⟨h,_⟩|⟨a,f,h⟩
 .exact k g b w hw h
 .have:=Q.o a f _ h;have:=(i o q g b).1;omega
open Classical in
def VF{U:List Dt}{home:Int}{I:Nat}{e:Ex}(Q:IW I e)(B:ES e)(h0:(e.bW U (ct.map En.name)).1=0){m:Mc}{n':Nat}{d:Dv}(N:Nt U home e m n' d)(c:m.err=0):
   ∃(k:Nat)(W:Int->Prop)(O:List ((Int->Prop)×List Int)),Bs m.s.sl W 2 n' O/\JU d.jF O/\∀r:Int->Ty,(∀v,VQ (r v))->Sat r m.s.sl->(∀o∈O,JT r o)->
     ∃l:List Rd,l.length=k/\RS U home I (ct.map (En.ev r)) e (d.ev r)=(l,0):=by
 have kn:=RY Q.hl h0;obtain⟨rs,_,S,C⟩:=N.si.sn c kn B
 have b:∀(i:Nat)(x:Sl),(mW U home).s.sl[i]?=some x->x.bd=true->False:=fun i x hx b=>by
  rcases pg home (nE 0) 2 i x hx with q|q
  .simp[nE]at q
  .rw[q]at b;cases b
 obtain⟨_,g2,_⟩:=C (fun i x hx a _=>(b i x hx a).elim) (fun x hx=>(jv x (cd _ x hx)).2.2.2.1);obtain⟨W',O,_,z,g,_,_,f⟩:=S (fun w=>0<=w/\w<2) (fun w h=>h) (fun i x hx a _=>(b i x hx a).elim) (fun x hx=>⟨(jv x (cd _ x hx)).2.2.2.2,(jv x (cd _ x hx)).2.2.2.1⟩);refine⟨rs.length,W',O,z,g,fun r hr hs A=>?_⟩;obtain⟨l,e1,e2⟩:=f r (fun i=>(hr i).kw) hs A I Q.hl;refine⟨l,?_,?_⟩
 .have:=zcp List.length e2;simpa using this
 .have y:pA e (d.ev r)=true:=by
   unfold pA;exact zaE (Zy hr g2 fun t ht=>(N.di.f.kf.2 t ht).wf)
  have u:(ct.map (En.ev r)).map En.name=ct.map En.name:=rfl
  have p:BS U (·∈ct.map En.name) e=true:=by
   unfold BS;exact zaE kn
  have j:aK U home I (ct.map (En.ev r)) e (d.ev r)=some l:=e1;unfold RS;rw[u,zai y,zai p,j]
def R8{b:Nat}(l:1<=b)(hs:∀a∈s,xQ b a.ty)(h:xQ B u):xQ (B*b) (u.sub s):=by
 have hf:∀i x,cR s i=some x->xQ b x:=by
  intro i x hx;obtain⟨a,c,rfl⟩:=eW hx;exact hs a c
 obtain⟨k,d,hn⟩:=h;refine⟨qk (fun a c=>(hs a c).ok) k,?_,?_⟩
 .clear k hn
  revert d
  refine Ty.cb (p:=fun u=>u.Nm->(u.sub s).Nm) ?_ u;intro u j d;rw[Ty.sub_eq];split
  .cases e:cR s u.id with
   |some x=>exact(hf _ x e).nm
   |none=>exact d
  .refine .mk d.sm ?_;intro x hx;simp only[zak]at hx;obtain⟨a,c,rfl⟩:=hx;exact j a c (d.df a c)
 .clear k d;refine zaI ?_ (zaH b hn);refine Ty.cb (p:=fun u=>(u.sub s).nodes.length<=u.nodes.length*b) ?_ u;intro u j;have f:1<=u.nodes.length:=by rw[Ty.aI];simp
  have h2:=zaH b f;rw[Ty.sub_eq];split
  .cases e:cR s u.id with
   |some x=>
    have:=(hf _ x e).n;rw[zaW];omega
   |none=>
    rw[zaT];exact Nat.le_mul_of_pos_right _ l
  .rw[Ty.aI,Ty.aI u];simp only[zay,za7,zbd]
   have key:∀as:List Ty,(∀x∈as,x∈u.args)->(as.map ((fun y:Ty=>y.nodes.length) ∘ Ty.sub s)).sum<=(as.map fun y:Ty=>y.nodes.length).sum*b:=by
    intro as;induction as with
    |nil=>intro _;simp
    |cons x r g=>
     intro hx;have h1:=j x (hx x (by simp));have h2:=g fun y hy=>hx y (by simp[hy])
     simp only[zan,zbT,Function.comp];rw[zaG];have h3:(r.map fun y=>(Ty.sub s y).nodes.length).sum<=(r.map fun y:Ty=>y.nodes.length).sum*b:=h2;omega
   have h1:=key u.args fun _ h=>h;rw[zaG];have h3:(List.map (fun y=>(Ty.sub s y).nodes.length) u.args).sum<=(u.args.map fun y:Ty=>y.nodes.length).sum*b:=h1
   show (List.map (fun y=>(Ty.sub s y).nodes.length) u.args).sum+1<=_;omega
def f5(u:Ty)(us:List Ty)(g:List Int)(ks:List Dv):List AV:=[.pv (vI u.kind),.pv (.str u.name),.pv (vI u.id),.pv (vI u.home),.pv (.ae (u.args.map Ty.pv)),.own (us.map Ty.pv) 4,.own (g.map vI) 5,.own (ks.map Dv.pv) 6]
def Dv.ab2{p:Dv->Prop}(h:∀d,(∀x∈d.kids,p x)->p d)(d:Dv):p d:=by
 generalize hn:d.nN=n;induction n using Nat.strongRecOn generalizing d with
 |ind n a=>exact h d fun x hx=>a x.nN (by have:=Dv.pn hx;omega) x rfl
mutual
def Dv.sb(s:List As):Dv->Dv
 |⟨t,i,g,ks⟩=>⟨t.sub s,i.map (Ty.sub s),g,Dv.sbs s ks⟩
def Dv.sbs(s:List As):List Dv->List Dv
 |[]=>[]
 |d::l=>Dv.sb s d::Dv.sbs s l
end
def Dv.Kg(s:List As):∀l:List Dv,Dv.sbs s l=l.map (Dv.sb s)
 |[]=>by simp[Dv.sbs]
 |d::l=>by simp[Dv.sbs,Dv.Kg s l]
def Dv.R9(s:List As)(d:Dv):d.sb s=⟨d.ty.sub s,d.inst.map (Ty.sub s),d.gen,d.kids.map (Dv.sb s)⟩:=by
 cases d;simp only[Dv.sb,Dv.Kg]
def Xn{s:List As}(hs:s.length<=1000)(c:d.inst.length<=1000)(hf:∀t∈d.inst,t.Ok){u:Ty}{g:List Int}:∀(k i:Nat),d.inst.length-i=k->i<=d.inst.length->∀acc:List Ty,acc.length=i->
   cl AP g472L0 ⟨[(0,.pv (.ae (s.map As.pv))),(3,.au 3 0),(4,.au 4 0),(5,.au 5 0),(6,.pv (vI i))],[(3,d.cells.map .pv),(4,zD 0),(5,f5 u acc g [])],[],[0,0,0,0,acc.length,g.length,0]⟩=
     some (.exit 0,⟨[(0,.pv (.ae (s.map As.pv))),(3,.au 3 0),(4,.au 4 0),(5,.au 5 0),(6,.pv (vI d.inst.length)),(20,.pv (.bool false))],[(3,d.cells.map .pv),(4,zD 0),(5,f5 u (acc++(d.inst.drop i).map (Ty.sub s)) g [])],[],[0,0,0,0,d.inst.length,g.length,0]⟩)
 |0,i,h,hi,acc,f=>by
  have:i=d.inst.length:=by omega
  subst this;have a:=Dv.aG d;rw[g472L0e];simp[g472B0,zD,f5,a,f]
 |k+1,i,h,hi,acc,f=>by
  have hi:i<d.inst.length:=(by omega);obtain⟨t,hx⟩:=aR hi;have a:=Dv.aG d;have e:=c46 (s:=s) (by unfold Sm;omega) (hf t (aM hx));have b:=Xn hs c hf (u:=u) (g:=g) k (i+1) (by omega) (by omega) (acc++[t.sub s]) (by simp;omega);have j:(acc.length+1)*64<=140737488355328:=(by omega);rw[aZ hx,zan];generalize t.sub s=w at*;rw[g472L0e]at b⊢;simp[zD,f5,a]at b;simp at e;simp(disch:=omega)[-getElem?_pos,g472B0,zD,f5,a,hi,hx,e,j,aq,aU];rw[g472L0e];simp[b]
def Xo(c:d.kids.length<=1000)(h:∀x∈d.kids,(aE AP).p 472 [.ae (s.map As.pv),x.pv]=some [(x.sb s).pv]){u:Ty}{us:List Ty}{g:List Int}:∀(k i:Nat),d.kids.length-i=k->i<=d.kids.length->∀acc:List Dv,acc.length=i->
   cl AP g472L1 ⟨[(0,.pv (.ae (s.map As.pv))),(3,.au 3 0),(4,.au 4 0),(5,.au 5 0),(7,.pv (vI i))],[(3,d.cells.map .pv),(4,zD 0),(5,f5 u us g acc)],[],[0,0,0,0,us.length,g.length,acc.length]⟩=
     some (.exit 2,⟨[(0,.pv (.ae (s.map As.pv))),(3,.au 3 0),(4,.au 4 0),(5,.au 5 0),(7,.pv (vI d.kids.length)),(39,.pv (.bool false))],[(3,d.cells.map .pv),(4,zD 0),(5,f5 u us g (acc++(d.kids.drop i).map (Dv.sb s)))],[],[0,0,0,0,us.length,g.length,d.kids.length]⟩)
 |0,i,j,hi,acc,f=>by
  have:i=d.kids.length:=by omega
  subst this;have a:=Dv.aG d;rw[g472L1e];simp[g472B1,zD,f5,a,f]
 |k+1,i,j,hi,acc,f=>by
  have hi:i<d.kids.length:=(by omega);obtain⟨x,hx⟩:=aR hi;have a:=Dv.aG d;have e:=h x (aM hx);have b:=Xo c h (u:=u) (us:=us) (g:=g) k (i+1) (by omega) (by omega) (acc++[x.sb s]) (by simp;omega);have l:(acc.length+1)*136<=140737488355328:=(by omega);rw[aZ hx,zan];generalize x.sb s=y at*;rw[g472L1e]at b⊢;simp[zD,f5,a]at b;simp at e;simp(disch:=omega)[-getElem?_pos,g472B1,zD,f5,a,hi,hx,e,l,aq,aU];rw[g472L1e];simp[b]
def c472x(hs:s.length<=1000){b:Nat}(c:1<=b)(o:I<=1000)(l:∀a∈s,xQ b a.ty)(h:d.Ds B I):(aE AP).p 472 [.ae (s.map As.pv),d.pv]=some [(d.sb s).pv]/\(d.sb s).Ds (B*b) I:=by
 induction h with
 | @mk d h1 h2 h3 h4 h5 h6 k=>
  refine⟨?_,?_⟩
  .have j:=Dv.aG d;have e:=c46 (s:=s) (by unfold Sm;omega) h1.ok;have A:=Xn hs (d:=d) (by omega) (fun t ht=>(h2 t ht).ok) (u:=d.ty.sub s) (g:=d.gen) _ 0 rfl (by omega) [] rfl;have B:=Xo (s:=s) (d:=d) h5 (fun x hx=>(k x hx).1) (u:=d.ty.sub s) (us:=d.inst.map (Ty.sub s)) (g:=d.gen) _ 0 rfl (by omega) [] rfl;rw[zar,zaQ]at A B;rw[Dv.R9];have il:=zaD (f:=Ty.sub s) (as:=d.inst);have kl:=zaD (f:=Dv.sb s) (as:=d.kids);generalize d.ty.sub s=u at*;generalize d.inst.map (Ty.sub s)=us at*;generalize d.kids.map (Dv.sb s)=ks at*;have n:d.gen.length*8<=140737488355328:=(by omega);have m:bj 1 (d.gen.map vI)=true:=gL.head d.gen;rw[g472L0e]at A;rw[g472L1e]at B;simp[zD,f5,j,il]at A B;simp at e;rw[aB g472];by_cases z:d.gen=[]
   .simp[z]at A B;simp[g472,e,j,z,g472L0e,A,g472L1e,B,il,kl]
   .simp[g472,e,j,z,n,m,g472L0e,A,g472L1e,B,il,kl]
  .rw[Dv.R9];refine .mk (R8 c l h1) (fun t ht=>?_) (by simpa using h3) h4 (by simpa using h5) fun x hx=>?_
   .simp only[zak]at ht;obtain⟨a,i,rfl⟩:=ht;exact R8 c l (h2 a i)
   .simp only[zak]at hx;obtain⟨a,i,rfl⟩:=hx;exact(k a i).2
def Xp(hs:s.length<=1000)(h:Sm g)(b:∀a∈s,a.id∉g){d:Dv}:∀(k i:Nat),s.length-i=k->i<=s.length->∀acc:List As,acc.length=i->acc++s.drop i=s->
   cl AP g451L0 ⟨[(0,.pv (.ae (s.map As.pv))),(3,.au 3 0),(4,.au 4 0),(5,.pv (.ae (g.map vI))),(6,.own (acc.map As.pv) 0),(7,.pv (vI i))],[(3,d.cells.map .pv),(4,zD 1)],[],[acc.length,0,0,0,0]⟩=
     some (.exit 0,⟨[(0,.pv (.ae (s.map As.pv))),(3,.au 3 0),(4,.au 4 0),(5,.pv (.ae (g.map vI))),(6,.own (s.map As.pv) 0),(7,.pv (vI s.length)),(13,.pv (.bool false))],[(3,d.cells.map .pv),(4,zD 1)],[],[s.length,0,0,0,0]⟩)
 |0,i,j,hi,acc,m,hm=>by
  have:i=s.length:=by omega
  subst this;rw[za9,zaJ]at hm;subst hm;have c:=Dv.aG d;rw[g451L0e];simp[g451B0,zD,c]
 |k+1,i,j,hi,acc,m,hm=>by
  have hi:i<s.length:=(by omega);obtain⟨a,hx⟩:=aR hi;have c:=Dv.aG d;have e:=c95 h (y:=a.id);have l:(acc.length+1)*72<=140737488355328:=(by omega);rw[zaB (b a (aM hx))]at e
  have f:=Xp hs h b (d:=d) k (i+1) (by omega) (by omega) (acc++[a]) (by simp;omega) (by
   rw[aZ hx]at hm;simpa using hm)
  rw[g451L0e]at f⊢;simp[zD,c]at f
  try simp at e
  simp (disch:=omega) [-getElem?_pos,g451B0,zD,c,hi,hx,e,l,aq];rw[g451L0e];simp[f]
def c451x(hs:s.length<=1000){b:Nat}(e:1<=b)(k:I<=1000)(l:∀a∈s,xQ b a.ty)(h:d.Ds B I)(hn:d.nN<=1000)(c:∀a∈s,a.id∉d.jF):(aE AP).p 451 [.ae (s.map As.pv),d.pv]=some [(d.sb s).pv]/\(d.sb s).Ds (B*b) I:=by
 have i:=Dv.aG d;have hm:(I+1000)*d.nN<=2000*1000:=zbX (by omega) hn;have f:=c471 h (by omega) (by omega);have j:=h.jF;have L:=Xp hs (g:=d.jF) (by unfold Sm;omega) c (d:=d) _ 0 rfl (by omega) [] rfl (by simp);obtain⟨k2,r1⟩:=c472x hs e k l h;refine⟨?_,r1⟩;have m:=Dv.aG (d.sb s);generalize d.sb s=n at*;rw[g451L0e]at L;simp[zD,i]at L;simp at f k2;rw[aB g451];simp[g451,f,i,g451L0e,L,k2]
def ab3{r:Int->Ty}(d:Dv):(∀g∈d.jF,IJ σ r g=r g)->(d.ev r).sb σ=d.ev (IJ σ r):=by
 refine Dv.ab2 (p:=fun d=>(∀g∈d.jF,IJ σ r g=r g)->(d.ev r).sb σ=d.ev (IJ σ r)) ?_ d;intro d a h;rw[Dv.jf]at h;rw[Dv.bE,Dv.R9,Dv.bE];simp only[zbd];congr 1
 .exact BG _
 .exact zaP fun x _=>BG _
 .exact zaP fun x hx=>by rw[h x (by simp[hx])]
 .exact zaP fun x hx=>a x hx fun g b=>h g (by rw[zae,zaf];exact .inr ⟨x,hx,b⟩)
def gB(s:List As)(g:Int):Bool:=decide (900<=g)|| s.any fun a=>decide (a.id=g)
def Xq(hs:s.length<=1000){g:Int}(f:d.gen[N]?=some g):∀(n k:Nat),s.length-k=n->k<=s.length->
   cl AP g459L1 ⟨[(0,.pv (.ae (s.map As.pv))),(3,.au 3 0),(5,.pv (vI N)),(6,.pv (vI k))],[(3,d.cells.map .pv)],[],[]⟩=
     if ((s.drop k).any fun a=>decide (a.id=g))=true then some (.ret,⟨[(4,.pv (.bool true))],[],[],[]⟩)
     else some (.exit 2,⟨[(0,.pv (.ae (s.map As.pv))),(3,.au 3 0),(5,.pv (vI N)),(6,.pv (vI s.length)),(24,.pv (.bool false))],[(3,d.cells.map .pv)],[],[]⟩)
 |0,k,hn,b=>by
  have:k=s.length:=by omega
  subst this;have c:=Dv.aG d;rw[g459L1e];simp[g459B1,c]
 |n+1,k,hn,b=>by
  have b:k<s.length:=(by omega);obtain⟨a,h⟩:=aR b;have c:=Dv.aG d;have hi:=(zaa.1 f).1;have j:=Xq hs f n (k+1) (by omega) (by omega);rw[g459L1e]at j⊢;rw[aZ h,zbU];by_cases e:a.id=g
  .rw[zaE e];simp(disch:=omega)[-getElem?_pos,g459B1,c,h,b,f,hi,e]
  .rw[zaB e,zcu,<-j];simp(disch:=omega)[-getElem?_pos,g459B1,c,h,b,f,hi,e,aq];rw[g459L1e];simp[g459B1,c]
def Xr(hs:s.length<=1000)(f:d.gen.length<=2000):∀(n i:Nat),d.gen.length-i=n->i<=d.gen.length->
   cl AP g459L0 ⟨[(0,.pv (.ae (s.map As.pv))),(3,.au 3 0),(5,.pv (vI i))],[(3,d.cells.map .pv)],[],[]⟩=
     if ((d.gen.drop i).any (gB s))=true then some (.ret,⟨[(4,.pv (.bool true))],[],[],[]⟩)
     else some (.exit 0,⟨[(0,.pv (.ae (s.map As.pv))),(3,.au 3 0),(5,.pv (vI d.gen.length)),(12,.pv (.bool false))],[(3,d.cells.map .pv)],[],[]⟩)
 |0,i,hn,hi=>by
  have:i=d.gen.length:=by omega
  subst this;have b:=Dv.aG d;rw[g459L0e];simp[g459B0,b]
 |n+1,i,hn,hi=>by
  have hi:i<d.gen.length:=(by omega);obtain⟨g,c⟩:=aR hi;have b:=Dv.aG d;have h:=Xr hs f n (i+1) (by omega) (by omega);have B:=Xq hs c _ 0 rfl (by omega);rw[zar]at B;rw[aZ c,zbU];by_cases e:900<=g
  .have:gB s g=true:=by unfold gB;rw[zaE e];rfl
   rw[this,g459L0e];simp(disch:=omega)[-getElem?_pos,g459B0,b,c,hi,e]
  .cases e2:s.any fun a=>decide (a.id=g)with
   |true=>
    have:gB s g=true:=by unfold gB;rw[e2,Bool.or_true]
    rw[e2,zai rfl]at B;rw[this];rw[g459L1e]at B;rw[g459L0e];simp[b]at B;simp(disch:=omega)[-getElem?_pos,g459B0,b,c,hi,e,g459L1e,B]
   |false=>
    have:gB s g=false:=by unfold gB;rw[e2,zaB e];rfl
    rw[e2,zad (by simp)]at B;rw[this,zcu,<-h];rw[g459L1e]at B;rw[g459L0e];simp[b]at B;simp(disch:=omega)[-getElem?_pos,g459B0,b,c,hi,e,g459L1e,B,aq]
def Xs(b:d.kids.length<=1000){p:Dv->Bool}(f:∀x∈d.kids,(aE AP).p 459 [.ae (s.map As.pv),x.pv]=some [.bool (p x)]):∀(n i:Nat),d.kids.length-i=n->i<=d.kids.length->
   cl AP g459L2 ⟨[(0,.pv (.ae (s.map As.pv))),(3,.au 3 0),(7,.pv (vI i))],[(3,d.cells.map .pv)],[],[]⟩=
     if ((d.kids.drop i).any p)=true then some (.ret,⟨[(4,.pv (.bool true))],[],[],[]⟩)
     else some (.exit 4,⟨[(0,.pv (.ae (s.map As.pv))),(3,.au 3 0),(7,.pv (vI d.kids.length)),(42,.pv (.bool false))],[(3,d.cells.map .pv)],[],[]⟩)
 |0,i,hn,hi=>by
  have:i=d.kids.length:=by omega
  subst this;have a:=Dv.aG d;rw[g459L2e];simp[g459B2,a]
 |n+1,i,hn,hi=>by
  have hi:i<d.kids.length:=(by omega);obtain⟨x,hx⟩:=aR hi;have a:=Dv.aG d;have xc:=Dv.aG x;have g:=Xs b f n (i+1) (by omega) (by omega);have c:=f x (aM hx);rw[aZ hx,zbU];cases e:p x with
  |true=>
   rw[e]at c;simp at c;rw[g459L2e];simp(disch:=omega)[-getElem?_pos,g459B2,a,hx,hi,c]
  |false=>
   rw[e]at c;simp at c;rw[zcu,<-g];rw[g459L2e];simp(disch:=omega)[-getElem?_pos,g459B2,a,hx,hi,c,aq]
def c459(hs:s.length<=1000)(c:I<=1000)(h:d.Ds B I):(aE AP).p 459 [.ae (s.map As.pv),d.pv]=some [.bool (d.jF.any (gB s))]:=by
 induction h with
 | @mk d h1 h2 h3 h4 h5 _ b=>
  have a:=Dv.aG d;have A:=Xr hs (d:=d) (by omega) _ 0 rfl (by omega);have C:=Xs (s:=s) (d:=d) h5 b _ 0 rfl (by omega);rw[zar]at A C
  have e:d.jF.any (gB s)=(d.gen.any (gB s)|| d.kids.any fun x=>x.jF.any (gB s)):=by
   rw[Dv.jf,zdf,List.any_flatMap]
  rw[e,aB g459];rw[g459L0e]at A;rw[g459L2e]at C;cases e1:d.gen.any (gB s)with
  |true=>
   rw[e1,zai rfl]at A;simp[a]at A;simp[g459,a,g459L0e,A]
  |false=>
   rw[e1,zad (by simp)]at A;simp[a]at A;cases e2:d.kids.any fun x=>x.jF.any (gB s)with
   |true=>
    rw[e2,zai rfl]at C;simp[a]at C;simp[g459,a,g459L0e,A,g459L2e,C]
   |false=>
    rw[e2,zad (by simp)]at C;simp[a]at C;simp[g459,a,g459L0e,A,g459L2e,C]
def As.c6(a:As):List PV:=[vI a.id,vI a.ty.kind,.str a.ty.name,vI a.ty.id,vI a.ty.home,.ae (a.ty.args.map Ty.pv)]
def sZ:Row As.c6 6:=⟨by omega,fun _=>rfl⟩
def aV(n:Nat)(l:List As):AV:=if l=[]then .own [] 0 else .bl n 6 l.length true
def aS(X:Sh)(l:List As):Sh:=if l=[]then X else X++[some (bW As.c6 l)]
def aT(l:List As):aH:=if l=[]then[0]else[]
def Tape.len(h:Tape L tm TP)(i j:Int):(TP i).length=(TP j).length:=by
 rw[<-h.set j i,zbJ]
def Tape.ext(h:Tape L tm TP){B:Sh}(a:aY B):Tape L tm (fun i=>TP i++B) where
 get:=fun i=>by
  have hl:=(zaa.1 (h.get i)).1;rw[zao hl];exact h.get i
 set:=fun i j=>by
  have hl:=(zaa.1 (h.get i)).1;rw[List.set_append_left _ _ hl,h.set]
 quiet:=fun i=>(h.quiet i).app a
def Tape.as(h:Tape L tm TP)(l:List As):Tape L tm (fun i=>aS (TP i) l):=by
 by_cases z:l=[]
 .have:(fun i=>aS (TP i) l)=TP:=by funext i;simp[aS,z]
  rw[this];exact h
 .have:(fun i=>aS (TP i) l)=fun i=>TP i++[some (bW As.c6 l)]:=by funext i;simp[aS,z]
  rw[this];exact h.ext (aY.one fG)
def Nw{D:Dt->Prop}(hN:∀d,D d->d.name.length<=100)(h:∀u∈lv,u.Nm)(m:gw D lv N u):u.Nm:=by
 induction m with
 |leaf hl=>exact h _ hl
 |int=>exact .mk (by simp[a8,qE]) (by simp[a8])
 |dy hd _ _ c=>exact .mk (by have:=hN _ hd;unfold qE;simp only;omega) c
 |arrow _ _ b a=>exact .mk (by simp[qE]) (by intro x hx;simp at hx;rcases hx with rfl|rfl<;>assumption)
def R_(a:lX U)(h:∀u∈lv,u.args=[]/\u.name=[])(m:gw (·∈U) lv N u):xQ (9 ^ N) u:=
 ⟨m.ok (fun d hd=>(cM d (a.all d hd)).1) (fun u ht=>(h u ht).1),Nw (fun d hd=>(sR d (a.all d hd)).1) (fun u ht=>.mk (by rw[(h u ht).2];simp[qE]) (by rw[(h u ht).1];simp)) m,m.small (fun d hd=>(cM d (a.all d hd)).1) (fun u ht=>(h u ht).1)⟩
def yr:List Ty:=[az 0,az 1,az 2,az 3,oW (-1) 0]
def Sa:∀t∈yr,t.args=[]/\t.name=[]:=by
 intro t ht;simp[yr]at ht;rcases ht with rfl|rfl|rfl|rfl|rfl<;>exact⟨rfl,rfl⟩
def Z2(ds:List Dt)(a:As):Prop:=(0<=a.id/\a.id<3)/\gw (·∈ds) yr 1 a.ty
def VG(M:Sm L){ds:List Dt}(N:lX ds):∀(n k:Nat),3-k=n->k<=3->∀(TP:Int->Sh),Tape L tm TP->∀(acc:List As)(i:Nat),acc.length<=k->(∀a∈acc,Z2 ds a)->i<=L.length->
   ∃(s:List As)(b j:Nat),cl AP g37L0 ⟨[(0,.aL tm 0),(1,.pv (.ae (ds.map Dt.pv))),(2,.pv (vI 3)),(7,aV (TP i).length acc),(8,.pv (vI k))],[],aS (TP i) acc,aT acc⟩=
     some (.exit 0,⟨[(0,.aL tm 0),(1,.pv (.ae (ds.map Dt.pv))),(2,.pv (vI 3)),(7,aV (TP j++nn b).length s),(8,.pv (vI 3)),(11,.pv (.bool false))],[],aS (TP j++nn b) s,aT s⟩)/\
     s.length<=3/\(∀a∈s,Z2 ds a)/\j<=L.length
 |0,k,hn,V,TP,hT,acc,i,W,hm,hi=>by
  have:k=3:=by omega
  subst this;refine⟨acc,0,i,?_,W,hm,hi⟩;rw[show nn 0=[] from rfl,zaJ];have l:=(hT.as acc).norm i
  try simp only at l
  have P:(aV (TP i).length acc=.own [] 0/\aT acc=[0])\/(∃b z k g,aV (TP i).length acc=.bl b z k g/\aT acc=[]):=by
   unfold aV aT;by_cases h0:acc=[]
   .left;simp[h0]
   .right;exact⟨(TP i).length,6,acc.length,true,by simp[h0],by simp[h0]⟩
  rw[g37L0e];rcases P with⟨E,t1⟩|⟨b1,z1,k1,f1,E,t1⟩<;>rw[E,t1]<;>generalize aS (TP i) acc=S0 at l⊢<;>simp[g37B0,l]
 |n+1,k,hn,V,TP,hT,acc,i,W,hm,hi=>by
  have V:k<3:=(by omega);have C:(k:Int)<3:=(by omega);have O:=hT.as acc;have l:∀i:Nat,∀aQ ts,bt aQ ts (aS (TP i) acc)=(aS (TP i) acc,aQ,ts):=fun i=>O.norm i
  have c:∀i n:Nat,gh n (aS (TP i) acc)=aS (TP i) acc:=fun i=>O.shift i;have o:∀i j:Nat,(aS (TP j) acc).take (aS (TP i) acc).length=aS (TP j) acc:=fun i j=>O.take i j
  obtain⟨r,v,e1,r0,r3,J⟩:=BO O M hi (n:=3) (by omega) (by omega);have a0:=N.len;have x:∀i j:Nat,(TP i).length=(TP j).length:=fun i j=>hT.len i j
  have P:(aV (TP i).length acc=.own [] 0/\aT acc=[0])\/(∃b z k g,aV (TP i).length acc=.bl b z k g/\aT acc=[]):=by
   unfold aV aT;by_cases h0:acc=[]
   .left;simp[h0]
   .right;exact⟨(TP i).length,6,acc.length,true,by simp[h0],by simp[h0]⟩
  by_cases hr:0<r
  .obtain⟨t,p,e2,mt,I⟩:=t27 O M (ds:=ds) (by omega) (fun d hd=>(cM d (N.all d hd)).1) (lv:=yr) (by simp[Sm,yr]) 1 (by omega) v J;have D:=c70_4 (sh:=aS (TP v) acc) (l v);have Q:=c71 (n:=-1) (m:=0)
   have H:∀a∈acc++[⟨(k:Int),t⟩],Z2 ds a:=by
    intro a h;simp only[zae,zaU]at h;rcases h with h|rfl
    .exact hm a h
    .exact⟨⟨by simp only;omega,by simp only;omega⟩,mt⟩
   have R:acc++[(⟨(k:Int),t⟩:As)]≠[]:=(by simp);have S:bW As.c6 (acc++[⟨(k:Int),t⟩])=bW As.c6 acc++(As.c6 ⟨k,t⟩).map .pv:=(by rw[uW];simp[bW]);by_cases h0:acc=[]
   .subst h0;obtain⟨s,b,j,e,A,q,hj⟩:=VG M N n (k+1) (by omega) (by omega) TP hT [⟨k,t⟩] p (by simp) H I;refine⟨s,b,j,?_,A,q,hj⟩;have f:=(hT.as [⟨k,t⟩]).norm p;generalize aV (TP j++nn b).length s=V2 at*;generalize aS (TP j++nn b) s=Y at*;generalize aT s=T2 at*;simp only[aS,aV,aT,za4]at l c o e1 e2 D⊢;simp[aS,aV,aT,bW,As.c6]at f e;rw[g37L0e]at e⊢
    try simp[l,c,o]at e1
    simp[yr,az,oW,l,c,o,Ty.av]at e2 D Q
    try simp[f]at e
    simp (disch:=omega) [l,c,o,-getElem?_pos,g37B0,C,e1,hr,D,Q,e2,aq];rw[g37L0e];simp[f,e]
   .have K:Tape L tm (fun i=>TP i++[none]):=hT.ext (jQ 1);obtain⟨s,b,j,e,A,q,hj⟩:=VG M N n (k+1) (by omega) (by omega) (fun i=>TP i++[none]) K (acc++[⟨k,t⟩]) p (by simp;omega) H I;have U:∀X:Sh,X++[none]++nn b=X++nn (b+1):=fun X=>by simp[nn,zbs]
    simp only[U]at e;refine⟨s,b+1,j,?_,A,q,hj⟩;have f:=(K.as (acc++[⟨k,t⟩])).norm p;have r1:(bW As.c6 acc).length=acc.length*6:=gX sZ;have r2:dR (bW As.c6 acc)=false:=d_ fG;have r3:(bW As.c6 acc).take (acc.length*6)=bW As.c6 acc:=zaz (by omega);have T:(acc.length+1)*72<=140737488355328:=by omega
    have B:(TP i).length=(TP p).length:=x i p;simp only[aS,aV,aT,zad h0,zad R]at l c o e1 e2 D f e⊢;generalize (if s=[]then AV.own [] 0 else AV.bl (TP j++nn (b+1)).length 6 s.length true)=V2 at*;generalize (if s=[]then TP j++nn (b+1)else TP j++nn (b+1)++[some (bW As.c6 s)])=Y at*;generalize (if s=[]then[0]else[])=T2 at*;rw[S]at e f;rw[B];rw[zat,zbm,zat,zbm]at e;have s1:∀u w:Option (List AV),(TP p++[u]).set (TP p).length w=TP p++[w]:=fun u w=>by simp
    have Z:∀u:Option (List AV),(TP p++[u])[(TP p).length]?=some u:=fun u=>by simp
    generalize bW As.c6 acc=F at*;simp[As.c6]at f e;rw[g37L0e]at e⊢
    try simp[l,c,o]at e1
    simp[yr,az,oW,l,c,o,Ty.av]at e2 D Q
    try simp[f]at e
    simp (disch:=omega) [l,c,o,-getElem?_pos,g37B0,C,e1,hr,D,Q,e2,aq,r1,r2,r3,s1,Z,T];rw[g37L0e];simp[f,e]
  .obtain⟨s,b,j,e,hs,q,hj⟩:=VG M N n (k+1) (by omega) (by omega) TP hT acc v (by omega) hm J;refine⟨s,b,j,?_,hs,q,hj⟩;have B:=x i v;have y:=l v;have G:=c v;rw[B]at P⊢;generalize aV (TP j++nn b).length s=V2 at*;generalize aS (TP j++nn b) s=Y at*;generalize aT s=T2 at*;rw[g37L0e]at e⊢
   rcases P with⟨E,t1⟩|⟨b1,z1,k1,f1,E,t1⟩<;>rw[E,t1]at e⊢<;>(
     generalize aS (TP v) acc=S1 at*;simp[l,c,o,y]at e e1;simp(disch:=omega)[l,c,o,y,G,-getElem?_pos,g37B0,C,e1,hr,aq];rw[g37L0e];simp[l,c,o,y,G,e])
def acM(hT:Tape L tm TP)(k:Sm L)(l:lX U){i:Nat}(hi:i<=L.length):
   ∃(s:List As)(b j:Nat),(aE AP).i 37 [.aL tm 0,.pv (.ae (U.map Dt.pv)),.pv (vI 3)] (TP i) []=some ([aV (TP j++nn b).length s],aS (TP j++nn b) s,aT s)/\
     s.length<=3/\(∀a∈s,Z2 U a)/\j<=L.length:=by
 obtain⟨s,b,j,e,hs⟩:=VG k l 3 0 rfl (by omega) TP hT [] i (by simp) (by intro a h;simp at h) hi;have d:=hT.norm;have c:=hT.shift;have f:=hT.take;have hl:=hT.len i j;simp only[aS,aV,aT,za4]at e;by_cases z:s=[]
 .refine⟨s,0,j,?_,hs⟩;have q:=hT.norm j;have g:=hT.shift j;have tk:∀X:Sh,(TP j++X).take (TP i).length=TP j:=fun X=>by rw[hl,zdi]
  rw[aC g37];simp[z,aS,aV,aT,nn]at e⊢;rw[g37L0e]at e;simp[d,c,f]at e;simp[d,c,f,g37,g37L0e,e,q,g,tk]
 .refine⟨s,b,j,?_,hs⟩;have q:=((hT.ext (jQ b)).as s).norm j;have g:=((hT.ext (jQ b)).as s).shift j;have tk:¬(TP j).length+b<(TP i).length:=by omega
  rw[aC g37];simp[z,aS,aV,aT]at e q g⊢;rw[g37L0e]at e;simp[d,c,f]at e;simp[d,c,f,g37,g37L0e,e,q,g,tk]
def EU:List As:=[⟨0,az 900⟩,⟨1,az 901⟩,⟨2,a8⟩,⟨3,a8⟩]
def uE(a:As):As:=⟨a.id,a.ty.sub EU⟩
def Sb(i:lX U){t:Ty}(m:gw (·∈U) yr N t):(dx t=true/\∀y∈t.nodes,y.kind≠2/\y.kind≠5)/\∀w,cf t w->0<=w/\w<=3:=by
 have dy:∀(s:bF)(l:List Ty),i7 s l.length=true->(∀x∈l,(dx x=true/\∀y∈x.nodes,y.kind≠2/\y.kind≠5)/\∀w,cf x w->0<=w/\w<=3)->(dx ⟨4,s,0,0,l⟩=true/\∀y∈(⟨4,s,0,0,l⟩:Ty).nodes,y.kind≠2/\y.kind≠5)/\∀w,cf ⟨4,s,0,0,l⟩ w->0<=w/\w<=3:=by
  intro s l f h;refine⟨⟨?_,fun y hy=>?_⟩,fun w b=>?_⟩
  .rw[gf];simp only[f];simp;exact fun x hx=>(h x hx).1.1
  .rw[Ty.aI,zah,zaf]at hy;rcases hy with rfl|⟨a,g,hy⟩
   .simp
   .exact(h a g).1.2 y hy
  .cases b with
   |var q=>simp at q
   |arg _ hm b=>exact(h _ hm).2 w b
 induction m with
 |leaf hl=>
  simp[yr]at hl;rcases hl with rfl|rfl|rfl|rfl|rfl
  .refine⟨by decide +kernel,fun w b=>?_⟩;have:=da (t:=az 0) rfl b;simp[az]at this;omega
  .refine⟨by decide +kernel,fun w b=>?_⟩;have:=da (t:=az 1) rfl b;simp[az]at this;omega
  .refine⟨by decide +kernel,fun w b=>?_⟩;have:=da (t:=az 2) rfl b;simp[az]at this;omega
  .refine⟨by decide +kernel,fun w b=>?_⟩;have:=da (t:=az 3) rfl b;simp[az]at this;omega
  .refine⟨by decide +kernel,fun w b=>?_⟩;cases b with
   |var q=>simp[oW]at q
   |arg _ hm _=>simp[oW]at hm
 |int=>
  refine⟨by decide +kernel,fun w b=>?_⟩;cases b with
  |var q=>simp[a8]at q
  |arg _ hm _=>simp[a8]at hm
 |dy hd hl _ e=>exact dy _ _ (by rw[hl];exact xy _ (i.all _ hd)) e
 |arrow _ _ d c=>exact dy _ _ (by simp[i7]) (by intro x hx;simp at hx;rcases hx with rfl|rfl<;>assumption)
def Se:∀a∈EU,VQ a.ty/\xQ 1 a.ty/\∀w,cf a.ty w->w=900\/w=901:=by
 have c:∀k:Int,k=900\/k=901->VQ (az k)/\xQ 1 (az k)/\∀w,cf (az k) w->w=900\/w=901:=fun k e=>⟨RV (by omega) (by omega),⟨bw rfl,xR jd,by rw[Ty.aI];simp[az]⟩,fun w b=>by
  have:=da (t:=az k) rfl b;simp[az]at this;omega⟩
 have hi:VQ a8/\xQ 1 a8/\∀w,cf a8 w->w=900\/w=901:=by
  have kn:a8.Kw:=Ty.Kn.bare rfl (by simp[a8]) (by simp[a8]);refine⟨⟨kn,by decide +kernel,by decide +kernel⟩,⟨bw rfl,xR kn,by rw[Ty.aI];simp[a8]⟩,fun w b=>?_⟩;cases b with
  |var q=>simp[a8]at q
  |arg _ hm _=>simp[a8]at hm
 intro a d;simp[EU]at d;rcases d with rfl|rfl|rfl|rfl
 .exact c _ (.inl rfl)
 .exact c _ (.inr rfl)
 .exact hi
 .exact hi
def Zz(f:lX U)(hs:s.length<=3)(h:∀a∈s,Z2 U a):SbQ (s.map uE):=by
 have key:∀a∈s,VQ (a.ty.sub EU)/\xQ 9 (a.ty.sub EU)/\∀w,cf (a.ty.sub EU) w->w=900\/w=901:=by
  intro a e;obtain⟨_,m⟩:=h a e
  have kn:a.ty.Kw:=m.kn (fun d hd=>(sR d (f.all d hd)).1) (by
   intro t ht;simp[yr]at ht;rcases ht with rfl|rfl|rfl|rfl|rfl<;>refine⟨rfl,?_,?_⟩<;>simp[az,oW])
  obtain⟨⟨p1,p2⟩,p3⟩:=Sb f m;refine⟨R7 (fun b c=>(Se b c).1) kn p1 p2,(R8 (b:=1) (by omega) (fun b c=>(Se b c).2.1) (R_ f Sa m)).up (by decide),fun w g=>?_⟩;rcases R6 _ g with⟨h1,h2⟩|⟨b,c,h1⟩
  .have:=p3 w h1;have:w=0\/w=1\/w=2\/w=3:=by omega
   rcases this with rfl|rfl|rfl|rfl<;>simp[EU,cR]at h2
  .exact(Se b c).2.2 w h1
 refine⟨by simpa using hs,?_,?_,?_⟩<;>intro b c<;>simp only[zak]at c<;>obtain⟨a,e,rfl⟩:=c
 .exact(key a e).1
 .exact(key a e).2.1
 .exact(key a e).2.2
def VH:ct.map (En.sb [⟨0,R 0⟩,⟨1,R 1⟩])=ct.map (En.ev R):=by
 simp[ct,En.sb,En.ev,Et,Ty.sub_eq,Ty.bE,cR,az,eh]
def Sf:(ct.map (En.ev R)).map (En.sb σ)=ct.map (En.ev (IJ σ R)):=by
 rw[zbd];refine zaP fun x _=>?_;simp only[Function.comp,En.sb,En.ev,Et,BG]
def Kh{r:Int->Ty}(hr:∀v,VQ (r v))(d:B<=10000)(h0:xQ B (r 0))(h1:xQ B (r 1)):oH (ct.map (En.ev r)):=by
 have e:ct.map (En.ev r)=[⟨[120],⟨0,r 0⟩⟩,⟨[121],⟨0,⟨4,[45,62],0,0,[r 0,r 1]⟩⟩⟩]:=by
  simp[ct,En.ev,Et,Ty.bE,az,eh]
 rw[e];intro x hx;simp only[zah,zch,or_false]at hx;have c:∀v,(r v).Kn KV:=fun v=>(hr v).kw.imp pL
 rcases hx with rfl|rfl
 .exact⟨h0.ok,c 0,by have:=h0.n;simp only;omega⟩
 .refine⟨.mk (by simp[Sm]) (by intro x hx;simp at hx;rcases hx with rfl|rfl;exact h0.ok;exact h1.ok),.mk (by simp) (by simp) (by intro x hx;simp at hx;rcases hx with rfl|rfl;exact c 0;exact c 1),?_⟩;have a:=h0.n;have b:=h1.n;rw[Ty.aI];simp;omega
def ab4{dsv Ev:PV}{e:Ex}{d:Dv}(hN:N<=1000){SA:List As->Sh}(h1:∀c,(SA c)[B]?=some (some (bW As.c6 c)))(h2:∀c c',(SA c).set B (some (bW As.c6 c'))=SA c')(h3:∀c,aY (SA c)):∀(n i:Nat),N-i=n->i<=N->∀l:List As,l.length=N->(∀a∈l.drop i,a.ty.Ok)->
   cl AP g445L0 ⟨[(9,.pv dsv),(11,.au 11 0),(16,.au 16 0),(18,.pv Ev),(19,.bl B 6 N true),(20,.pv (vI i))],[(11,e.cl),(16,d.cells.map .pv)],SA l,[]⟩=
     some (.exit 0,⟨[(9,.pv dsv),(11,.au 11 0),(16,.au 16 0),(18,.pv Ev),(19,.bl B 6 N true),(20,.pv (vI N)),(90,.pv (.bool false))],[(11,e.cl),(16,d.cells.map .pv)],SA (l.take i++(l.drop i).map uE),[]⟩)
 |0,i,hn,hi,l,G,_=>by
  have:i=N:=by omega
  subst this;have E:=(h3 l).norm;rw[yZ (l:=l) (by omega),zaz (by omega),zbc,zaJ];have w:=Ex.aG e;have z:=Dv.aG d;generalize SA l=S at*;rw[g445L0e];simp[g445B0,E,w,z,Ex.cl]
 |n+1,i,hn,hi,l,G,H=>by
  have hi:i<N:=(by omega);obtain⟨x,hx⟩:=aR (l:=l) (i:=i) (by omega);have w:=Ex.aG e;have z:=Dv.aG d;have I:x.ty.Ok:=H x (by rw[aZ hx];simp)
  have v:=ab4 (dsv:=dsv) (Ev:=Ev) (e:=e) (d:=d) hN h1 h2 h3 n (i+1) (by omega) (by omega) (l.set i (uE x)) (by simpa using G) (by
   rw[zcV (by omega)];intro a h;exact H a (by rw[aZ hx];simp[h]))
  have m:=c46 (s:=EU) (by simp[Sm,EU]) I;have f:=c63 (n:=(900:Int));have b:=c63 (n:=(901:Int));have j:=c34;have q:=Yo sZ hx (o:=1) (k:=5) (by omega);have g:=Jm sZ hx (y:=uE x) (o:=1) (vs:=[vI (x.ty.sub EU).kind,.str (x.ty.sub EU).name,vI (x.ty.sub EU).id,vI (x.ty.sub EU).home,.ae ((x.ty.sub EU).args.map Ty.pv)]) (by simp) (by simp[As.c6,uE])
  have t:l.take i++(l.drop i).map uE=(l.set i (uE x)).take (i+1)++((l.set i (uE x)).drop (i+1)).map uE:=by
   rw[zcV (by omega),aZ hx,zaM,List.take_set_of_le (by omega)];simp[show i<l.length by omega]
  rw[t];generalize (l.set i (uE x)).take (i+1)++((l.set i (uE x)).drop (i+1)).map uE=R at v⊢;have D:=h1 l;have C:=h2 l (l.set i (uE x));have E:=(h3 l).norm;have A:=(h3 l).shift;have p:=(h3 (l.set i (uE x))).norm;have J:dR (bW As.c6 l)=false:=d_ fG;have r:(bW As.c6 l).length=N*6:=by rw[gX sZ,G]
  have F:i*6+1+5<=N*6:=(by omega);generalize SA (l.set i (uE x))=M at*;generalize SA l=S at*;generalize SA R=L at*;generalize bW As.c6 (l.set i (uE x))=K at*;generalize bW As.c6 l=T at*;generalize x.ty.sub EU=u at*;rw[g445L0e]at v⊢;simp[p,w,z,Ex.cl]at v;simp[As.c6]at q g;simp[EU,az,a8]at m;simp at f b j;simp(disch:=omega)[-getElem?_pos,g445B0,E,A,hi,D,q,J,r,F,g,C,m,f,b,j,aq,w,z,Ex.cl];rw[g445L0e];simp[p,v]
def po:cA.Nm:=.mk (by simp[cA,qE]) (by simp[cA])
def Nx(h:e.Bn nm kd=true):(nm=true\/e.name=[])/\(e.kind=9\/e.ty=cA):=by
 unfold Ex.Bn at h;simp only[zaj,zbo,zaS]at h;exact⟨h.2.2.2.2.2.2.1,h.2.2.2.2.2.2.2.2.2.2⟩
def ab5(tx:rR e):e.xr=true->e.ET:=by
 have key:∀{e:Ex},e.xr=true->(e.kind=9\/e.ty=cA)/\(e.name=[]\/∃kd,de e.kind=some (true,kd))/\(∀x∈e.ch,x.xr=true):=by
  intro e h;rw[xt]at h;simp only[zaj,zas]at h;obtain⟨h1,_,h3⟩:=h;unfold zj at h1;cases f:de e.kind with
  |none=>rw[f]at h1;cases h1
  |some q=>
   obtain⟨nm,kd⟩:=q;rw[f]at h1;obtain⟨a,b⟩:=Nx h1;refine⟨b,?_,h3⟩;rcases a with a|a
   .exact .inr ⟨kd,by rw[a]⟩
   .exact .inl a
 induction tx with
 | @leaf e f h1 h2=>
  intro g;obtain⟨i,k2,c⟩:=key g;have l:e.ch=[]:=by rw[Ex.ch,h1,h2];rfl
  have d:qE e.name:=by
   rcases k2 with k2|⟨kd,k2⟩
   .rw[k2];simp[qE]
   .rcases f with⟨_,q⟩|⟨q,_⟩|⟨q,_⟩
    .unfold qE;omega
    .rw[q]at k2;simp[de]at k2
    .rw[q]at k2;simp[de]at k2
  have ht:e.ty=cA:=i.resolve_left (by omega);exact .mk d (by rw[ht];exact po) (by rw[h2];simp) (by rw[l];simp)
 | @lam e a f hn h1 h2 _ m=>
  intro g;obtain⟨i,k2,c⟩:=key g;have l:e.ch=[a]:=by rw[Ex.ch,h1,h2];rfl
  exact .mk (by unfold qE;omega) (by rw[i.resolve_left (by omega)];exact po) (by rw[h2];simp) (by rw[l]at c⊢;intro x hx;simp at hx;subst hx;exact m (c x (by simp)))
 | @app e a b f h1 h2 _ _ k j=>
  intro g;obtain⟨i,k2,c⟩:=key g;have l:e.ch=[a,b]:=by rw[Ex.ch,h1,h2];rfl
  have d:e.name=[]:=by
   rcases k2 with k2|⟨kd,k2⟩
   .exact k2
   .rw[f]at k2;simp[de]at k2
  exact .mk (by rw[d];simp[qE]) (by rw[i.resolve_left (by omega)];exact po) (by rw[h2];simp) (by rw[l]at c⊢;intro x hx;simp at hx;rcases hx with rfl|rfl;exact k (c _ (by simp));exact j (c _ (by simp)))
 | @Ip e a b f hn h1 h2 _ _ k j=>
  intro g;obtain⟨i,k2,c⟩:=key g;have l:e.ch=[a,b]:=by rw[Ex.ch,h1,h2];rfl
  exact .mk (by unfold qE;omega) (by rw[i.resolve_left (by omega)];exact po) (by rw[h2];simp) (by rw[l]at c⊢;intro x hx;simp at hx;rcases hx with rfl|rfl;exact k (c _ (by simp));exact j (c _ (by simp)))
 | @xq e a f h1 _ _ n _ k j=>
  intro g;obtain⟨i,k2,c⟩:=key g
  have d:e.name=[]:=by
   rcases k2 with k2|⟨kd,k2⟩
   .exact k2
   .rw[f]at k2;simp[de]at k2
  refine .mk (by rw[d];simp[qE]) (by rw[i.resolve_left (by omega)];exact po) (fun x hx=>?_) (fun x hx=>?_)
  .obtain⟨r,p,o⟩:=n x hx;exact⟨by unfold qE;omega,by omega,fun s hs=>by have:=o s hs;unfold qE;omega⟩
  .have:=c x hx;rw[Ex.ch,h1]at hx;simp at hx;rcases hx with rfl|⟨w,hw,rfl⟩
   .exact k this
   .exact j w hw this
 | @YP e a f h1 h2 ht _ _ m=>
  intro g;obtain⟨i,k2,c⟩:=key g;have l:e.ch=[a]:=by rw[Ex.ch,h1,h2];rfl
  have d:e.name=[]:=by
   rcases k2 with k2|⟨kd,k2⟩
   .exact k2
   .rw[f]at k2;simp[de]at k2
  exact .mk (by rw[d];simp[qE]) (xR ht) (by rw[h2];simp) (by rw[l]at c⊢;intro x hx;simp at hx;subst hx;exact m (c x (by simp)))
 | @held e a f h1 h2 _ m=>
  intro g;obtain⟨i,k2,c⟩:=key g;have l:e.ch=[a]:=by rw[Ex.ch,h1,h2];rfl
  have d:e.name=[]:=by
   rcases k2 with k2|⟨kd,k2⟩
   .exact k2
   .rw[f]at k2;simp[de]at k2
  exact .mk (by rw[d];simp[qE]) (by rw[i.resolve_left (by omega)];exact po) (by rw[h2];simp) (by rw[l]at c⊢;intro x hx;simp at hx;subst hx;exact m (c x (by simp)))
def ab6:wN 16=625:=by decide
def xT.dq(h:xT 16 e)(b:oH env)(hl:env.length<=10)(hs:d.Sd)(a:d.Bd):DQ 16 env e d:=
 ⟨h.tx,h.sc.ok,h.sc.one,ab5 h.tx h.vl,h.vl,h.h,by have:=h.w;rw[ab6]at this;omega,hs,a,b,by omega⟩
def xT.iw(h:xT 16 e):IW 16 e:=⟨h.tx,h.sc,h.h,by have:=h.w;rw[ab6]at this;omega,by omega⟩
def ab7(h:u.Kn KT):dx u=true->(∀y∈u.nodes,y.kind≠5)->Gv u:=by
 induction h with
 | @mk u k _ _ j=>
  intro c h5
  have d:u.kind=4:=by
   by_cases q:u.kind=4
   .exact q
   .have a:=(k q).1;have b:=h5 u (by rw[Ty.aI];simp);simp only[KT]at a;rw[gf,zad (by omega),zad (by omega),zad (by omega),zad q]at c;cases c
  rw[gf,zad (by omega),zad (by omega),zad (by omega),zai d]at c;simp only[zaj,zb7,zas]at c;obtain⟨⟨⟨i,g⟩,f⟩,e⟩:=c
  exact pM (.inr (.inr ⟨d,i,g,f⟩)) fun x hx=>j x hx (e x hx) fun y hy=>h5 y (by
   rw[Ty.aI,zah,zaf];exact .inr ⟨x,hx,hy⟩)
def Si(e:Ex):rR e->e.xr=true->e.Ad->ES e:=by
 refine Ex.recC (p:=fun e=>rR e->e.xr=true->e.Ad->ES e) ?_ e;intro e i tx b ad;have j:=b;rw[xt]at b;simp only[zaj,zas]at b;obtain⟨a,_,g⟩:=b;refine .mk (fun d=>?_) (fun f=>?_) fun x hx=>i x hx (tx.c x hx) (g x hx) (ad.c x hx)
 .obtain⟨_,_,l,k⟩:=ad.t;refine⟨l,ab7 ?_ ?_ k⟩
  .cases tx with
   |leaf f _ _=>exact absurd d (by rcases f with⟨q,_⟩|⟨q,_⟩|⟨q,_⟩<;>omega)
   |lam q=>omega
   |app q=>omega
   |Ip q=>omega
   |xq q=>omega
   |YP _ _ _ h=>exact h
   |held q=>omega
  .unfold zj at a;rw[d]at a;simp[de,Ex.Bn,d]at a;exact a.2.2.2.2.2.2.2.1
 .cases tx with
  |leaf _ h1 h2=>rw[Ex.ch,h1,h2];rfl
  |lam q=>omega
  |app q=>omega
  |Ip q=>omega
  |xq q=>omega
  |YP q=>omega
  |held q=>omega
def Sj:Ctx 940 4 ct:=by
 refine⟨by simp[ct],fun x hx=>?_,by decide +kernel,by decide +kernel,by decide +kernel⟩;have a:=jv x hx;refine⟨⟨a.2.1,a.1.wf,?_⟩,a.1.imp pL,0,?_,by omega,?_⟩
 .simp[ct]at hx;rcases hx with rfl|rfl<;>simp[Ty.lU,az,eh,ZU]
 .simp[ct]at hx;rcases hx with rfl|rfl<;>rfl
 .simp[ct]at hx;rcases hx with rfl|rfl<;>(unfold QE;decide +kernel)
def Sk:bG a8:=⟨bw rfl,Ty.Kn.bare rfl (by simp[a8]) (by simp[a8]),by decide +kernel⟩
def BH:ct.map En.pv=[.agg [.str [120],.int .i64 0,.int .i64 1,.str [],.int .i64 0,.int .i64 0,.ae []],
   .agg [.str [121],.int .i64 0,.int .i64 4,.str [45,62],.int .i64 0,.int .i64 0,.ae [.agg [.int .i64 1,.str [],.int .i64 0,.int .i64 0,.ae []],.agg [.int .i64 1,.str [],.int .i64 1,.int .i64 0,.ae []]]]]:=by
 simp[ct,eh,az]
def Sn(d:Dv):(d.ev R).jF=d.jF.map fun g=>(R g).id:=by
 refine Dv.ab2 (p:=fun d=>(d.ev R).jF=d.jF.map fun g=>(R g).id) ?_ d;intro d a;rw[Dv.bE,Dv.jf,Dv.jf d,za3];congr 1;simp only;rw[zcB,zc5];exact ni fun x hx=>a x hx
def ZA{l:List As}:((fM (bW As.c6 l)).bind (ie 6 true l.length)).map PV.ae=some (.ae (l.map As.pv)):=A_ sZ
def both{ds:List Dt}(X:lX ds)(A:xT 16 e){r:Int->Ty}(G:(e.bW ds (ct.map En.name)).1=0)(N:Nt ds 0 e m n' d)(S:m.err=0)(NV:Nv m.s.sl n' V r)(T:(d.ev r).Fo)(Q:d.nN<=1000)
   (n0:(r 0).nodes.length<=200) (n1:(r 1).nodes.length<=200) (o0:(r 0).Ok) (o1:(r 1).Ok)  (hs:s.length<=3) (R:∀a∈s,Z2 ds a):
   ∃(b:Bool)(a1 Z:List PV)(Y:Dv)(E2:List En),(aE AP).p 459 [.ae ((s.map uE).map As.pv),(d.ev r).pv]=some [.bool b]/\(b=false->
     (aE AP).p 453 [.ae (ds.map Dt.pv),.ae ((ct.map (En.ev r)).map En.pv),vI 0,e.pv,(d.ev r).pv]=some [.ae a1,vI 0]/\
     (aE AP).p 458 [.ae ((s.map uE).map As.pv),.ae ((ct.map (En.ev r)).map En.pv)]=some [.ae (E2.map En.pv)]/\
     (aE AP).p 451 [.ae ((s.map uE).map As.pv),(d.ev r).pv]=some [Y.pv]/\
     (aE AP).p 453 [.ae (ds.map Dt.pv),.ae (E2.map En.pv),vI 0,e.pv,Y.pv]=some [.ae Z,vI 0]/\a1.length=Z.length):=by
 have Qs:=Zz X hs R;generalize s.map uE=σ at*;have B:=T.ds;have a0:=Qs.l;have R1:=(rP (ds:=ds) (home:=0) A.iw).step N.st (A':=0) (R':=0) (E':=0) (by omega) (by omega) (by omega);have rz:=R1.st.rz;obtain⟨k,W,O,y,E,fit⟩:=VF A.iw (Si e A.tx A.vl A.ad) G N S;obtain⟨la,L,K⟩:=fit r NV.q NV.sat (Kf NV rz y);have j:=c459 (s:=σ) (by omega) (by omega) B;have b0:xQ 200 (r 0):=⟨o0,xR (NV.q 0).kw,n0⟩;have b1:xQ 200 (r 1):=⟨o1,xR (NV.q 1).kw,n1⟩;have E1:=Kh NV.q (by omega) b0 b1;have D:=B.sd (by omega) (by omega);have Q1:=A.dq E1 (by simp[ct]) D.1 D.2;have t:=c453 X (home:=0) Q1;rw[K]at t;have n:=c458g (s:=σ) (by unfold Sm;omega) (l:=ct.map (En.ev r)) (by simp[ct]) fun x hx=>(E1 x hx).ok
 rw[Sf]at n;by_cases c:(d.ev r).jF.any (gB σ)=true
 .exact⟨true,[],[],dvZ,[],by rw[j,c],fun h=>by cases h⟩
 .have F:∀g∈d.jF,(r g).id<900/\∀a∈σ,a.id≠(r g).id:=fun g F=>by
   rw[Sn]at c;simp only[List.any_map,zc7,not_exists,not_and,Function.comp,zc8]at c;have:=c g F;unfold gB at this;rw[zbZ,zbg,zbl]at this;exact⟨by omega,fun a U e=>by have:=this.2 a U;simp[e]at this⟩
  have z:∀o∈O,∀g∈o.2,(r g).id<900/\∀a∈σ,a.id≠(r g).id:=fun o M g z=>F g ((E g).2 ⟨o,M,z⟩);obtain⟨lb,J,I⟩:=fit (IJ σ r) (fun v=>(NV.q v).sub Qs.q) (VB NV.sat) (VE NV rz y Qs z)
  have P:∀a∈σ,a.id∉(d.ev r).jF:=fun a U h=>by
   rw[Sn,zak]at h;obtain⟨g,h1,h2⟩:=h;exact(F g h1).2 a U h2.symm
  obtain⟨w,H⟩:=c451x (s:=σ) (by omega) (b:=9) (by omega) (by omega) Qs.b B (by rw[Zu N.di.f];exact Q) P
  have eq:=ab3 (σ:=σ) (r:=r) d fun g h=>Xm (NV.u g (by
   obtain⟨o,M,h⟩:=(E g).1 h;exact((y o M).2.2 g h).2.2.1)) (F g h).2
  rw[eq]at w H;have c0:xQ (200*9) (IJ σ r 0):=R8 (by omega) Qs.b b0;have c1:xQ (200*9) (IJ σ r 1):=R8 (by omega) Qs.b b1;have E2:=Kh (r:=IJ σ r) (fun v=>(NV.q v).sub Qs.q) (by omega) c0 c1;have C:=H.sd (by omega) (by omega);have Q2:=A.dq E2 (by simp[ct]) C.1 C.2;have i:=c453 X (home:=0) Q2;rw[I]at i;exact⟨false,_,_,_,_,by rw[j];simp only[zc8]at c;rw[c],fun _=>⟨t,n,w,i,by simp[L,J]⟩⟩
def c448:(aE AP).p 448 []=some [.bool true]:=Fc.Ya (k:=100) (n:=40) (by kernel_rfl)
def VI(f1 f2 f3:Bool)(e:Ex):(j8 f1 f2 f3 e).flatMap tR=[]:=by cases f1<;>cases f2<;>cases f3<;>rfl
theorem ZB(bits:Int)(L M:List Int):(aE AP).p 445 [vI bits,.ae (L.map vI),.ae (M.map vI)]=some [.bool true]:=by
 have y:=c448;have k2:=c15 (l:=L);have D:=c15 (l:=M);rw[aB g445];by_cases hL:L.length<=60
 .by_cases hM:M.length<=60
  .obtain⟨ds,H,am,ak⟩:=c32 bits;have hD:lX ds:=⟨am,ak⟩;have ao:Sm L:=by unfold Sm;omega
   have an:Sm M:=(by unfold Sm;omega);let TL:Int->Sh:=fun i=>[]++[some [.pv (.ae (L.map vI)),.pv (vI i)]]++[some [.pv (.ae (M.map vI)),.pv (vI 0)]]
   have hT:Tape L 0 TL:=JJ (A:=[]) (by intro cs h;simp at h) (aY.one (by intro v W;simp at W;rcases W with rfl|rfl<;>exact⟨_,rfl⟩));obtain⟨e,f1,f2,f3,j2,e2,he,aO⟩:=c326 hT ao hD 3 (by omega) 0 ct a8 (by omega) Sj Sk (by decide +kernel);have o:=lp f1 f2 f3 e;have u:=VI f1 f2 f3 e;generalize j8 f1 f2 f3 e=A at e2 o u;have K:=Ex.aG e;have R:A.take 11=A:=zaz (by rw[o.len];omega);have c1:=c34;have c2:=c63 (n:=0);have c3:=c63 (n:=1);have P:=c69 (a:=az 0) (b:=az 1);have O:=c176 (t:=az 0);have c6:=c176 (t:=eh (az 0) (az 1));have hf:∀S:Sh,eQ S (.au 11 0)=none:=fun _=>rfl
   have w:∀S:Sh,eQ S (.au 16 0)=none:=fun _=>rfl;simp[hL,hM]at y k2 D H;simp[TL,a8]at e2;rw[BH]at e2;simp at c1 c2 c3;simp[eh,az]at P O c6;rcases c450w hD (home:=0) he.iw (Si e he.tx he.vl he.ad)with⟨s0,t0,h0,d0,F,G,f,g,ax⟩|⟨m,n',d,V,r,t,h,f,g,a3,N,ai,NV,aj,ac,n0,n1,o0,o1⟩
   .rw[BH]at f g;simp at f g;have E:=Dv.aG d0;by_cases hF:F.1=0
    .have hG:G.1≠0:=ax.resolve_left (by simp[hF]);simp[g445,y,k2,D,H,c1,c2,c3,P,O,c6,e2,f,g,hF,hG,o.eQ,o.flat,o.pO,o.len,o.leaf,R,u,K,E,hf,w,aU]
    .simp[g445,y,k2,D,H,c1,c2,c3,P,O,c6,e2,f,g,hF,o.eQ,o.flat,o.pO,o.len,o.leaf,R,u,K,E,hf,w,aU]
   .have q:=c458g (s:=[⟨0,r 0⟩,⟨1,r 1⟩]) (by simp[Sm]) (l:=ct) (by simp[ct]) fun x hx=>(jv x hx).2.1;rw[VH]at q;let TM:Int->Sh:=fun k=>[some [.pv (.ae (L.map vI)),.pv (vI j2)]]++[some [.pv (.ae (M.map vI)),.pv (vI k)]]++[]
    have a4:Tape M 1 TM:=JJ (A:=[some [.pv (.ae (L.map vI)),.pv (vI j2)]]) (aY.one (by intro v W;simp at W;rcases W with rfl|rfl<;>exact⟨_,rfl⟩)) (by intro cs h;simp at h);obtain⟨s,b,j,e3,ab,a0,ay⟩:=acM a4 an hD (i:=0) (by omega);obtain⟨lt,a1,a2,d2,E2,Q,U⟩:=both hD he a3 N ai NV aj ac n0 n1 o0 o1 ab a0;have hQ:aY (TM j++nn b):=(a4.ext (jQ b)).quiet j;generalize TM j++nn b=S0 at e3 hQ;generalize ct.map (En.ev r)=E1 at*;generalize d.ev r=d1 at*;have E:=Dv.aG d1;have a5:=Dv.aG d2;rw[BH]at f g q;generalize r 0=r0 at*;generalize r 1=r1 at*;simp at f g q;simp[TM]at e3;by_cases z:s=[]
    .subst z;simp[aV,aS,aT]at e3;simp at Q U;have hq:=hQ.norm;have X:=hQ.shift;cases lt with
     |true=>
      simp[g445,y,k2,D,H,c1,c2,c3,P,O,c6,e2,f,g,o.eQ,o.flat,o.pO,o.len,o.leaf,R,u,K,E,hf,w,aU,q,e3,hq,X,g445L0e,g445B0,Q]
     |false=>
      simp at U;obtain⟨u3,u4,u5,u6,u7⟩:=U;simp[g445,y,k2,D,H,c1,c2,c3,P,O,c6,e2,f,g,o.eQ,o.flat,o.pO,o.len,o.leaf,R,u,K,E,a5,hf,w,aU,q,e3,hq,X,g445L0e,g445B0,Q,u3,u4,u5,u6,u7]
    .have hN:s.length<=1000:=(by omega);have C:∀c:List As,aY (S0++[some (bW As.c6 c)]):=fun c=>hQ.app (aY.one fG)
     have T:=ab4 (dsv:=.ae (ds.map Dt.pv)) (Ev:=.ae (E1.map En.pv)) (e:=e) (d:=d1) (B:=S0.length) (N:=s.length) hN (SA:=fun c=>S0++[some (bW As.c6 c)]) (by simp) (by simp) C _ 0 rfl (by omega) s rfl fun a ha=>(by
      rw[zar]at ha;exact(a0 a ha).2.ok (fun d hd=>(cM d (hD.all d hd)).1) (fun t ht=>(Sa t ht).1))
     rw[zcQ,zaQ,zar]at T;have al:=ZA (l:=s.map uE);rw[zaD]at al;have nl:(bW As.c6 (s.map uE)).length=s.length*6:=by rw[gX sZ,zaD]
     have J:=(C s).norm;have Z:=(C s).shift;have I:=(C (s.map uE)).norm;have Y:=(C (s.map uE)).shift
     try simp only at T
     simp[aV,aS,aT,z]at e3;generalize s.map uE=σ at*;generalize bW As.c6 σ=T2 at*;generalize bW As.c6 s=T1 at*;have g2:(S0++[some T2])[S0.length]?=some (some T2):=by simp
     rw[g445L0e]at T;simp[J,I,K,E,Ex.cl]at T;simp at al Q;cases lt with
     |true=>
      simp[g445,y,k2,D,H,c1,c2,c3,P,O,c6,e2,f,g,o.eQ,o.flat,o.pO,o.len,o.leaf,R,u,K,E,hf,w,aU,q,e3,J,Z,I,Y,g445L0e,T,Q,al,g2,nl]
     |false=>
      simp at U;obtain⟨u3,u4,u5,u6,u7⟩:=U;simp[g445,y,k2,D,H,c1,c2,c3,P,O,c6,e2,f,g,o.eQ,o.flat,o.pO,o.len,o.leaf,R,u,K,E,a5,hf,w,aU,q,e3,J,Z,I,Y,g445L0e,T,Q,al,g2,nl,u3,u4,u5,u6,u7]
  .simp[hL,hM]at y k2 D;simp[g445,y,k2,D]
 .simp[hL]at y k2;simp[g445,y,k2]
end Go.Ab.Lw
