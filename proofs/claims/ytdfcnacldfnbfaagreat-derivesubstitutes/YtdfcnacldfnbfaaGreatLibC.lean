import Derived.Test.YtdfcnacldfnbfaaGreatLibB
/- What functions of the given program answer, told of their slim code on the abstract machine. -/
set_option linter.defProp false
set_option linter.unusedVariables false
set_option linter.unusedSimpArgs false
set_option linter.unnecessarySimpa false
set_option maxRecDepth 100000
set_option maxHeartbeats 8000000
namespace Go.Ab
def zde:=@List.length_zip
def zb4:=@List.getElem?_zip_eq_some
def zcK:=@List.of_mem_zip
def zc5:=@List.map_flatMap
def zdf:=@List.any_append
def zcC:=@List.filter_cons_of_pos
def zct:=@Option.isSome_iff_exists
def zcT:=@Bool.false_and
end Go.Ab
namespace Go.Ab.Lw
open Ev
def lx(t:Ty):Option (Ty×Ty):=if t.kind=4/\t.name=[45,62]then match t.args with|[a,b]=>some (a,b)|_=>none else none
structure Rd where
 h:Ho
 b:Bool
def Su(gen V O:List Int)(j:Nat):Bool:=!decide (gen[j]?.getD 0∈gen.take j) && decide (gen[j]?.getD 0∈V) && !decide (gen[j]?.getD 0∈O)
def jV(gen V O:List Int)(i:Nat):Bool:=(List.range' i (gen.length-i)).all (Su gen V O)
noncomputable def jj(c:Sc)(d:Dv):Bool:=decide (c.id=d.inst.length) && decide (c.ty.d7 d.inst=d.ty)
def uA(home:Int)(env:List En)(e:Ex)(d:Dv):Ho:=⟨home,e.pos,aW env,d.ty⟩
def jk(d:Dv)(i:Nat):Dv:=d.kids[i]?.getD default
def nL(e:Ex)(i:Nat):Ex:=e.kids[i]?.getD default
def fZ(env:List En)(vs:List bF)(fs:List Ty):List En:=env++(vs.zip fs).map fun p=>⟨p.1,⟨0,p.2⟩⟩
noncomputable def ic(f:List En->Ex->Dv->Option (List Rd))(ds:List Dt)(env:List En)(d:Dv):List Ar->Nat->List Rd->Option (List Rd)
 |[],_,l=>some l
 |a::r,k,l=>match fieldsOf ds a.dy d.inst with
  |none=>none
  |some fs=>if fs.length=a.vars.length/\(jk d k).ty=d.ty then
   match f (fZ env a.vars fs) a.body (jk d k)with
   |some m=>ic f ds env d r (k+1) (l++m)
   |none=>none
    else none
noncomputable def aK(ds:List Dt)(home:Int):Nat->List En->Ex->Dv->Option (List Rd)
 |0,_,_,_=>none
 |n+1,env,e,d=>
  if (e.kind≠6/\e.kind≠7/\d.gen≠[])\/(e.kind≠1/\e.kind≠2/\e.kind≠8/\d.inst≠[])then none
  else if e.kind=1 then match jr env e.name with
   |some c=>if jj c d=true then some []else none
   |none=>none
  else if e.kind=2 then match dH ds e.name with
   |some c=>if jj c d=true then some []else none
   |none=>none
  else if e.kind=3 then if d.ty=a8 then some []else none
  else if e.kind=4 then match lx d.ty with
   |some (a,b)=>if b=(jk d 0).ty then aK ds home n (env++[⟨e.name,⟨0,a⟩⟩]) (nL e 0) (jk d 0)else none
   |none=>none
  else if e.kind=5 then
   if (jk d 0).ty=eh (jk d 1).ty d.ty then
    match aK ds home n env (nL e 0) (jk d 0),aK ds home n env (nL e 1) (jk d 1)with
    |some l,some m=>some (l++m)
    |_,_=>none
   else none
  else if e.kind=6\/e.kind=7 then
   match aK ds home n (if e.kind=7 then env++[⟨e.name,⟨0,(jk d 0).ty⟩⟩]else env) (nL e 0) (jk d 0)with
   |none=>none
   |some l=>if jV d.gen (vars [(jk d 0).ty]) (dQ env++vars (aP (l.map Rd.h))) 0=true/\d.ty=(jk d 1).ty then
    match aK ds home n (env++[⟨e.name,cG d.gen (jk d 0).ty (vars [(jk d 0).ty])⟩]) (nL e 1) (jk d 1)with
    |some m=>some (l++m)
    |none=>none
     else none
  else if e.kind=8 then match eS ds e.aF with
   |none=>none
   |some i=>match ds[i]? with
    |none=>none
    |some D=>if d.inst.length=D.params.length/\(jk d 0).ty=⟨4,D.name,0,0,d.inst⟩then
     match aK ds home n env (nL e 0) (jk d 0)with
     |some l=>ic (aK ds home n) ds env d e.aF 1 l
     |none=>none
      else none
  else if e.kind=9 then if d.ty=e.ty/\d.ty=(jk d 0).ty then aK ds home n env (nL e 0) (jk d 0)else none
  else if e.kind=10 then some [⟨uA home env e d,false⟩]
  else if e.kind=11 then if d.ty=(jk d 0).ty then
   match aK ds home n env (nL e 0) (jk d 0)with
   |some l=>some (l++[⟨uA home env e d,true⟩])
   |none=>none
    else none
  else none
inductive oF (ds:List Dt):(bF->Prop)->Ex->Prop
 |var {K:bF->Prop} {e:Ex}:e.kind=1->K e.name->oF ds K e
 |dy {K:bF->Prop} {e:Ex}:e.kind=2->(gP ds e.name 0).isSome=true->oF ds K e
 |Nc {K:bF->Prop} {e:Ex}:e.kind≠1->e.kind≠2->(e.kind=8->(eS ds e.aF).isSome=true)->(∀(i:Nat)(x:Ex),e.ch[i]?=some x->oF ds (fun s=>K s\/s∈bX e i) x)->oF ds K e
def Q5(ds:List Dt)(K:bF->Prop)(e:Ex)(i:Nat):Prop:=∀(j:Nat)(x:Ex),i<=j->e.ch[j]?=some x->oF ds (fun s=>K s\/s∈bX e j) x
mutual
def Dv.jF:Dv->List Int
 |⟨_,_,g,ks⟩=>g++Dv.Q6 ks
def Dv.Q6:List Dv->List Int
 |[]=>[]
 |d::r=>Dv.jF d++Dv.Q6 r
end
def Dv.JN:∀l:List Dv,Dv.Q6 l=l.flatMap Dv.jF
 |[]=>by simp[Dv.Q6]
 |d::r=>by simp[Dv.Q6,Dv.JN r]
def Dv.jf(d:Dv):d.jF=d.gen++d.kids.flatMap Dv.jF:=by
 cases d;simp only[Dv.jF,Dv.JN]
def pP(t:Ty):Bool:=!t.gC 2 && !t.gC 5
def iI(t:Ty):Bool:=dx t && pP t
theorem Em(t:Ty):pP t=(!decide (t.kind=2) && !decide (t.kind=5) && !(t.args.any fun x=>!pP x)):=by
 unfold pP;rw[Ty.o_,Ty.o_]
 have key:∀l:List Ty,(l.any fun x=>!(!x.gC 2 && !x.gC 5))=(l.any (Ty.gC 2)|| l.any (Ty.gC 5)):=by
  intro l;induction l with
  |nil=>rfl
  |cons a r b=>
   simp only[zbU,b];cases a.gC 2<;>cases a.gC 5<;>cases r.any (Ty.gC 2)<;>cases r.any (Ty.gC 5)<;>rfl
 rw[key];cases decide (t.kind=2)<;>cases decide (t.kind=5)<;>cases t.args.any (Ty.gC 2)<;>cases t.args.any (Ty.gC 5)<;>rfl
variable{u T J:Ty}{d y C f o:Dv}{e b:Ex}{s s':List Sl}{v home pos w p':Int}{n N E i0 j n0 tm dep:Nat}{h:Ho}{m m' m1:Mc}{ds:List Dt}{H:Prop}{as L fs I:List Ty}{W W':Int->Prop}{B:List ((Int->Prop)×List Int)}{r:Int->Ty}{G g gen V O:List Int}{x:En}{rs:List Ho}{K:bF->Prop}{hd:List Bool}{vs:List bF}{D:Dt}{ks ks':List Dv}{TP:Int->Sh}{sh:Sh}{ts:aH}{fit:Option (List Rd)}{q:Bool}{envF:List En}{acc:List Rd}
def c517g(c:u.Ok):(aE AP).p 517 [u.pv]=some [.bool (pP u)]:=by
 revert c
 refine Ty.cb (p:=fun u=>u.Ok->(aE AP).p 517 [u.pv]=some [.bool (pP u)]) ?_ u;intro u d c
 have e:=c75 c.sm (sh:=[]) (by intro cs h;simp at h) (g:=520) (cap:=[]) (p:=fun x=>!pP x) rfl rfl rfl (fun _ _=>rfl) rfl (by
  intro x hx;have a:=d x hx (c.df x hx);simp at a;rw[aC g520];simp[g520,a])
 rw[Em];generalize (u.args.any fun x=>!pP x)=b at*;rw[aB g517];by_cases h2:u.kind=2
 .simp[g517,h2]
 .by_cases h5:u.kind=5
  .simp[g517,h5]
  .cases b<;>simp[g517,h2,h5,e]
structure TyD(t:Ty):Prop where
 ok:t.Ok
 nm:t.Nm
def c502g(h:TyD u):(aE AP).p 502 [u.pv]=some [.bool (iI u)]:=by
 have a:=c29 h.ok h.nm;have k2:=c517g h.ok;unfold iI;rw[aB g502];cases e1:dx u<;>rw[e1]at a<;>simp at a k2<;>simp[g502,a,k2]
inductive Dv.Sd:Dv->Prop
 |mk {d:Dv}:TyD d.ty->(∀t∈d.inst,TyD t)->d.inst.length<=1000->d.gen.length<=1000000->d.kids.length<=1000->(∀x∈d.kids,x.Sd)->d.Sd
def Dv.Sd.t(h:d.Sd):TyD d.ty:=by cases h;assumption
def Dv.Sd.i(h:d.Sd):∀t∈d.inst,TyD t:=by cases h;assumption
def Dv.Sd.il(h:d.Sd):d.inst.length<=1000:=by cases h;assumption
def Dv.Sd.gl(h:d.Sd):d.gen.length<=1000000:=by cases h;assumption
def Dv.Sd.kl(h:d.Sd):d.kids.length<=1000:=by cases h;assumption
def Dv.Sd.k(h:d.Sd):∀x∈d.kids,x.Sd:=by cases h;assumption
inductive Is:Ex->Dv->Prop
 |mk {e:Ex} {d:Dv}:e.ch.length=d.kids.length->iI d.ty=true->(∀t∈d.inst,iI t=true)->(∀p∈e.ch.zip d.kids,Is p.1 p.2)->Is e d
open Classical in
noncomputable def pA(e:Ex)(d:Dv):Bool:=decide (Is e d)
def UG(e:Ex)(d:Dv):pA e d=(decide (e.ch.length=d.kids.length) && iI d.ty && !(d.inst.any fun t=>!iI t) && (e.ch.zip d.kids).all fun p=>pA p.1 p.2):=by
 rw[za0];unfold pA;simp only[zaS,zaj,zcc,zbl,zas];constructor
 .intro h;cases h with
  |mk h1 h2 h3 h4=>exact⟨⟨⟨h1,h2⟩,fun t ht=>by simp[h3 t ht]⟩,h4⟩
 .rintro⟨⟨⟨h1,h2⟩,h3⟩,h4⟩
  exact .mk h1 h2 (fun t ht=>by simpa using h3 t ht) h4
def iS(d:Dv):List AV:=[.pv (vI d.ty.kind),.pv (.str d.ty.name),.pv (vI d.ty.id),.pv (vI d.ty.home),.pv (.ae (d.ty.args.map Ty.pv)),.pv (.ae (d.inst.map Ty.pv)),.pv (.ae (d.gen.map vI)),.pv (.ae (d.kids.map Dv.pv))]
def UH(d:Dv)(c:List Ex):Bool->Option (aX×St)
 |true=>some (.exit 0,⟨[(3,.au 3 0),(27,.pv (.ae (c.map Ex.pv))),(28,.pv (vI c.length)),(29,.pv (vI c.length)),(30,.pv (.bool false))],[(3,iS d)],[],[]⟩)
 |false=>some (.ret,⟨[(4,.pv (.bool false))],[],[],[]⟩)
def abE{c:List Ex}(hl:c.length=d.kids.length)(j:d.kids.length<=1000)(h:∀p∈c.zip d.kids,(aE AP).p 484 [p.1.pv,p.2.pv]=some [.bool (pA p.1 p.2)]):∀(n i:Nat),c.length-i=n->i<=c.length->
   cl AP g484L0 ⟨[(3,.au 3 0),(27,.pv (.ae (c.map Ex.pv))),(28,.pv (vI c.length)),(29,.pv (vI i))],[(3,iS d)],[],[]⟩=UH d c (((c.zip d.kids).drop i).all fun p=>pA p.1 p.2)
 |0,i,hn,hi=>by
  have:i=c.length:=by omega
  subst this;have e:(c.zip d.kids).drop c.length=[]:=za6 (by rw[zde];exact Nat.min_le_left _ _);rw[g484L0e,e];simp[g484B0,iS,UH]
 |n+1,i,hn,hi=>by
  have hi:i<c.length:=(by omega);obtain⟨x,hx⟩:=aR hi;obtain⟨y,hy⟩:=aR (l:=d.kids) (i:=i) (by omega);have g:(c.zip d.kids)[i]?=some (x,y):=(by rw[zb4];exact⟨hx,hy⟩);have a:=h (x,y) (aM g);have f:=abE hl j h n (i+1) (by omega) (by omega);have b:i<d.kids.length:=(by omega);rw[aZ g,za1];simp only at a⊢;generalize (((c.zip d.kids).drop (i+1)).all fun p=>pA p.1 p.2)=R at*;rw[g484L0e]at f⊢;cases e:pA x y with
  |true=>
   rw[e]at a;simp at a;rw[zbq,<-f];simp(disch:=omega)[-getElem?_pos,g484B0,iS,hx,hy,hi,b,a,aq];rw[g484L0e];simp[g484B0,iS]
  |false=>
   rw[e]at a;simp at a;simp(disch:=omega)[-getElem?_pos,g484B0,iS,hx,hy,hi,b,a,UH]
def c484(h:e.Ok):∀{d:Dv},d.Sd->(aE AP).p 484 [e.pv,d.pv]=some [.bool (pA e d)]:=by
 induction h with
 | @mk e o u n ht r m=>
  intro d hd;have v:=Ex.Ok.mk o u n ht r;have f:=c414 v;have k2:=c502g hd.t;have q:=hd.il;have l:=hd.kl
  have c:=c75 (s:=d.inst) (by unfold Sm;omega) (sh:=[]) (by intro cs h;simp at h) (g:=503) (cap:=[]) (p:=fun x=>!iI x) rfl rfl rfl (fun _ _=>rfl) rfl (by
   intro x hx;have a:=c502g (hd.i x hx);simp at a;rw[aC g503];simp[g503,a])
  rw[UG];rw[aB g484];by_cases hl:e.ch.length=d.kids.length
  .have L:=abE hl l (fun p hp=>m p.1 (zcK hp).1 (hd.k _ (zcK hp).2)) _ 0 rfl (by omega);rw[zar,g484L0e]at L;generalize ((e.ch.zip d.kids).all fun p=>pA p.1 p.2)=R at*;generalize (d.inst.any fun t=>!iI t)=b at*;cases e1:iI d.ty<;>rw[e1]at k2<;>cases b<;>cases R<;>simp[UH,iS,hl]at f k2 c L<;>simp[g484,hl,f,k2,c,g484L0e,L]
  .have j:¬(e.ch.length:Int)=d.kids.length:=(by omega);simp at f;simp[g484,hl,j,f]
def ER:Option (Ty×Ty)->List PV
 |some (a,b)=>[a.pv,b.pv,.bool true]
 |none=>[cA.pv,cA.pv,.bool false]
def Eo{l:List Ty}(h:l.length=2):∃a b,l=[a,b]:=by
 match l,h with
 |[a,b],_=>exact⟨a,b,rfl⟩
def kG(h:¬(u.kind=4/\u.name=[45,62]/\u.args.length=2)):lx u=none:=by
 unfold lx;split
 .rename_i q;split
  .rename_i a b e;exact absurd ⟨q.1,q.2,by rw[e];rfl⟩ h
  .rfl
 .rfl
def zn(h1:u.kind=4)(h2:u.name=[45,62])(h3:u.args=[T,J]):lx u=some (T,J):=by
 unfold lx;rw[zai ⟨h1,h2⟩,h3]
def c509{t:Ty}:(aE AP).p 509 [t.pv]=some (ER (lx t)):=by
 rw[aB g509];by_cases h1:t.kind=4
 .by_cases h2:t.name=[45,62]
  .by_cases h3:t.args.length=2
   .obtain⟨a,b,e⟩:=Eo h3;rw[zn h1 h2 e];simp[g509,h1,h2,e,ER]
   .rw[kG (fun q=>h3 q.2.2)];have h4:¬(t.args.length:Int)=2:=by omega
    simp[g509,h1,h2,h3,h4,ER,cA]
  .rw[kG (fun q=>h2 q.2.1)];simp[g509,h1,h2,ER,cA]
 .rw[kG (fun q=>h1 q.1)];simp[g509,h1,ER,cA]
def c194h{t:Ty}:(aE AP).p 194 [t.pv]=some (ER (lx t)):=by
 rw[aB g194];by_cases h1:t.kind=4
 .by_cases h2:t.name=[45,62]
  .by_cases h3:t.args.length=2
   .obtain⟨a,b,e⟩:=Eo h3;rw[zn h1 h2 e];simp[g194,h1,h2,e,ER]
   .rw[kG (fun q=>h3 q.2.2)];have h4:¬(t.args.length:Int)=2:=by omega
    simp[g194,h1,h2,h3,h4,ER,cA]
  .rw[kG (fun q=>h2 q.2.1)];simp[g194,h1,h2,ER,cA]
 .rw[kG (fun q=>h1 q.1)];simp[g194,h1,ER,cA]
def Q7:∀{m:Nat}{t:Ty},RT s (wk s m t) v->RT s t v
 |0,t,h=>h
 |m+1,t,h=>by
  unfold wk at h;split at h
  .rename_i x hx;obtain⟨k,i,hi,hx,b⟩:=cq hx;obtain⟨w,a,hr⟩:=Q7 h;exact⟨t.id,.var k,.step ⟨i,x,hi,hx,b,a⟩ hr⟩
  .exact h
def WQ(b:¬jR s v):∀{m:Nat}{t:Ty},RT s t v->RT s (wk s m t) v
 |0,t,h=>h
 |m+1,t,h=>by
  unfold wk;split
  .rename_i x hx;obtain⟨k,i,hi,hx,c⟩:=cq hx;refine WQ b ?_;obtain⟨w,a,hr⟩:=h;rw[da k a]at hr;cases hr with
   |refl=>exact absurd ⟨i,x,hi,hx,c⟩ b
   |step e hr=>
    obtain⟨j,y,e1,hy,_,a⟩:=e;have:j=i:=by omega
    subst this;rw[hx]at hy;cases hy;exact⟨_,a,hr⟩
  .exact h
def A7.gZ(g:xS s)(h:A7 s T u):∀v,cf u v<->RT s T v/\¬jR s v:=by
 induction h with
 | @mk T u h1 h2 h3 h4 h5 _ e=>
  intro v;constructor
  .intro c;cases c with
   |var k=>
    have kw:(dY s T).kind=1:=(by rw[<-h1];exact k);rw[h3];exact⟨Q7 (m:=s.length+1) ⟨_,.var kw,.refl _⟩,iF kw (mB g)⟩
   | @arg _ a _ k hm c=>
    obtain⟨i,hi⟩:=zaY hm;have hl:=(zaa.1 hi).1;obtain⟨b,f⟩:=aR (l:=(dY s T).args) (i:=i) (by omega);obtain⟨⟨w,hw,hr⟩,hf⟩:=(e i b a f hi v).1 c;exact⟨Q7 (m:=s.length+1) ⟨w,.arg (by change (dY s T).kind≠1;rw[<-h1];exact k) (aM f) hw,hr⟩,hf⟩
  .rintro⟨hr,hf⟩
   obtain⟨w,c,hr⟩:=WQ (m:=s.length+1) hf hr
   change cf (dY s T) w at c
   cases c with
   |var k=>
    have:=oq hr (iF k (mB g));rw[this,<-h3];exact .var (by rw[h1];exact k)
   | @arg _ b _ k hm c=>
    obtain⟨i,hi⟩:=zaY hm;have hl:=(zaa.1 hi).1;obtain⟨a,d⟩:=aR (l:=u.args) (i:=i) (by omega);exact .arg (by rw[h1];exact k) (aM d) ((e i b a hi d v).2 ⟨⟨w,c,hr⟩,hf⟩)
def Ep(h:cf u v):∃y∈u.nodes,y.kind=1/\y.id=v:=by
 induction h with
 | @var u k=>exact⟨u,by rw[Ty.aI];simp,k,rfl⟩
 | @arg u a v _ hm _ b=>
  obtain⟨y,hy,e⟩:=b;exact⟨y,by rw[Ty.aI];simp only[zah,zaf];exact .inr ⟨a,hm,hy⟩,e⟩
def UI{s:List As}:∀v,cf (u.sub s) v->(cf u v/\cR s v=none)\/∃i x,cR s i=some x/\cf x v:=by
 refine Ty.cb (p:=fun u=>∀v,cf (u.sub s) v->(cf u v/\cR s v=none)\/∃i x,cR s i=some x/\cf x v) ?_ u;intro u d v h;rw[Ty.sub_eq]at h;by_cases q:u.kind=1
 .rw[zai q]at h;cases e:cR s u.id with
  |some x=>rw[e]at h;exact .inr ⟨_,x,e,by simpa using h⟩
  |none=>
   rw[e]at h;have h:cf u v:=by simpa using h
   have:=da q h;rw[<-this]at e;exact .inl ⟨h,e⟩
 .rw[zad q]at h;cases h with
  |var k=>exact absurd k q
  | @arg _ a _ k hm f=>
   simp only[zak]at hm;obtain⟨b,c,rfl⟩:=hm;rcases d b c v f with⟨h1,h2⟩|h
   .exact .inl ⟨.arg q c h1,h2⟩
   .exact .inr h
structure ly(n:Nat)(c:Sc):Prop where
 ok:c.ty.Ok
 kn:c.ty.Kn KV
 JF:∃K:Nat,c.id=K/\K<=200/\QE K c.ty
 gZ:∀w,cf c.ty w->w∈mC n
def ly.bS{c:Sc}(h:ly n c)(hm:n<=N):ly N c:=⟨h.ok,h.kn,h.JF,fun w a=>mF hm w (h.gZ w a)⟩
def eg.bS(h:eg n u)(hm:n<=N):eg N u:=Fit.bS h (mF hm)
def eg.mono{t:Ty}(h:eg n t):ly n ⟨0,t⟩:=⟨h.ok,h.wf.imp pL,⟨0,rfl,by omega,by
 intro y hy a;have:=(h.wf.nodes y hy (by rw[a];decide)).1;rw[a]at this;simp at this⟩,h.gZ⟩
def Nd(l:u.Ok)(f:u.Kw)(hn:u.nodes.length<=200)(g:∀w,cf u w->w∈mC n)(ids:List Int):ly n (cG ids u (vars [u]))/\∀w,cf (cG ids u (vars [u])).ty w->cf u w/\w∉ids:=by
 have o:=Bp (u:=u);obtain⟨c1,c2,_,m⟩:=lr (ids:=ids) (vars [u]) [] (by simp)
 have gZ:∀w,cf (cG ids u (vars [u])).ty w->cf u w/\w∉ids:=by
  intro w h;rcases UI w h with⟨h1,h2⟩|⟨i,x,hx,hw⟩
  .refine⟨h1,fun hi=>?_⟩;obtain⟨y,hy,k,e⟩:=Ep h1;obtain⟨x,hx⟩:=m w (by rw[<-e];exact mI (by simpa using hy) k) hi;rw[h2]at hx;cases hx
  .obtain⟨a,d,rfl⟩:=eW hx;obtain⟨k,_,e⟩:=c1 a d;rw[e]at hw;cases hw with
   |var q=>simp[bm]at q
   |arg _ hm _=>simp[bm]at hm
 refine⟨⟨qo l,?_,⟨(bJ ids (vars [u]) []).length,rfl,by simp at c2;omega,?_⟩,fun w h=>g w (gZ w h).1⟩,gZ⟩
 .refine oz (K:=KS) f (by simp only[KS,KV];omega) ?_ (.inl (by simp));intro i z b;obtain⟨a,d,rfl⟩:=eW b;obtain⟨k,_,e⟩:=c1 a d;rw[e];exact .bare rfl (by simp[bm]) (by simp[bm])
 .intro y hy c;rcases zk y hy with⟨i,z,b,hy⟩|⟨z,b,e⟩
  .obtain⟨a,d,rfl⟩:=eW b;obtain⟨k,j,e⟩:=c1 a d;rw[e,Ty.aI]at hy;simp[bm]at hy;subst hy;simp only;omega
  .have:=(f.nodes z b (by rw[<-e,c];decide)).1;rw[<-e,c]at this;simp at this
def Nf(k:Nat):List AV:=[.pv (vI 0),.pv (vI 0),.pv (.str []),.pv (vI 0),.pv (vI 0),.own [] k]
def WR{m:Mc}{r:Ty}{E:List En}(e:E.length<=1000000){F:Int}:∀(k i:Nat),E.length-i=k->i<=E.length->∀acc:List Ty,acc.length=i->
   cl AP g370L0 ⟨[(0,.aL 0 0),(3,.pv (vI F)),(10,.au 10 0),(12,.au 12 0),(14,.own (acc.map Ty.pv) 0),(15,.pv (.ae (E.map En.pv))),(16,.pv (vI i))],[(10,Nf 1),(12,tC r)],[some (m.cx 2)],[acc.length,0,m.rc.length,m.hd.length]⟩=
     some (.exit 0,⟨[(0,.aL 0 0),(3,.pv (vI F)),(10,.au 10 0),(12,.au 12 0),(14,.own ((acc++(E.drop i).map fun x=>x.sc.ty).map Ty.pv) 0),(15,.pv (.ae (E.map En.pv))),(16,.pv (vI E.length)),(55,.pv (.bool false))],[(10,Nf 1),(12,tC r)],[some (m.cx 2)],[E.length,0,m.rc.length,m.hd.length]⟩)
 |0,i,c,hi,acc,b=>by
  have:i=E.length:=by omega
  subst this;rw[g370L0e];simp[g370B0,Nf,tC,Mc.cx,b]
 |k+1,i,c,hi,acc,b=>by
  have hi:i<E.length:=(by omega);obtain⟨x,hx⟩:=aR hi;have a:=WR (m:=m) (r:=r) e (F:=F) k (i+1) (by omega) (by omega) (acc++[x.sc.ty]) (by simp;omega);have d:(acc.length+1)*64<=140737488355328:=(by omega);rw[aZ hx];rw[g370L0e]at a⊢;simp[Nf,tC,Mc.cx]at a;simp(disch:=omega)[-getElem?_pos,g370B0,Nf,tC,Mc.cx,hi,hx,d,aq];rw[g370L0e];simp[a]
def Q8{m:Mc}{r:Ty}{kept v:List Int}(c:Sm kept)(d:v.length<=1000000):∀(n i:Nat),v.length-i=n->i<=v.length->∀gen:List Int,gen.length<=i->
   cl AP g370L1 ⟨[(10,.au 10 0),(12,.au 12 0),(17,.pv (.ae (kept.map vI))),(18,.pv (.ae (v.map vI))),(19,.own (gen.map vI) 0),(20,.pv (vI i))],[(10,Nf 1),(12,tC r)],[some (m.cx 2)],[gen.length,0,m.rc.length,m.hd.length]⟩=
     some (.exit 2,⟨[(10,.au 10 0),(12,.au 12 0),(17,.pv (.ae (kept.map vI))),(18,.pv (.ae (v.map vI))),(19,.own ((gen++(v.drop i).filter fun w=>decide (w∉kept)).map vI) 0),(20,.pv (vI v.length)),(87,.pv (.bool false))],[(10,Nf 1),(12,tC r)],[some (m.cx 2)],[(gen++(v.drop i).filter fun w=>decide (w∉kept)).length,0,m.rc.length,m.hd.length]⟩)
 |0,i,hn,hi,gen,f=>by
  have:i=v.length:=by omega
  subst this;rw[g370L1e];simp[g370B1,Nf,tC,Mc.cx]
 |n+1,i,hn,hi,gen,f=>by
  have hi:i<v.length:=(by omega);obtain⟨x,hx⟩:=aR hi;have b:=c95 c (y:=x);have e:bj 1 (gen.map vI)=true:=gL.head gen;have g:(gen.length+1)*8<=140737488355328:=(by omega);rw[aZ hx];by_cases q:x∈kept
  .have a:=Q8 (m:=m) (r:=r) c d n (i+1) (by omega) (by omega) gen (by omega);rw[zaE q]at b;rw[g370L1e]at a⊢;simp[Nf,tC,Mc.cx]at a;simp(disch:=omega)[-getElem?_pos,g370B1,Nf,tC,Mc.cx,hi,hx,b,aq,q];rw[g370L1e];simp[a,List.filter_cons,q]
  .have a:=Q8 (m:=m) (r:=r) c d n (i+1) (by omega) (by omega) (gen++[x]) (by simp;omega);rw[zaB q]at b;rw[g370L1e]at a⊢;simp[Nf,tC,Mc.cx]at a;simp(disch:=omega)[-getElem?_pos,g370B1,Nf,tC,Mc.cx,hi,hx,b,aq,q,g,e];rw[g370L1e];simp[a,q,List.filter_cons]
structure l6(n:Nat)(h:Ho):Prop where
 ctx:∀x∈h.ctx,ly n x.sc
 len:h.ctx.length<=1000000
 goal:eg n h.goal
def l6.bS(r:l6 n h)(hm:n<=N):l6 N h:=⟨fun x hx=>(r.ctx x hx).bS hm,r.len,r.goal.bS hm⟩
def l6.kf{l:List Ho}(hl:∀h∈l,l6 n h):∀t∈aP l,t.Ok/\∀w,cf t w->w∈mC n:=by
 intro t ht;simp only[aP,zaf,zae,zak,zaU]at ht;obtain⟨h,a,⟨x,hx,rfl⟩|rfl⟩:=ht
 .exact⟨((hl h a).ctx x hx).ok,((hl h a).ctx x hx).gZ⟩
 .exact⟨(hl h a).goal.ok,(hl h a).goal.gZ⟩
def ZY(f:Bool)(c:Sc):AV:=.agg [.pv (vI c.id),.pv (vI c.ty.kind),.pv (.str c.ty.name),.pv (vI c.ty.id),.pv (vI c.ty.home),ib f (c.ty.args.map Ty.pv)]
def Ng(m:Mc)(c:Sc)(gen:List Int)(b:Bool):List AV×Sh×aH:=([ZY b c,.own (gen.map vI) 0],[some (m.cx 1)],[gen.length,m.rc.length,m.hd.length])
structure Bq(s:List Sl)(t:Ty)(L:List Ty)(u:Ty)(gen:List Int)(c:Sc):Prop where
 res:A7 s t u
 kw:u.Kw
 gZ:∀v,cf u v<->RT s t v/\¬jR s v
 g:∃kept:List Int,gen=(vars [u]).filter (fun w=>decide (w∉kept))/\∀v,v∈kept<->∃x∈L,RT s x v/\¬jR s v
 e:c=cG gen u (vars [u])
 cl:∀w,cf c.ty w->cf u w/\w∉gen
def c370(I:qF n m.s)(hn:n<=1000000){t:Ty}(G:eg n t){env:List En}(hE:env.length<=1000000)(he:∀x∈env,ly n x.sc)(hr:∀h∈m.rc,l6 n h)(hl:m.rc.length<=100000){F:Nat}(hF:F<=m.rc.length)(p:Int):
   ∃(c:Sc)(gen:List Int)(b:Bool)(e' p':Int),(aE AP).i 370 [.aL 0 0,.pv t.pv,.pv (.ae (env.map En.pv)),.pv (vI F),.pv (vI p)] m.sh m.tk=some (Ng {m with err:=e',pos:=p'} c gen b)/\ly n c/\gen.length<=1000 /\
     (∀w,cf c.ty w->¬jR m.s.sl w/\((∃x∈aW env,RT m.s.sl x.sc.ty w)\/∃u∈aP (m.rc.drop F),RT m.s.sl u w))/\(e'=0->m.err=0/\∃u,Bq m.s.sl t ((aW env).map (fun x=>x.sc.ty)++aP (m.rc.drop F)) u gen c):=by
 have zS:ly n ⟨0,cA⟩:=⟨bw rfl,.bare rfl (by simp[cA]) (by simp[cA]),⟨0,rfl,by omega,by intro y hy hk;rw[Ty.aI]at hy;simp[cA]at hy;subst hy;simp at hk⟩,by
  intro w h;cases h with
  |var q=>simp[cA]at q
  |arg _ hm _=>simp[cA]at hm⟩
 have zO:∀w,cf (As.mk 0 cA).ty w->¬jR m.s.sl w/\((∃x∈aW env,RT m.s.sl x.sc.ty w)\/∃u∈aP (m.rc.drop F),RT m.s.sl u w):=by
  intro w h;cases h with
  |var q=>simp[cA]at q
  |arg _ hm _=>simp[cA]at hm
 have j:Sm m.s.sl:=by unfold Sm;rw[I.len];omega
 by_cases h0:m.err=0
 .obtain⟨r,D,_,_,kT⟩:=c355 j I.ok (m:=200) (by omega) G.ok;by_cases h2:200<r
  .refine⟨⟨0,cA⟩,[],true,15,p,?_,zS,by simp,zO,fun q=>absurd q (by decide)⟩;have g:(200:Int)<r:=by omega
   simp at D;rw[aC g370];simp[g370,Mc.sh,Mc.tk,Mc.cells,h0,D,g,Ng,ib,ZY,cA,Mc.cx]
  .obtain⟨u,k2,J,uN,H⟩:=c358y j I.ok G.ok (kT (by omega)) (by omega);have K:=H.kw I.wf G.wf;have C:=H.gZ I.rz;have Z:=c201 (l:=env) (by unfold Sm;omega);have a2:=gM env;have hs:∀x∈aW env,ly n x.sc:=fun x hx=>he x (cd env x hx)
   have A:=WR (m:=m) (r:=u) (E:=aW env) (by omega) (F:=F) _ 0 rfl (by omega) [] rfl;have d:∀h∈m.rc.drop F,l6 n h:=fun h f=>hr h (zbY f)
   have Y:=c356 (l:=m.rc.drop F) (by simp;omega) (fun h f=>(d h f).len);have P:=lu (l:=m.rc.drop F) (fun h f=>(d h f).len);have Q:(m.rc.drop F).length<=100000:=(by simp;omega);have a0:(aP (m.rc.drop F)).length<=100000*1000001:=zaI P (zaH _ Q);have kf:=l6.kf d
   obtain⟨kept,X,kC,L⟩:=c372 (s:=m.s) (S:=(mC n).ids) (by rw[I.len];exact hn) I.rz I.ok I.gZ (Uh hn).ym (l:=(aW env).map (fun x=>x.sc.ty)++aP (m.rc.drop F)) (by unfold Sm;simp;omega) (by
    intro t ht;simp only[zae,zak]at ht;rcases ht with⟨x,hx,rfl⟩|ht
    .exact(hs x hx).ok
    .exact(kf t ht).1) (by
    intro t ht;simp only[zae,zak]at ht;rcases ht with⟨x,hx,rfl⟩|ht
    .exact(hs x hx).gZ
    .exact(kf t ht).2)
   have a3:=o7 (k:=1) (t:=u);have V:T3 u:=⟨J,K.wf,u.gk 1,by omega,fun y hy=>bw (mA y hy),fun y hy=>hy⟩;obtain⟨S1,f1,f2,f3⟩:=V.ym;have M:=c56 f1 f2 (l:=[u]) (by simp[Sm]) (by simpa using J) (by simpa using f3);rw[lh (by simpa using V.wf)]at M;have a1:=Bp (u:=u);have B:=Q8 (m:=m) (r:=u) (kept:=kept) kC.len (v:=vars [u]) (by omega) _ 0 rfl (by omega) [] (by simp);have a4:((vars [u]).filter fun w=>decide (w∉kept)).length<=(vars [u]).length:=zcN _ _;have W:=c208 V (ids:=(vars [u]).filter fun w=>decide (w∉kept)) (by unfold Sm;omega)
   obtain⟨c1,c2⟩:=Nd (n:=n) J K (by omega) (fun w hw=>by
    obtain⟨⟨o,R,hr⟩,_⟩:=(C w).1 hw
    have key:∀{a b:Int},t8 m.s.sl a b->a∈mC n->b∈mC n:=by
     intro a b h;induction h with
     |refl=>exact fun h=>h
     |step e _ ih=>
      intro _;obtain⟨k,x,_,hx,_,R⟩:=e;exact ih (I.gZ x (aM hx) _ R)
    exact key hr (G.gZ o R)) ((vars [u]).filter fun w=>decide (w∉kept))
   refine⟨cG ((vars [u]).filter fun w=>decide (w∉kept)) u (vars [u]),(vars [u]).filter fun w=>decide (w∉kept),false,0,m.pos,?_,c1,by omega,?_,fun _=>⟨h0,u,H,K,C,⟨kept,rfl,L⟩,rfl,c2⟩⟩
   .have f:=mo.head ((aW env).map fun x=>x.sc.ty);rw[zbd]at f;have z:=Wz (sz:=8) (τ:=2) (l:=m.rc.map Ho.pv) (k:=.i64) (h:=(F:Int)) (by omega) (by simp;omega) (Wm.head _);have hT:Sm (aP (m.rc.drop F)):=(by unfold Sm;omega);have a5:(F:Int)<=m.rc.length:=(by omega);have bb:((aW env).length+(aP (m.rc.drop F)).length)*64<=140737488355328:=(by omega);have U:bj 1 (((vars [u]).filter fun w=>decide (w∉kept)).map vI)=true:=gL.head _;clear c1 c2 C L kf hs d;generalize cG ((vars [u]).filter fun w=>decide (w∉kept)) u (vars [u])=c at*;generalize hG:((vars [u]).filter fun w=>decide (w∉kept))=gen at*;generalize vars [u]=v at*;generalize aW env=E at*;rw[g370L0e]at A;rw[g370L1e]at B;rw[zar]at A B;rw[hG]at B;have g:¬(200:Int)<r:=(by omega);simp[Nf,tC,Mc.cx,h0]at A B;simp at D k2 Z Y X M W z;rw[aC g370];simp(disch:=omega)[-getElem?_pos,g370,Mc.sh,Mc.tk,Mc.cells,h0,D,g,k2,Z,g370L0e,A,Y,X,M,g370L1e,B,W,Ng,ib,ZY,Mc.cx,z,f,U,bb]
   .intro w hw;obtain⟨hu,T⟩:=c2 w hw;obtain⟨_,hf⟩:=(C w).1 hu;refine⟨hf,?_⟩;obtain⟨y,hy,yk,ye⟩:=Ep hu;have N:w∈vars [u]:=by rw[<-ye];exact mI (by simpa using hy) yk
    have O:w∈kept:=by
     by_cases q:w∈kept
     .exact q
     .exact absurd (zbI.2 ⟨N,by simpa using q⟩) T
    obtain⟨t',ht,hr,_⟩:=(L w).1 O;simp only[zae,zak]at ht;rcases ht with⟨x,hx,rfl⟩|ht
    .exact .inl ⟨x,hx,hr⟩
    .exact .inr ⟨t',ht,hr⟩
 .refine⟨⟨0,cA⟩,[],true,m.err,m.pos,?_,zS,by simp,zO,fun q=>absurd q h0⟩;rw[aC g370];simp[g370,Mc.sh,Mc.tk,Mc.cells,h0,Ng,ib,ZY,cA,Mc.cx]
def Q9(F G:BM):BM:=if F.1≠0 then F else G
def abF{b:List bF}{e:Ex}(f:YA e)(hn:b.length<=900000000)
   (o:∀i,∀x∈e.ch,(aE AP).p 366 [.ae (ds.map Dt.pv),.ae ((b++bX e i).map .str),x.pv]=some [fP (x.bW ds (b++bX e i))]):∀(n i:Nat),e.ch.length-i=n->i<=e.ch.length->∀F:BM,(F.1=0->F=(0,0))->∃j:Int,
   cl AP g366L0 ⟨[(0,.pv (.ae (ds.map Dt.pv))),(1,.pv (.ae (b.map .str))),(5,.au 5 0),(6,.au 6 0),(7,.au 7 0),(12,.pv (.ae (e.ch.map Ex.pv))),(13,.pv (vI i))],[(5,e.cl),(6,m2 (0,0)),(7,m2 F)],[],[]⟩=
     some (.exit 1,⟨[(0,.pv (.ae (ds.map Dt.pv))),(1,.pv (.ae (b.map .str))),(5,.au 5 0),(6,.au 6 0),(7,.au 7 0),(12,.pv (.ae (e.ch.map Ex.pv))),(13,.pv (vI j)),(69,.pv (.bool false))],[(5,e.cl),(6,m2 (0,0)),(7,m2 (Q9 F (xa (fun i x=>x.bW ds (b++bX e i)) i (e.ch.drop i))))],[],[]⟩)
 |0,i,w,hi,F,hF=>by
  have:i=e.ch.length:=by omega
  subst this;refine⟨e.ch.length,?_⟩;rw[za9]
  have:Q9 F (xa (fun i x=>x.bW ds (b++bX e i)) e.ch.length [])=F:=by
   unfold Q9;split
   .rfl
   .rename_i q;exact(hF (by simpa using q)).symm
  rw[this];generalize e.ch=C;rw[g366L0e];simp[g366B0]
 |n+1,i,w,hi,F,hF=>by
  have hi:i<e.ch.length:=(by omega);by_cases c:F.1=0
  .obtain⟨x,hx⟩:=aR hi;have t:=Ex.i_ (e:=e);have v:=f.ok.k;have u:=f.ok.a;obtain⟨j,hr⟩:=abF f hn o n (i+1) (by omega) (by omega) (x.bW ds (b++bX e i)) Qo;refine⟨j,?_⟩;have g:=c380 hi f.one.h f.ok;have y:=ot f.ok (i:=i);have z:(b.length+(bX e i).length)*16<=140737488355328:=by omega
   have m:b.length*16<=140737488355328:=(by omega);have r:(bX e i).length*16<=140737488355328:=(by omega);have d:=o i x (aM hx);rw[aZ hx]
   have l:Q9 F (xa (fun i x=>x.bW ds (b++bX e i)) i (x::e.ch.drop (i+1)))=Q9 (x.bW ds (b++bX e i)) (xa (fun i x=>x.bW ds (b++bX e i)) (i+1) (e.ch.drop (i+1))):=by
    simp only[Q9,xa,c];simp
   rw[l];clear l;generalize A:Q9 (x.bW ds (b++bX e i)) (xa (fun i x=>x.bW ds (b++bX e i)) (i+1) (e.ch.drop (i+1)))=G at*;generalize D:x.bW ds (b++bX e i)=E at*;clear o A;have s:=hF c;subst s;generalize bX e i=B at*;generalize e.ch=C at*;rw[g366L0e]at hr⊢;simp at g d hr;by_cases h1:b=[]
   .subst h1;simp only[zbc]at hr;by_cases h2:B=[]
    .subst h2;simp at d;simp(disch:=omega)[-getElem?_pos,g366B0,hi,hx,g,d,aq];rw[g366L0e];simp[hr]
    .simp at d;simp(disch:=omega)[-getElem?_pos,g366B0,hi,hx,g,d,h2,r,aq];rw[g366L0e];simp[hr]
   .by_cases h2:B=[]
    .subst h2;simp at d;simp(disch:=omega)[-getElem?_pos,g366B0,hi,hx,g,d,h1,m,aq];rw[g366L0e];simp[hr]
    .simp(disch:=omega)[-getElem?_pos,g366B0,hi,hx,g,d,h1,h2,z,m,aq];rw[g366L0e];simp[hr]
  .refine⟨i,?_⟩;have:Q9 F (xa (fun i x=>x.bW ds (b++bX e i)) i (e.ch.drop i))=F:=by simp[Q9,c]
   rw[this];generalize e.ch=C at*;rw[g366L0e];simp[g366B0,hi,c]
def c366(hS:Sm ds)(F:∀d∈ds,Sm d.cons):∀(n:Nat){e:Ex},YA e->e.BN n->∀f:List bF,f.length+1000*n<=900000000->(aE AP).p 366 [.ae (ds.map Dt.pv),.ae (f.map .str),e.pv]=some [fP (e.bW ds f)]
 |0,e,_,E,_,_=>by cases E
 |n+1,e,u,E,f,hl=>by
  have I:∀i,∀x∈e.ch,(aE AP).p 366 [.ae (ds.map Dt.pv),.ae ((f++bX e i).map .str),x.pv]=some [fP (x.bW ds (f++bX e i))]:=fun i x hx=>
   c366 hS F n (u.c hx) (E.c x hx) _ (by have:=ot u.ok (i:=i);simp;omega)
  obtain⟨j,h⟩:=abF u (by omega) I _ 0 rfl (by omega) (fm ds f e) Ia;have g:=c145 u.ok;rw[zar]at h;rw[Ex.Bc]
  change _=some [fP (Q9 (fm ds f e) (xa (fun i x=>x.bW ds (f++bX e i)) 0 e.ch))]
  clear I;have k2:=c364 (s:=f) (by unfold Sm;omega) (y:=e.name);have q:=c191 hS F (s:=e.name);have D:=c379 hS F u.ok;have B:=c186 hS (l:=[]) (by simp[Sm]) u.ok.t u.cw.h;have H:=c365 (a:=9) (b:=e.pos);have fT:=c365 (a:=e.ty.formed ds []) (b:=e.pos);generalize Q9 (fm ds f e) (xa (fun i x=>x.bW ds (f++bX e i)) 0 e.ch)=G at*;generalize e.ch=C at*;rw[aB g366];rw[g366L0e]at h;simp at g k2 q D B H fT;generalize J:rn ds e=Q at*;generalize hT:e.ty.formed ds []=T at*;by_cases o:e.kind=1
  .simp only[o]at g;by_cases z:e.name∈f
   .simp[fm,o,z]at h;simp[z]at k2;simp[g366,o,g,k2,g366L0e,h]
   .simp[fm,o,z]at h;simp[z]at k2;simp[g366,o,g,k2,H,g366L0e,h]
  .by_cases m:e.kind=2
   .simp only[m]at g;cases w:gP ds e.name 0 with
    |none=>
     rw[w]at q;simp[rF]at q;simp[fm,m,w]at h;simp[g366,m,g,q,H,g366L0e,h]
    |some r=>
     rw[w]at q;simp[rF]at q;simp[fm,m,w]at h;simp[g366,m,g,q,g366L0e,h]
   .by_cases v:e.kind=8
    .simp only[v]at g;simp[v]at D;simp[fm,v,J]at h;simp[g366,v,g,D,g366L0e,h]
    .by_cases k:e.kind=9
     .simp only[k]at g;by_cases A:T=0
      .subst A;simp[fm,k,hT]at h;simp[g366,k,g,B,g366L0e,h]
      .simp[fm,k,hT,A]at h;simp[g366,k,A,g,B,fT,g366L0e,h]
     .simp[fm,o,m,v,k]at h;simp[g366,o,m,v,k,g,g366L0e,h]
structure Step(H:Prop)(m:Mc)(n a r:Nat)(m':Mc)(n':Nat):Prop where
 st:qF n' m'.s
 le:n<=n'
 up:n'<=n+a
 ext:Ext m.s.sl m'.s.sl
 ds:m'.ds=m.ds
 home:m'.home=m.home
 kB:∃rs hs,m'.rc=m.rc++rs/\m'.hd=m.hd++hs/\rs.length<=r/\hs.length=rs.length/\(∀h∈rs,l6 n' h)/\(H->∀b∈hs,b=false)
def Step.same(st:qF n m'.s)(ext:Ext m.s.sl m'.s.sl)(ds:m'.ds=m.ds)(home:m'.home=m.home)(rc:m'.rc=m.rc)(hd:m'.hd=m.hd):Step H m n 0 0 m' n:=⟨st,zal _,by omega,ext,ds,home,[],[],by simp[rc],by simp[hd],by simp,rfl,by simp,by simp⟩
def Step.trans{H:Prop}{m m1 m2:Mc}{n i g a j r f:Nat}(h:Step H m n a r m1 i)(h':Step H m1 i j f m2 g):Step H m n (a+j) (r+f) m2 g:=by
 obtain⟨rs,hs,e1,e2,e3,e4,e5,l⟩:=h.kB;obtain⟨d,e,f1,f2,f3,o,f5,k⟩:=h'.kB;refine⟨h'.st,zaI h.le h'.le,by have:=h.up;have:=h'.up;omega,h.ext.trans h'.ext,h'.ds.trans h.ds,h'.home.trans h.home,rs++d,hs++e,by rw[f1,e1,zaF],by rw[f2,e2,zaF],by simp;omega,by simp;omega,?_,?_⟩
 .intro x hx;simp only[zae]at hx;rcases hx with hx|hx
  .exact(e5 x hx).bS h'.le
  .exact f5 x hx
 .intro q b c;simp only[zae]at c;rcases c with c|c
  .exact l q b c
  .exact k q b c
def Step.bS{a c r b:Nat}(h:Step H m n a r m' N)(e:a<=c)(hr:r<=b):Step H m n c b m' N:=by
 obtain⟨rs,hs,e1,e2,e3,e4,e5,d⟩:=h.kB;exact⟨h.st,h.le,by have:=h.up;omega,h.ext,h.ds,h.home,rs,hs,e1,e2,by omega,e4,e5,d⟩
def Step.fresh(I:qF n m.s):Step H m n 1 0 {m with s:=a7 m.s m.home false} (n+1):=⟨I.fresh _,by omega,by omega,Ext.fresh _ _ _,rfl,rfl,[],[],by simp,by simp,by simp,rfl,by simp,by simp⟩
def Step.open(I:qF n m.s)(K:Nat):Step H m n K 0 (j_ m K) (n+K):=⟨xB I _ K,by omega,by omega,vp _ _ K,rfl,rfl,[],[],by simp[j_],by simp[j_],by simp,rfl,by simp,by simp⟩
def Step.record(I:qF n m.s){b:Bool}(hr:l6 n h)(a:H->b=false):Step H m n 0 1 {m with rc:=m.rc++[h],hd:=m.hd++[b]} n:=⟨I,zal _,by omega,.refl _,rfl,rfl,[h],[b],rfl,rfl,by simp,by simp,by simpa using hr,fun q x hx=>by simp at hx;rw[hx];exact a q⟩
structure Room(ds:List Dt)(m:Mc)(n A R E:Nat)(env:List En):Prop where
 st:qF n m.s
 nb:n+A<=1000000
 rc:m.rc.length+R<=100000
 hd:m.hd.length+R<=100000
 kB:∀h∈m.rc,l6 n h
 xC:∀x∈env,ly n x.sc
 el:env.length+E<=1000000
 ds:m.ds=ds
def Room.step{H:Prop}{ds:List Dt}{m m':Mc}{n n' A R E a r A' R' E':Nat}{env:List En}(h:Room ds m n A R E env)(s:Step H m n a r m' n')(d:A'+a<=A)(b:R'+r<=R)(c:E'<=E):Room ds m' n' A' R' E' env:=by
 obtain⟨rs,hs,e1,e2,e3,e4,e5,e⟩:=s.kB;refine⟨s.st,by have:=s.up;have:=h.nb;omega,by rw[e1];have:=h.rc;simp;omega,by rw[e2];have:=h.hd;simp;omega,?_,fun x hx=>(h.xC x hx).bS s.le,by have:=h.el;omega,by rw[s.ds,h.ds]⟩;intro x hx;rw[e1,zae]at hx;rcases hx with hx|hx
 .exact(h.kB x hx).bS s.le
 .exact e5 x hx
def Room.push{A R E':Nat}{env:List En}(h:Room ds m n A R E env){s:bF}{c:Sc}(a:ly n c)(b:E'+1<=E):Room ds m n A R E' (env++[⟨s,c⟩]):=⟨h.st,h.nb,h.rc,h.hd,h.kB,by
 intro x hx;simp only[zae,zaU]at hx;rcases hx with hx|rfl
 .exact h.xC x hx
 .exact a,by have:=h.el;simp;omega,h.ds⟩
def Room.bS{A R E':Nat}{env:List En}(h:Room ds m n A R E env)(c:N<=A)(a:i0<=R)(b:E'<=E):Room ds m n N i0 E' env:=⟨h.st,by have:=h.nb;omega,by have:=h.rc;omega,by have:=h.hd;omega,h.kB,h.xC,by have:=h.el;omega,h.ds⟩
def Room.n'{A R:Nat}{env:List En}(h:Room ds m n A R E env):n<=1000000:=by have:=h.nb;omega
def nK.toI{c:Sc}(h:nK c):ly n c:=by
 obtain⟨K,h1,h2,h3⟩:=h.JF;exact⟨h.ok,h.kn.imp Qq,⟨K,h1,by omega,h3⟩,fun _ a=>(qx a h.kn (by simp)).elim⟩
def d6{k:Nat}(h:k<n):eg n (az k):=ky (db.2 (by omega))
def sT(e:eg n u)(d:eg n T):eg n ⟨4,[45,62],0,0,[u,T]⟩ where
 ok:=⟨by simp[Sm],by intro x hx;simp at hx;rcases hx with rfl|rfl;exact e.ok;exact d.ok⟩
 wf:=.mk (by simp) (by simp) (by intro x hx;simp at hx;rcases hx with rfl|rfl;exact e.wf;exact d.wf)
 gZ:=by
  intro w c;cases c with
  |var q=>simp at q
  |arg _ hm c=>
   simp at hm;rcases hm with rfl|rfl
   .exact e.gZ w c
   .exact d.gZ w c
 vn:=trivial
def UJ{s:bF}(hs:s.length<=100){l:List Ty}(hS:Sm l)(hl:∀x∈l,eg n x):eg n ⟨4,s,0,0,l⟩ where
 ok:=⟨hS,fun x hx=>(hl x hx).ok⟩
 wf:=.mk (by simp) hs fun x hx=>(hl x hx).wf
 gZ:=by
  intro w a;cases a with
  |var q=>simp at q
  |arg _ hm a=>exact(hl _ hm).gZ w a
 vn:=trivial
def JO{c:Sc}(h:ly n c)(hK:c.id=N)(hn:n<=i0)(e:as.length=N)(hf:∀x∈as,eg i0 x):eg i0 (c.ty.d7 as):=by
 obtain⟨K',h1,_,h3⟩:=h.JF;have:K'=N:=by omega
 subst this;refine⟨ou (fun a h=>(hf a h).ok) h.ok,Bf h.kn (by simp only[KV,KS];omega) (fun a h=>(hf a h).wf) (fun y hy d=>by have:=h3 y hy d;omega),?_,trivial⟩;intro w b;rcases Bi w b with h'|⟨x,hx,h'⟩
 .exact mF hn w (h.gZ w h')
 .exact(hf x hx).gZ w h'
def Iu(k:lX ds){s:bF}(i:∀a∈as,eg n a):((fieldsOf ds s as).getD []).length<=8/\∀f∈(fieldsOf ds s as).getD [],eg n f:=by
 cases e:fieldsOf ds s as with
 |none=>simp
 |some fs=>
  simp only[fieldsOf,zau]at e;obtain⟨q,_,d,hd,c,g,e⟩:=e;split at e
  .rename_i hl;cases e;have h:=k.all d (aM hd);obtain⟨_,_,h8⟩:=cM d h;obtain⟨j,b⟩:=vm d h;refine⟨by simpa using(h8 c (aM g)).1,?_⟩;intro f hf;simp only[zaW,zak]at hf;obtain⟨x,hx,rfl⟩:=hf;exact JO (n:=0) (nK.toI (rH rfl j (b c (aM g) x hx))) rfl (by omega) hl i
  .cases e
def JP:∀{l:List En}{s:bF},(∀x∈l,ly n x.sc)->ly n ((jr l s).getD dV)
 |[],s,_=>(nK.toI ⟨bw rfl,.bare rfl (by simp[jr,dV]) (by simp[jr,dV]),0,rfl,by omega,by intro y hy d;simp[jr,dV,Ty.aI]at hy;rw[hy]at d;simp at d⟩)
 |a::r,s,h=>by
  have b:=JP (l:=r) (s:=s) fun x hx=>h x (by simp[hx]);unfold jr;split
  .rename_i c e;rw[e]at b;exact b
  .split
   .exact h a (by simp)
   .rename_i hn _;rw[hn]at b;exact b
inductive Q_ (ds:List Dt):Ex->Prop
 |mk {e:Ex}:(e.kind=8->∃i d,eS ds e.aF=some i/\ds[i]?=some d/\(Bb d.cons e.aF).1=0)->(e.kind=9->e.ty.formed ds []=0)->(∀x∈e.ch,Q_ ds x)->Q_ ds e
def Q_.c(h:Q_ ds e):∀x∈e.ch,Q_ ds x:=by cases h;assumption
def Q_.a(h:Q_ ds e):e.kind=8->∃i d,eS ds e.aF=some i/\ds[i]?=some d/\(Bb d.cons e.aF).1=0:=by cases h;assumption
def Q_.t(h:Q_ ds e):e.kind=9->e.ty.formed ds []=0:=by cases h;assumption
def JQ{f:Nat->Ex->BM}:∀{l:List Ex}{i:Nat},(xa f i l).1=0->∀x∈l,∃j,(f j x).1=0
 |[],_,_=>by simp
 |x::r,i,h=>by
  simp only[xa]at h;by_cases q:(f i x).1=0
  .rw[zad (by simpa using q)]at h;intro y hy;simp only[zah]at hy;rcases hy with rfl|hy
   .exact⟨i,q⟩
   .exact JQ h y hy
  .rw[zai q]at h;exact absurd h q
def Er{as:List Ar}{F:BM}(h:findF ds as=some F):F.1≠0:=by
 induction as with
 |nil=>simp[findF]at h
 |cons a r b=>
  simp only[findF]at h;split at h
  .first|exact b h|(cases h;simp)
  .first|exact b h|(cases h;simp)
def YV:∀{e:Ex}{a:List bF},e.BN n->(e.bW ds a).1=0->Q_ ds e:=by
 induction n with
 |zero=>intro e a b;cases b
 |succ n f=>
  intro e a b h;rw[Ex.Bc]at h
  have h1:(fm ds a e).1=0:=by
   by_cases q:(fm ds a e).1=0
   .exact q
   .rw[zai q]at h;exact absurd h q
  rw[zad (by simpa using h1)]at h;refine .mk (fun k=>?_) (fun k=>?_) fun x hx=>?_
  .simp[fm,k]at h1;unfold rn at h1;cases e1:findF ds e.aF with
   |some F=>rw[e1]at h1;exact absurd h1 (Er e1)
   |none=>
    rw[e1]at h1;cases e2:eS ds e.aF with
    |none=>rw[e2]at h1;simp at h1
    |some i=>
     obtain⟨d,hd⟩:=aR (Jz e2);exact⟨i,d,rfl,hd,by simpa[e2,hd]using h1⟩
  .simp[fm,k]at h1;by_cases q:e.ty.formed ds []=0
   .exact q
   .rw[zad q]at h1;exact absurd h1 q
  .obtain⟨j,hj⟩:=JQ h x hx;exact f (b.c x hx) hj
def uc{l:List bF}:∀{as:List Ty},Ty.gW ds l as=0->∀x∈as,x.formed ds l=0
 |[],_=>by simp
 |a::r,h=>by
  simp only[Ty.gW]at h;by_cases q:a.formed ds l=0
  .rw[zad (by simpa using q)]at h;intro x hx;simp only[zah]at hx;rcases hx with rfl|hx
   .exact q
   .exact uc h x hx
  .rw[zai q]at h;exact absurd h q
def Iv(d:u.Ok)(c:u.Kn KT)(h:u.formed ds []=0):eg n u:=by
 have key:u.Kn (·=0):=by
  clear d;induction c with
  | @mk u g hn _ e=>
   rw[Ty.y7]at h
   have h1:lN ds [] u=0:=by
    by_cases q:lN ds [] u=0
    .exact q
    .rw[zai q]at h;exact absurd h q
   rw[zad (by simpa using h1)]at h;refine .mk (fun q=>?_) hn fun x hx=>e x hx (uc h x hx);obtain⟨a,b⟩:=g q;refine⟨?_,b⟩;rcases a with a|a
   .exact a
   .simp[lN,a]at h1
 exact⟨d,key.imp (by intro k c;simp[c]),fun w f=>(qx f key (by simp)).elim,trivial⟩
def UK(n:Nat)(W:Int->Prop):Prop:=∀w,W w->0<=w/\w<n
structure nM(n:Nat)(s:List Sl)(W:Int->Prop)(n':Nat)(s':List Sl)(W':Int->Prop):Prop where
 len:s.length=n
 Es:s'.length=n'
 sub:∀w,W w->W' w
 up:∀w,W' w->W w\/((n:Int)<=w/\w<n')
 cls:nI W' s'
 YW:∀(k:Nat)(x:Sl),s[k]?=some x->¬W k->∃y,s'[k]?=some y/\y.bd=x.bd/\y.ty=x.ty
def nM.rg(h:nM n s W N s' W')(hn:n<=N)(a:UK n W):UK N W':=fun w hw=>by
 rcases h.up w hw with h|h
 .have:=a w h;omega
 .omega
def nM.refl(hl:s.length=n)(h:nI W s):nM n s W n s W:=⟨hl,hl,fun _ h=>h,fun _ h=>.inl h,h,fun _ x h _=>⟨x,h,rfl,rfl⟩⟩
def nM.trans{n e f:Nat}{s i g:List Sl}{W l j:Int->Prop}(h:nM n s W e i l)(h':nM e i l f g j)(hn:n<=e)(o:e<=f):nM n s W f g j:=by
 refine⟨h.len,h'.Es,fun w hw=>h'.sub w (h.sub w hw),fun w hw=>?_,h'.cls,fun k x hx hw=>?_⟩
 .rcases h'.up w hw with q|q
  .rcases h.up w q with q|q
   .exact .inl q
   .exact .inr (by omega)
  .exact .inr (by omega)
 .obtain⟨y,hy,a,b⟩:=h.YW k x hx hw;have p:=(zaa.1 hx).1;rw[h.len]at p
  obtain⟨z,m,c,d⟩:=h'.YW k y hy fun q=>by
   rcases h.up k q with q|q
   .exact hw q
   .omega
  exact⟨z,m,c.trans a,d.trans b⟩
def nM.uv(hl:s.length=n)(d:s'.length=n)(u:Uv T J s s')(hC:nI W s)(g:gY W T)(f:gY W J):nM n s W n s' W:=by
 obtain⟨c,m⟩:=u.YD W hC g f;refine⟨hl,d,fun _ h=>h,fun _ h=>.inl h,c,fun k x hx hw=>?_⟩;have j:=(zaa.1 hx).1;obtain⟨y,hy⟩:=aR (l:=s') (i:=k) (by omega);obtain⟨z,e,T,J⟩:=m k y hy hw;rw[hx]at e;cases e;exact⟨y,hy,T,J⟩
def zo(W:Int->Prop)(n m:Nat):Int->Prop:=fun w=>W w\/((n:Int)<=w/\w<m)
theorem JR(h:Int)(s:cK):∀i,(uz h s i).sl.length=s.sl.length+i
 |0=>rfl
 |i+1=>by simp only[uz,a7,zat,JR h s i,zay,zcL];omega
def pg(h:Int)(s:cK):∀(i k:Nat)(x:Sl),(uz h s i).sl[k]?=some x->s.sl[k]?=some x\/x.bd=false
 |0,k,x,e=>.inl e
 |i+1,k,x,e=>by
  simp only[uz,a7]at e;by_cases q:k<(uz h s i).sl.length
  .rw[zao q]at e;exact pg h s i k x e
  .rw[zaN (by omega)]at e;generalize k-(uz h s i).sl.length=j at e;cases j with
   |zero=>simp at e;subst e;exact .inr rfl
   |succ j=>simp at e
def JS(h:Int)(s:cK):∀(i k:Nat)(x:Sl),s.sl[k]?=some x->(uz h s i).sl[k]?=some x
 |0,k,x,e=>e
 |i+1,k,x,e=>by
  have:=JS h s i k x e;simp only[uz,a7];rw[zao (zaa.1 this).1];exact this
def gY.mono(h:∀w,W w->W' w){t:Ty}(ht:gY W t):gY W' t:=⟨fun w a=>h w (ht.1 w a),ht.2⟩
def nM.open{s:cK}(hl:s.sl.length=n)(hC:nI W s.sl)(b:UK n W)(h:Int)(K:Nat):nM n s.sl W (n+K) (uz h s K).sl (zo W n (n+K)):=by
 refine⟨hl,by rw[JR,hl],fun _ h=>.inl h,fun _ h=>h,fun i x hx a hw=>?_,fun k x hx _=>⟨x,JS h s K k x hx,rfl,rfl⟩⟩;rcases pg h s K i x hx with e|e
 .have hi:=(zaa.1 e).1;rcases hw with hw|hw
  .exact(hC i x e a hw).mono fun _ h=>.inl h
  .omega
 .rw[e]at a;cases a
def lP(h1:n<=j)(h2:j<N):gY (zo W n N) (az j):=⟨fun w a=>by rw[da (t:=az j) rfl a];exact .inr (by simp only[az];omega),iG _⟩
def gY.arr(e:gY W u)(d:gY W T):gY W ⟨4,[45,62],0,0,[u,T]⟩:=by
 refine⟨fun w c=>?_,pM (.inr (.inr ⟨rfl,rfl,rfl,by simp[i7]⟩)) (by simp[e.2,d.2])⟩;cases c with
 |var q=>simp at q
 |arg _ hm c=>
  simp at hm;rcases hm with rfl|rfl
  .exact e.1 w c
  .exact d.1 w c
def Bs(s:List Sl)(W:Int->Prop)(n0 a:Nat)(O:List ((Int->Prop)×List Int)):Prop:=∀o∈O,nI o.1 s/\UK a o.1/\∀g∈o.2,(n0:Int)<=g/\g<a/\¬jR s g/\¬o.1 g/\¬W g
def uB(W:Int->Prop)(O:List ((Int->Prop)×List Int)):List ((Int->Prop)×List Int):=O.map fun o=>(fun w=>o.1 w\/W w,o.2)
def Bs.Iw(h:Bs s W n0 n B)(F:nM n s W N s' W')(hn:n<=N)(v:UK n W):Bs s' W' n0 N (uB W' B):=by
 intro o' j;simp only[uB,zak]at j;obtain⟨o,t,rfl⟩:=j;obtain⟨h1,h2,h3⟩:=h o t;refine⟨fun i y hy r hi=>?_,fun w hw=>?_,fun g u=>?_⟩
 .by_cases q:W' i
  .exact(F.cls i y hy r q).mono fun _ h=>.inr h
  .have hi:o.1 i:=hi.resolve_right q;have:=h2 i hi;obtain⟨x,hx⟩:=aR (l:=s) (i:=i) (by have:=F.len;omega);obtain⟨z,f,a,b⟩:=F.YW i x hx fun h=>q (F.sub _ h)
   rw[hy]at f;cases f;rw[b];exact(h1 i x hx (by rw[<-a];exact r) hi).mono fun _ h=>.inl h
 .rcases hw with hw|hw
  .have:=h2 w hw;omega
  .exact F.rg hn v w hw
 .obtain⟨a,b,c,d,e⟩:=h3 g u
  have hw:¬W' g:=fun q=>by
   rcases F.up g q with q|q
   .exact e q
   .omega
  refine⟨a,by omega,?_,fun q=>by rcases q with q|q;exact d q;exact hw q,hw⟩
  rintro⟨k,y,rfl,hy,r⟩
  obtain⟨x,hx⟩:=aR (l:=s) (i:=k) (by have:=F.len;omega);obtain⟨z,f,p,_⟩:=F.YW k x hx e;rw[hy]at f;cases f;exact c ⟨k,x,rfl,hx,by rw[<-p];exact r⟩
def Bs.bS(h:Bs s W N n B)(hn:n0<=N):Bs s W n0 n B:=fun o d=>by
 obtain⟨h1,h2,h3⟩:=h o d;exact⟨h1,h2,fun g e=>by obtain⟨a,b⟩:=h3 g e;exact⟨by omega,b⟩⟩
def Bs.app{s:List Sl}{W:Int->Prop}{n0 n:Nat}{O b:List ((Int->Prop)×List Int)}(h:Bs s W n0 n O)(h':Bs s W n0 n b):Bs s W n0 n (O++b):=fun o a=>by
 rcases zae.1 a with a|a
 .exact h o a
 .exact h' o a
def JT(r:Int->Ty)(o:(Int->Prop)×List Int):Prop:=(∀g∈o.2,r g=az (r g).id)/\(∀g∈o.2,∀g'∈o.2,(r g).id=(r g').id->g=g')/\∀g∈o.2,∀w,o.1 w->¬cf (r w) (r g).id
def qB(h:∀o∈uB W B,JT r o):∀o∈B,JT r o:=fun o a=>by
 have:=h (fun w=>o.1 w\/W w,o.2) (zak.2 ⟨o,a,rfl⟩);exact⟨this.1,this.2.1,fun g b w hw=>this.2.2 g b w (.inl hw)⟩
def UL{X:List ((Int->Prop)×List Int)}(h:∀o∈X++B,JT r o):∀o∈X,JT r o:=fun o q=>h o (zbM _ q)
def UM{X:List ((Int->Prop)×List Int)}(h:∀o∈X++B,JT r o):∀o∈B,JT r o:=fun o q=>h o (zcM _ q)
def JU(G:List Int)(O:List ((Int->Prop)×List Int)):Prop:=∀g,g∈G<->∃o∈O,g∈o.2
def vq:JU [] []:=fun g=>by simp
def JU.Iw(h:JU G B):JU G (uB W B):=fun g=>by
 rw[h g];constructor
 .rintro⟨o,a,q⟩
  exact⟨(fun w=>o.1 w\/W w,o.2),zak.2 ⟨o,a,rfl⟩,q⟩
 .rintro⟨o,a,q⟩
  simp only[uB,zak]at a;obtain⟨p,hp,rfl⟩:=a;exact⟨p,hp,q⟩
def JU.app{G H:List Int}{A B:List ((Int->Prop)×List Int)}(h:JU G A)(h':JU H B):JU (G++H) (A++B):=fun g=>by
 rw[zae,h g,h' g];constructor
 .rintro(⟨o,a,q⟩|⟨o,a,q⟩)
  .exact⟨o,zbM _ a,q⟩
  .exact⟨o,zcM _ a,q⟩
 .rintro⟨o,a,q⟩
  rcases zae.1 a with a|a
  .exact .inl ⟨o,a,q⟩
  .exact .inr ⟨o,a,q⟩
def UN:JU G [(W,G)]:=fun g=>by simp
def YX{l:List Ty}:(⟨u,l,[],[]⟩:Dv).jF=[]:=by rw[Dv.jf];simp
def YY{l:List Ty}:(⟨u,l,[],[d]⟩:Dv).jF=d.jF:=by rw[Dv.jf];simp
def abG{l:List Ty}:(⟨u,l,g,[d,y]⟩:Dv).jF=g++(d.jF++y.jF):=by rw[Dv.jf];simp
def UO(r:Int->Ty):Prop:=∀i,(r i).Kw
def Et(r:Int->Ty)(c:Sc):Sc:=⟨c.id,c.ty.ev r⟩
def En.ev(r:Int->Ty)(x:En):En:=⟨x.name,Et r x.sc⟩
def Ho.ev(r:Int->Ty)(h:Ho):Ho:=⟨h.bind,h.pos,h.ctx.map (En.ev r),h.goal.ev r⟩
mutual
def Dv.ev(r:Int->Ty):Dv->Dv
 |⟨t,i,g,ks⟩=>⟨t.ev r,i.map (Ty.ev r),g.map (fun v=>(r v).id),Dv.Sq r ks⟩
def Dv.Sq(r:Int->Ty):List Dv->List Dv
 |[]=>[]
 |d::l=>Dv.ev r d::Dv.Sq r l
end
def Dv.ru(r:Int->Ty):∀l:List Dv,Dv.Sq r l=l.map (Dv.ev r)
 |[]=>by simp[Dv.Sq]
 |d::l=>by simp[Dv.Sq,Dv.ru r l]
def Dv.bE(r:Int->Ty)(d:Dv):d.ev r=⟨d.ty.ev r,d.inst.map (Ty.ev r),d.gen.map (fun v=>(r v).id),d.kids.map (Dv.ev r)⟩:=by
 cases d;simp only[Dv.ev,Dv.ru]
theorem Q'{s:bF}:∀l:List En,jr (l.map (En.ev r)) s=(jr l s).map (Et r)
 |[]=>rfl
 |a::l=>by
  simp only[zan,jr,Q' l];cases jr l s with
  |some c=>rfl
  |none=>
   by_cases q:a.name=s
   .simp[En.ev,q]
   .simp[En.ev,q]
theorem oG:∀l:List En,aW (l.map (En.ev r))=(aW l).map (En.ev r)
 |[]=>rfl
 |a::l=>by
  have e:((l.map (En.ev r)).any fun x=>decide (x.name=(En.ev r a).name))=l.any fun x=>decide (x.name=a.name):=by
   rw[List.any_map];rfl
  simp only[zan,aW,e];split
  .exact oG l
  .simp only[zan,oG l]
def Nh(l:List Ho):aP (l.map (Ho.ev r))=(aP l).map (Ty.ev r):=by
 unfold aP;rw[zcB,zc5];refine ni fun h _=>?_;simp[Ho.ev,En.ev,Et]
def YZ{l:List Ty}(t:Ty):t.Kw->t.d7 l=t:=by
 refine Ty.cb (p:=fun t=>t.Kw->t.d7 l=t) ?_ t;intro t a h
 have h0:t9 l t=none:=by
  unfold t9;refine zad fun q=>?_;have:=(h.hd (by rw[q.1];decide)).1
  rw[q.1]at this;simp at this
 rw[Ty.gm,h0,zaT]
 have e:t.args.map (Ty.d7 l)=t.args:=by
  conv=>rhs;rw[<-zda t.args]
  exact zaP fun x hx=>a x hx (h.kd x hx)
 rw[e];cases t;rfl
theorem Ra(hr:UO r){l:List Ty}(t:Ty):(t.d7 l).ev r=(t.ev r).d7 (l.map (Ty.ev r)):=by
 refine Ty.cb (p:=fun t=>(t.d7 l).ev r=(t.ev r).d7 (l.map (Ty.ev r))) ?_ t;intro t a;by_cases k:t.kind=1
 .have h0:t9 l t=none:=zad fun q=>by omega
  rw[Ty.gm,h0,zaT,gQ k,gQ (by exact k),YZ _ (hr _)]
 .have e2:t.ev r=⟨t.kind,t.name,t.id,t.home,t.args.map (Ty.ev r)⟩:=by rw[Ty.bE,zad k]
  have e3:t9 (l.map (Ty.ev r)) (t.ev r)=(t9 l t).map (Ty.ev r):=by
   rw[e2];unfold t9;simp only[zaD,zbb];split<;>rfl
  rw[Ty.gm,Ty.gm _ (t.ev r),e3];cases t9 l t with
  |some x=>rfl
  |none=>
   rw[zby,zaT,zaT,Ty.bE,zad (by exact k),e2];simp only[zbd];congr 1;exact zaP fun x hx=>a x hx
def ph(t:Ty):(∀w,¬cf t w)->t.ev r=t:=by
 refine Ty.cb (p:=fun t=>(∀w,¬cf t w)->t.ev r=t) ?_ t;intro t a h;have k:¬t.kind=1:=fun k=>h _ (.var k)
 rw[Ty.bE,zad k]
 have e:t.args.map (Ty.ev r)=t.args:=by
  conv=>rhs;rw[<-zda t.args]
  exact zaP fun x hx=>a x hx fun w b=>h w (.arg k hx b)
 rw[e];cases t;rfl
def rS(ds:List Dt)(home:Int)(env:List En)(e:Ex)(n:Nat)(s:List Sl)(n':Nat)(s':List Sl)(d:Dv)(rs:List Ho):Prop:=
 ∀W,UK n W->nI W s->(∀x∈aW env,gY W x.sc.ty)->∃W' O,nM n s W n' s' W'/\Bs s' W' n n' O/\JU d.jF O/\gY W' d.ty/\(∀t∈aP rs,gY W' t)/\
   ∀r,UO r->Sat r s'->(∀o∈O,JT r o)->∀h,e.BN h->∃l,aK ds home h (env.map (En.ev r)) e (d.ev r)=some l/\l.map Rd.h=rs.map (Ho.ev r)
def Bt{c:Sc}{s:bF}:∀{l:List En},jr l s=some c->∃x∈l,x.sc=c
 |[],h=>by simp[jr]at h
 |a::l,h=>by
  simp only[jr]at h;cases e:jr l s with
  |some c'=>
   rw[e]at h;cases h;obtain⟨x,hx,h⟩:=Bt e;exact⟨x,by simp[hx],h⟩
  |none=>
   rw[e]at h;simp only at h;split at h
   .cases h;exact⟨a,by simp,rfl⟩
   .cases h
def Rb{l:List Ty}(hl:∀x∈l,Gv x)(t:Ty):Gv t->Gv (t.d7 l):=by
 refine Ty.cb (p:=fun t=>Gv t->Gv (t.d7 l)) ?_ t;intro t c h;rw[Ty.gm];cases e:t9 l t with
 |some x=>
  obtain⟨_,_,_,hx⟩:=jb e;exact hl x (aM hx)
 |none=>
  rw[zaT];have:=h.hd;refine pM (by simpa using this) ?_;intro x hx;simp only[zak]at hx;obtain⟨a,b,rfl⟩:=hx;exact c a b (h.df a b)
def gY.d7{l:List Ty}(h:gY W u)(hl:∀x∈l,gY W x):gY W (u.d7 l):=by
 refine⟨fun w a=>?_,Rb (fun x hx=>(hl x hx).2) u h.2⟩;rcases Bi w a with q|⟨x,hx,q⟩
 .exact h.1 w q
 .exact(hl x hx).1 w q
def Bu:∀x∈cQ n N,gY (zo W n (n+N)) x:=by
 intro x hx;simp only[cQ,zak,zc1]at hx;obtain⟨j,hj,rfl⟩:=hx;exact lP (by omega) (by omega)
def vt:Bs s W n N []:=fun o c=>by cases c
def Ni{env:List En}:∀y∈aW (env++[x]),y∈aW env\/y=x:=by
 induction env with
 |nil=>intro y hy;simp[aW]at hy;exact .inr hy
 |cons a r b=>
  intro y hy;simp only[za2,aW]at hy⊢;by_cases q:(r.any fun x=>decide (x.name=a.name))=true
  .rw[zai q];rw[zai (by rw[zdf,q];rfl)]at hy;exact b y hy
  .rw[zad q];split at hy
   .rcases b y hy with h|h
    .exact .inl (by simp[h])
    .exact .inr h
   .rcases zah.1 hy with rfl|hy
    .exact .inl (by simp)
    .rcases b y hy with h|h
     .exact .inl (by simp[h])
     .exact .inr h
def pj{P:En->Prop}{env:List En}(h:∀y∈aW env,P y)(hx:P x):∀y∈aW (env++[x]),P y:=fun y hy=>by
 rcases Ni y hy with q|rfl
 .exact h y q
 .exact hx
def Rc{env:List En}{s:cK}(hl:s.sl.length=n)(hm:Int){c:Sc}(a:(e.kind=1/\jr env e.name=some c)\/(e.kind=2/\dH ds e.name=some c/\(∀w,¬cf c.ty w)/\Gv c.ty))(hK:c.id=N):rS ds home env e n s.sl (n+N) (uz hm s N).sl ⟨c.ty.d7 (cQ n N),cQ n N,[],[]⟩ []:=by
 intro W l hC m;have F:=nM.open hl hC l hm N
 have d:gY (zo W n (n+N)) c.ty:=by
  rcases a with⟨_,a⟩|⟨_,_,a,k⟩
  .rw[<-Jj]at a;obtain⟨x,hx,rfl⟩:=Bt a;exact(m x hx).mono F.sub
  .exact⟨fun w i=>absurd i (a w),k⟩
 refine⟨_,[],F,vt,by rw[YX];exact vq,d.d7 Bu,by simp[aP],fun r hr hs _ h j=>?_⟩;cases j with
 | @mk h _ _=>
  have hi:jj (Et r c) (Dv.ev r ⟨c.ty.d7 (cQ n N),cQ n N,[],[]⟩)=true:=by
   rw[Dv.bE];simp[jj,Et,hK,Ra hr]
  have g:¬((e.kind≠6/\e.kind≠7/\(Dv.ev r ⟨c.ty.d7 (cQ n N),cQ n N,[],[]⟩).gen≠[])\/(e.kind≠1/\e.kind≠2/\e.kind≠8/\(Dv.ev r ⟨c.ty.d7 (cQ n N),cQ n N,[],[]⟩).inst≠[])):=by
   rw[Dv.bE];simp;omega
  refine⟨[],?_,rfl⟩;rcases a with⟨b,a⟩|⟨b,a,f,_⟩
  .rw[aK,zad g,zai b,Q',a];simp only[zaZ,hi,za4]
  .have o:Et r c=c:=by
    unfold Et;rw[ph _ f]
   rw[o]at hi;rw[aK,zad g,zad (by omega),zai b,a];simp only[hi,za4]
def zq(h1:d.gen=[])(h2:d.inst=[]):¬((e.kind≠6/\e.kind≠7/\d.gen≠[])\/(e.kind≠1/\e.kind≠2/\e.kind≠8/\d.inst≠[])):=by simp[h1,h2]
def rS.of{env:List En}
   (h:∀W,UK n W->nI W s->(∀x∈aW env,gY W x.sc.ty)->∃W' O,nM n s W N s' W'/\Bs s' W' n N O/\JU d.jF O/\gY W' d.ty/\(∀t∈aP rs,gY W' t)/\
   ∀r,UO r->Sat r s'->(∀o∈O,JT r o)->∀h,(∀x∈e.ch,x.BN h)->∃l,aK ds home (h+1) (env.map (En.ev r)) e (d.ev r)=some l/\l.map Rd.h=rs.map (Ho.ev r)):rS ds home env e n s N s' d rs:=by
 intro W a b c;obtain⟨W',O,h1,h2,h6,h3,h4,h5⟩:=h W a b c;refine⟨W',O,h1,h2,h6,h3,h4,fun r hr hs f h g=>?_⟩;cases g with
 |mk q=>exact h5 r hr hs f _ q
def UP{env:List En}{s:cK}(hl:s.sl.length=n)(b:e.kind=3):rS ds home env e n s.sl n s.sl ⟨a8,[],[],[]⟩ []:=by
 refine rS.of fun W d hC f=>⟨W,[],.refl hl hC,vt,by rw[YX];exact vq,⟨fun w a=>?_,pM (.inr (.inr ⟨rfl,rfl,rfl,by simp[i7,a8]⟩)) (by simp[a8])⟩,by simp[aP],fun r hr hs _ h c=>⟨[],?_,rfl⟩⟩
 .cases a with
  |var q=>simp[a8]at q
  |arg _ hm _=>simp[a8]at hm
 .rw[Dv.bE,aK,zad (zq rfl rfl),zad (by omega),zad (by omega),zai b,zai];rw[Ty.bE,zad (by decide)];rfl
def eP(a b:List Ho):aP (a++b)=aP a++aP b:=by simp[aP]
def qC{env:List En}(a:∀x∈aW env,gY W x.sc.ty)(ht:gY W T):∀u∈aP [⟨home,pos,aW env,T⟩],gY W u:=by
 intro u hu;simp only[aP,zaq,zbO,zaJ,zae,zak,zaU]at hu;rcases hu with⟨x,hx,rfl⟩|rfl
 .exact a x hx
 .exact ht
def Re{env:List En}{s:cK}(hl:s.sl.length=n)(hm:Int)(a:e.kind=10):rS ds home env e n s.sl (n+1) (a7 s hm false).sl ⟨az n,[],[],[]⟩ [⟨home,e.pos,aW env,az n⟩]:=by
 refine rS.of fun W b hC c=>?_;have F:nM n s.sl W (n+1) (a7 s hm false).sl (zo W n (n+1)):=nM.open hl hC b hm 1
 refine⟨_,[],F,vt,by rw[YX];exact vq,lP (zal _) (by omega),qC (fun x hx=>(c x hx).mono F.sub) (lP (zal _) (by omega)),fun r hr hs _ h d=>⟨[⟨uA home (env.map (En.ev r)) e (Dv.ev r ⟨az n,[],[],[]⟩),false⟩],?_,?_⟩⟩
 .rw[aK,zad (zq (by rw[Dv.bE];rfl) (by rw[Dv.bE];rfl)),zad (by omega),zad (by omega),zad (by omega),zad (by omega),zad (by omega),zad (by omega),zad (by omega),zad (by omega),zai a]
 .rw[Dv.bE];simp[uA,oG,Ho.ev]
def Rf:(⟨4,[45,62],0,0,[u,T]⟩:Ty).ev r=⟨4,[45,62],0,0,[u.ev r,T.ev r]⟩:=by
 rw[Ty.bE,zad (by simp)];rfl
def UQ{env:List En}{a:Ex}{s:cK}(hl:s.sl.length=n)(hm:Int)(g:e.kind=4)(h1:e.kids=[a])(h2:e.aF=[])(hn:n+1<=N)(A:rS ds home (env++[⟨e.name,⟨0,az n⟩⟩]) a (n+1) (a7 s hm false).sl N s' d rs):
   rS ds home env e n s.sl N s' ⟨⟨4,[45,62],0,0,[az n,d.ty]⟩,[],[],[d]⟩ rs:=by
 refine rS.of fun W c hC m=>?_;have F:nM n s.sl W (n+1) (a7 s hm false).sl (zo W n (n+1)):=nM.open hl hC c hm 1
 have b:gY (zo W n (n+1)) (az n):=lP (zal _) (by omega);obtain⟨W',O,G,k,j,hd,hr,hf⟩:=A _ (F.rg (by omega) c) F.cls (pj (P:=fun x=>gY _ x.sc.ty) (fun x hx=>(m x hx).mono F.sub) b);refine⟨W',O,F.trans G (by omega) hn,k.bS (by omega),by rw[YY];exact j,(b.mono G.sub).arr hd,hr,fun r pr hs f h i=>?_⟩;obtain⟨l,e1,e2⟩:=hf r pr hs f h (i a (by rw[Ex.ch,h1];simp));refine⟨l,?_,e2⟩;rw[za3]at e1;rw[Dv.bE,aK,zad (zq rfl rfl),zad (by omega),zad (by omega),zad (by omega),zai g];have e0:(d.ev r).ty=d.ty.ev r:=by rw[Dv.bE]
 simp only[Rf,lx,jk,nL,h1];simpa[En.ev,Et,e0]using e1
def US{env:List En}{a:Ex}{o c:Nat}{p:List Sl}{d:cK}(w:d.sl.length=c)(hm:Int)(O:e.kind=5)(h1:e.kids=[a,b])(h2:e.aF=[]){z:Dv}{j i:List Ho}(hn:n<=o)(l:o<=c)(A:rS ds home env a n s o p C j)(B:rS ds home env b o p c d.sl z i)
   (y:s'.length=c+1) (X:Ext (a7 d hm false).sl s') (Q:Ext p d.sl) (u:Uv C.ty ⟨4,[45,62],0,0,[z.ty,az c]⟩ (a7 d hm false).sl s'):
   rS ds home env e n s (c+1) s' ⟨az c,[],[],[C,z]⟩ (j++i):=by
 refine rS.of fun W G hC H=>?_;obtain⟨R,T,F1,o1,z1,t1,r1,f1⟩:=A W G hC H;have g:=F1.rg hn G
 obtain⟨m,S,F2,o2,z2,J,r2,f2⟩:=B R g F1.cls fun x hx=>(H x hx).mono F1.sub;have f:=F2.rg l g
 have F3:nM c d.sl m (c+1) (a7 d hm false).sl (zo m c (c+1)):=nM.open w F2.cls f hm 1;have P:=F3.rg (by omega) f;have D:gY (zo m c (c+1)) (az c):=lP (zal _) (by omega);have U:nM (c+1) (a7 d hm false).sl (zo m c (c+1)) (c+1) s' (zo m c (c+1)):=.uv F3.Es y u F3.cls ((t1.mono F2.sub).mono F3.sub) ((J.mono F3.sub).arr D);have F34:=F3.trans U (by omega) (zal _);have F234:=F2.trans F34 l (by omega);refine⟨_,uB _ T++uB _ S,F1.trans F234 hn (by omega),(o1.Iw F234 (by omega) g).app ((o2.bS hn).Iw F34 (by omega) f),by rw[abG,zaQ];exact z1.Iw.app z2.Iw,D,fun t ht=>?_,fun r pr hs E h F=>?_⟩
 .rw[eP,zae]at ht;rcases ht with ht|ht
  .exact(r1 t ht).mono F234.sub
  .exact(r2 t ht).mono F34.sub
 .have q:=fJ X hs;have k:=fJ (Ext.fresh d hm false) q;have v:=fJ Q k;obtain⟨N,p1,L⟩:=f1 r pr v (qB (UL E)) h (F a (by rw[Ex.ch,h1];simp));obtain⟨M,p2,K⟩:=f2 r pr k (qB (UM E)) h (F b (by rw[Ex.ch,h1];simp));have I:=u.snd r hs;rw[Rf]at I;refine⟨N++M,?_,by rw[za3,L,K,za3]⟩;rw[Dv.bE,aK,zad (zq rfl rfl),zad (by omega),zad (by omega),zad (by omega),zad (by omega),zai O];have e0:∀x:Dv,(x.ev r).ty=x.ty.ev r:=fun x=>by rw[Dv.bE]
  simp only[jk,nL,h1,zan,zbc,zbw,zbx,zaW,e0,eh];rw[zai I,p1,p2]
def UT{env:List En}{a:Ex}{b:List Sl}(p:e.kind=9)(h1:e.kids=[a])(h2:e.aF=[])(ht:∀w,¬cf e.ty w)(t:Gv e.ty)(hn:n<=N)(A:rS ds home env a n s N b d rs)(f:s'.length=N)(X:Ext b s')(u:Uv d.ty e.ty b s'):
   rS ds home env e n s N s' ⟨e.ty,[],[],[d]⟩ rs:=by
 refine rS.of fun W j hC v=>?_;obtain⟨g,y,F1,o1,z1,t1,r1,f1⟩:=A W j hC v;have i:gY g e.ty:=⟨fun w c=>absurd c (ht w),t⟩
 have l:nM N b g N s' g:=.uv F1.Es f u F1.cls t1 i;refine⟨_,uB _ y,F1.trans l hn (zal _),o1.Iw l (zal _) (F1.rg hn j),by rw[YY];exact z1.Iw,i,r1,fun r pr hs c h q=>?_⟩;obtain⟨o,p1,m⟩:=f1 r pr (fJ X hs) (qB c) h (q a (by rw[Ex.ch,h1];simp));have k:=u.snd r hs;rw[ph _ ht]at k;refine⟨o,?_,m⟩;rw[Dv.bE,aK,zad (zq rfl rfl),zad (by omega),zad (by omega),zad (by omega),zad (by omega),zad (by omega),zad (by omega),zad (by omega),zai p];have e0:∀x:Dv,(x.ev r).ty=x.ty.ev r:=fun x=>by rw[Dv.bE]
 simp only[jk,nL,h1,zan,zbc,zbw,zaW,e0,ph _ ht];rw[zai ⟨trivial,k.symm⟩,p1]
def Rg{env:List En}{a:Ex}(i:e.kind=11)(h1:e.kids=[a])(h2:e.aF=[])(A:rS ds home env a n s N s' d rs):
   rS ds home env e n s N s' ⟨d.ty,[],[],[d]⟩ (rs++[⟨home,e.pos,aW env,d.ty⟩]):=by
 refine rS.of fun W k hC b=>?_;obtain⟨p,o,F1,o1,z1,t1,r1,f1⟩:=A W k hC b;refine⟨_,o,F1,o1,by rw[YY];exact z1,t1,fun t ht=>?_,fun r pr hs g h j=>?_⟩
 .rw[eP,zae]at ht;rcases ht with ht|ht
  .exact r1 t ht
  .exact qC (fun x hx=>(b x hx).mono F1.sub) t1 t ht
 .obtain⟨f,p1,c⟩:=f1 r pr hs g h (j a (by rw[Ex.ch,h1];simp));have e0:∀x:Dv,(x.ev r).ty=x.ty.ev r:=fun x=>by rw[Dv.bE]
  refine⟨f++[⟨uA home (env.map (En.ev r)) e (Dv.ev r ⟨d.ty,[],[],[d]⟩),true⟩],?_,by simp[c,uA,oG,Ho.ev,e0]⟩;rw[aK,zad (zq (by rw[Dv.bE];rfl) (by rw[Dv.bE];rfl)),zad (by omega),zad (by omega),zad (by omega),zad (by omega),zad (by omega),zad (by omega),zad (by omega),zad (by omega),zad (by omega),zai i];simp only[e0];have l:jk (Dv.ev r ⟨d.ty,[],[],[d]⟩) 0=d.ev r:=by rw[Dv.bE];rfl
  rw[l,zai (by rw[e0])];have m:nL e 0=a:=by rw[nL,h1];rfl
  rw[m,p1]
def JV(t:Ty):t.Kw->∀v,v∈rC t<->cf t v:=by
 refine Ty.cb (p:=fun t=>t.Kw->∀v,v∈rC t<->cf t v) ?_ t;intro t c h v;rw[rD,zae,zaf];by_cases k:t.kind=1
 .rw[h.var k];simp only[vr,zai k,zaU,zch,false_and,exists_false,or_false];exact⟨fun e=>by rw[e];exact .var k,fun o=>da k o⟩
 .simp only[vr,zad k,zch,false_or];constructor
  .rintro⟨a,b,d⟩
   exact .arg k b ((c a b (h.kd a b) v).1 d)
  .intro o;cases o with
   |var q=>exact absurd q k
   | @arg _ a _ _ b o=>exact⟨a,b,(c a b (h.kd a b) v).2 o⟩
def zt(h:u.Kw):v∈vars [u]<->cf u v:=by
 rw[JA,ze];simp[JV u h v]
def ud:∀(l out:List Int),out.Nodup->(l.foldl oC out).Nodup
 |[],_,h=>h
 |x::r,out,h=>by
  rw[zaO];refine ud r _ ?_;unfold oC;split
  .exact h
  .rename_i hx;rw[zcr];exact⟨h,by simp,fun a d b c=>by simp at c;subst c;exact fun e=>hx (e ▸ d)⟩
theorem xD{f:Int->Int}:∀(l out:List Int),(∀x y,(x∈l\/x∈out)->(y∈l\/y∈out)->f x=f y->x=y)->(l.map f).foldl oC (out.map f)=(l.foldl oC out).map f
 |[],_,_=>rfl
 |x::r,out,h=>by
  simp only[zan,zaO]
  have e:oC (out.map f) (f x)=(oC out x).map f:=by
   unfold oC;by_cases hx:x∈out
   .rw[zai hx,zai (zbt hx)]
   .rw[zad hx,zad]
    .simp
    .intro hm;simp only[zak]at hm;obtain⟨y,hy,d⟩:=hm;exact hx (h y x (.inr hy) (.inl (by simp)) d ▸ hy)
  rw[e];apply xD;intro a b i g
  have key:∀z,(z∈r\/z∈oC out x)->(z∈x::r\/z∈out):=by
   intro z c;rcases c with c|c
   .exact .inl (by simp[c])
   .unfold oC at c;split at c
    .exact .inr c
    .simp at c;rcases c with c|rfl
     .exact .inr c
     .exact .inl (by simp)
  exact h a b (key a i) (key b g)
theorem nq{p:Int->Bool}:∀(l out:List Int),(l.foldl oC out).filter p=(l.filter p).foldl oC (out.filter p)
 |[],_=>rfl
 |x::r,out=>by
  rw[zaO,nq r];cases q:p x with
  |true=>
   rw[zcC q,zaO];congr 1;unfold oC;by_cases hx:x∈out
   .rw[zai hx,zai (zbI.2 ⟨hx,q⟩)]
   .rw[zad hx,zad fun h=>hx (zbI.1 h).1,List.filter_append];simp[q]
  |false=>
   rw[List.filter_cons_of_neg (by simp[q])];congr 1;unfold oC;split
   .rfl
   .rw[List.filter_append];simp[q]
theorem Rh{τ:Int->Int}:∀{W:List Int}{n:Nat},(∀w∈W,τ v=τ w->v=w)->cR (eT n (W.map τ)) (τ v)=cR (eT n W) v
 |[],_,_=>rfl
 |w::W,n,h=>by
  simp only[zan,eT,cR];by_cases e:w=v
  .subst e;simp
  .have a:¬τ w=τ v:=fun a=>e (h w (by simp) a.symm).symm;rw[zad e,zad a];exact Rh fun u hu=>h u (by simp[hu])
theorem Bv:∀{W:List Int}{n:Nat},v∉W->cR (eT n W) v=none
 |[],_,_=>rfl
 |w::W,n,h=>by
  simp only[zah,not_or]at h;simp only[eT,cR];rw[zad fun e=>h.1 e.symm];exact Bv h.2
def JW:∀{W:List Int}{n:Nat},cR (eT n W) v=some u->∃j:Nat,u=bm j
 |[],_,h=>by simp[eT,cR]at h
 |w::W,n,h=>by
  simp only[eT,cR]at h;split at h
  .cases h;exact⟨n,rfl⟩
  .exact JW h
def UU{s:List As}(t:Ty):(∀w,cf t w->cR s w=none)->t.sub s=t:=by
 refine Ty.cb (p:=fun t=>(∀w,cf t w->cR s w=none)->t.sub s=t) ?_ t;intro t a h;rw[Ty.sub_eq];by_cases k:t.kind=1
 .rw[zai k,h _ (.var k),zaT]
 .rw[zad k]
  have e:t.args.map (Ty.sub s)=t.args:=by
   conv=>rhs;rw[<-zda t.args]
   exact zaP fun x hx=>a x hx fun w b=>h w (.arg k hx b)
  rw[e];cases t;rfl
structure UW(r:Int->Ty)(gen:List Int)(u:Ty):Prop where
 v:∀g∈gen,r g=az (r g).id
 inj:∀g∈gen,∀g'∈gen,(r g).id=(r g').id->g=g'
 out:∀g∈gen,∀w,cf u w->w∉gen->¬cf (r w) (r g).id
def UW.df(h:UW r gen u)(k:¬u.kind=1):∀x∈u.args,UW r gen x:=fun x hx=>⟨h.v,h.inj,fun g b w a=>h.out g b w (.arg k hx a)⟩
def Y0(hr:UO r)(u:Ty):u.Kw->UW r gen u->(rC (u.ev r)).filter (fun v=>decide (v∈gen.map fun g=>(r g).id))=((rC u).filter fun v=>decide (v∈gen)).map fun g=>(r g).id:=by
 refine Ty.cb (p:=fun u=>u.Kw->UW r gen u->(rC (u.ev r)).filter (fun v=>decide (v∈gen.map fun g=>(r g).id))=((rC u).filter fun v=>decide (v∈gen)).map fun g=>(r g).id) ?_ u;intro u d a h;by_cases k:u.kind=1
 .have e1:rC u=[u.id]:=(by rw[rD,a.var k];simp[vr,k]);rw[gQ k,e1];by_cases q:u.id∈gen
  .have e2:rC (r u.id)=[(r u.id).id]:=by
    have e:=h.v _ q;generalize r u.id=x at*;rw[e,rD];simp[vr,az]
   rw[e2];have:(r u.id).id∈gen.map fun g=>(r g).id:=zak.2 ⟨_,q,rfl⟩
   rw[zcC (by simpa using this),zcC (by simpa using q)];rfl
  .rw[List.filter_cons_of_neg (by simpa using q)];rw[List.filter_nil,zbc,List.filter_eq_nil_iff];intro v f;rw[zaS];intro hm;simp only[zak]at hm;obtain⟨g,i,rfl⟩:=hm;exact h.out g i _ (.var k) q ((JV _ (hr _) _).1 f)
 .have e1:u.ev r=⟨u.kind,u.name,u.id,u.home,u.args.map (Ty.ev r)⟩:=(by rw[Ty.bE,zad k]);have c:vr u=[]:=zad k;have b:vr ⟨u.kind,u.name,u.id,u.home,u.args.map (Ty.ev r)⟩=[]:=zad k;rw[e1,rD,rD u,c,b,zaQ,zaQ,zcB,List.filter_flatMap,List.filter_flatMap,zc5];exact ni fun x hx=>d x hx (a.kd x hx) (h.df k x hx)
def Y1{W:List Int}(a:∀w∈W,w∈gen)(u:Ty):u.Kw->UW r gen u->(u.ev r).sub (eT 0 (W.map fun g=>(r g).id))=(u.sub (eT 0 W)).ev r:=by
 refine Ty.cb (p:=fun u=>u.Kw->UW r gen u->(u.ev r).sub (eT 0 (W.map fun g=>(r g).id))=(u.sub (eT 0 W)).ev r) ?_ u;intro u b d h;by_cases k:u.kind=1
 .rw[gQ k,Ty.sub_eq (eT 0 W) u,zai k];by_cases q:u.id∈gen
  .have e:=h.v _ q;have f:cR (eT 0 (W.map fun g=>(r g).id)) (r u.id).id=cR (eT 0 W) u.id:=Rh (τ:=fun g=>(r g).id) (v:=u.id) (W:=W) (n:=0) fun w hw m=>h.inj _ q _ (a w hw) m
   have e3:(r u.id).sub (eT 0 (W.map fun g=>(r g).id))=(cR (eT 0 W) u.id).getD (r u.id):=by
    rw[Ty.sub_eq,zai (by rw[e];rfl)];rw[f]
   rw[e3];cases l:cR (eT 0 W) u.id with
   |none=>rw[zaT,zaT,gQ k]
   |some x=>
    obtain⟨j,rfl⟩:=JW l;rw[zaW,zaW,Ty.bE,zad (by simp[bm])];rfl
  .rw[Bv fun hw=>q (a _ hw),zaT,gQ k];refine UU _ fun w c=>Bv fun hw=>?_;simp only[zak]at hw;obtain⟨g,i,rfl⟩:=hw;exact h.out g (a g i) _ (.var k) q c
 .rw[Ty.bE,zad k,Ty.sub_eq,zad (by exact k),Ty.sub_eq (eT 0 W) u,zad k,Ty.bE,zad (by exact k)];simp only[zbd];congr 1;exact zaP fun x hx=>b x hx (d.kd x hx) (h.df k x hx)
def Ri(hr:UO r)(a:u.Kw)(h:UW r gen u):cG (gen.map fun g=>(r g).id) (u.ev r) (vars [u.ev r])=Et r (cG gen u (vars [u])):=by
 have e1:(vars [u.ev r]).filter (fun v=>decide (v∈gen.map fun g=>(r g).id))=((vars [u]).filter fun v=>decide (v∈gen)).map fun g=>(r g).id:=by
  rw[JA,JA,nq,nq,Y0 hr u a h]
  exact xD _ [] fun x y hx hy e=>by
   simp only[zch,or_false,zbI,zaS]at hx hy;exact h.inj x hx.2 y hy.2 e
 unfold cG Et;simp only[jT,zaQ,zcL,e1,zg,zaD];rw[Y1 (fun w hw=>by simpa using(zbI.1 hw).2) u a h]
def UX(hn:gen.Nodup)(hV:∀g∈gen,g∈V)(a:∀g∈gen,g∉O):jV gen V O 0=true:=by
 unfold jV;rw[zas];intro i hi;rw[zc1]at hi;obtain⟨x,hx⟩:=aR (l:=gen) (i:=i) (by omega);have hm:=aM hx;unfold Su;rw[hx,zaW];simp only[zaj,zcc,zbg,zaS];refine⟨⟨fun h=>?_,hV x hm⟩,a x hm⟩;obtain⟨j,hj⟩:=zaY h;rw[zbG]at hj;split at hj
 .have h1:=(zaa.1 hj);have h2:=(zaa.1 hx);obtain⟨d,c⟩:=h1;obtain⟨b1,b⟩:=h2;have:=(List.getElem_inj (h₀:=d) (h₁:=b1) hn).1 (c.trans b.symm);omega
 .cases hj
def JY(X:Ext s s'){i:Int}(h:t8 s i v):t8 s' i v:=by
 induction h with
 |refl=>exact .refl _
 |step e _ b=>
  obtain⟨k,x,rfl,hx,d,c⟩:=e;obtain⟨y,hy,a,e⟩:=X.bd k x hx d;exact .step ⟨k,y,rfl,hy,a,by rw[e];exact c⟩ b
def Iy(X:Ext s s')(h:RT s u v):RT s' u v:=by
 obtain⟨w,a,h⟩:=h;exact⟨w,a,JY X h⟩
def Y2(hC:nI W s){i:Int}(h:t8 s i v):W i->W v:=by
 induction h with
 |refl=>exact fun h=>h
 |step e _ a=>
  obtain⟨k,x,rfl,hx,c,b⟩:=e;exact fun h=>a ((hC k x hx c h).1 _ b)
def abH(hC:nI W s)(ht:∀w,cf u w->W w)(h:RT s u v):W v:=by
 obtain⟨w,a,h⟩:=h;exact Y2 hC h (ht w a)
def WS(h0:∀k,KS k->W k)(hr:UO r)(h:u.Kn W):(u.ev r).Kn W:=by
 induction h with
 | @mk u h1 h2 _ c=>
  rw[Ty.bE];split
  .exact(hr _).imp h0
  .refine .mk (fun q=>?_) h2 fun x hx=>?_
   .obtain⟨a,b⟩:=h1 q;exact⟨a,by simp only[b,zbc]⟩
   .simp only[zak]at hx;obtain⟨a,d,rfl⟩:=hx;exact c a d
def Iz{l:List Ty}:∀{out:List Int}{w:Int},w∈l.foldl bP out->w∈out\/∃y∈l,y.kind=1/\y.id=w:=by
 induction l with
 |nil=>exact fun h=>.inl h
 |cons x r a=>
  intro out w h;rw[zaO]at h;rcases a h with h|⟨y,hy,e⟩
  .unfold bP at h;split at h
   .rename_i q;rcases zae.1 h with h|h
    .exact .inl h
    .simp at h;exact .inr ⟨x,by simp,q.1,h.symm⟩
   .exact .inl h
  .exact .inr ⟨y,by simp[hy],e⟩
def Nj(h:u.Kn W):∀y∈u.nodes,y.kind=1->cf u y.id:=by
 induction h with
 | @mk u e _ _ d=>
  intro y hy c;rw[Ty.aI]at hy;simp only[zah,zaf]at hy;rcases hy with rfl|⟨a,b,hy⟩
  .exact .var c
  .refine .arg (fun q=>?_) b (d a b y hy c);have:=(e (by rw[q];decide)).2;rw[this]at b;cases b
def Rj{K:Int->Prop}{l:List Ty}(h:∀t∈l,t.Kn K)(hw:w∈vars l):∃t∈l,cf t w:=by
 rcases Iz hw with hw|⟨y,hy,k,rfl⟩
 .cases hw
 .simp only[zaf]at hy;obtain⟨t,ht,hy⟩:=hy;exact⟨t,ht,Nj (h t ht) y hy k⟩
def Y3{g:Int}(h:cf u g):cf (r g) w->cf (u.ev r) w:=by
 induction h with
 |var k=>rw[gQ k];exact fun h=>h
 | @arg u a v k c _ b=>
  intro h;rw[Ty.bE,zad k];exact .arg k (zbt c) (b h)
def Rk(t:Ty):∀w,cf (t.ev r) w->∃g,cf t g/\cf (r g) w:=by
 refine Ty.cb (p:=fun t=>∀w,cf (t.ev r) w->∃g,cf t g/\cf (r g) w) ?_ t;intro t c w h;by_cases k:t.kind=1
 .rw[gQ k]at h;exact⟨_,.var k,h⟩
 .rw[Ty.bE,zad k]at h;cases h with
  |var q=>exact absurd q k
  |arg _ hm d=>
   simp only[zak]at hm;obtain⟨a,b,rfl⟩:=hm;obtain⟨g,h1,h2⟩:=c a b w d;exact⟨g,.arg k b h1,h2⟩
def IA(hs:Sat r s)(h:A7 s T u):u.ev r=T.ev r:=by
 induction h with
 | @mk T u h1 h2 h3 h4 h5 _ c=>
  rw[<-Jr hs (s.length+1) T]
  change _=(dY s T).ev r
  exact Jw h1 h2 h3 h4 h5 fun j a b hj e d=>c j b a d e
def Rl(hC:nI W s)(f:xS s)(e:∀x∈s,x.ty.Kw)(h:A7 s T u):T.Kw->gY W T->gY W u:=by
 induction h with
 | @mk T u h1 h2 h3 h4 h5 _ d=>
  intro tk ht;have w:gY W (dY s T):=Js hC _ T ht;have wk:(dY s T).Kw:=pN e tk;have hd:=w.2.hd;refine⟨fun v c=>?_,pM (by rw[h1,h2,h3,h4,h5];exact hd) fun x hx=>?_⟩
  .cases c with
   |var q=>rw[h3];exact w.1 _ (.var (by rw[<-h1];exact q))
   | @arg _ x _ q hx c=>
    obtain⟨i,hi⟩:=zaY hx;obtain⟨b,a⟩:=aR (l:=(dY s T).args) (i:=i) (by have:=(zaa.1 hi).1;omega);exact(d i b x a hi (wk.kd b (aM a)) (uY wk w b (aM a))).1 v c
  .obtain⟨i,hi⟩:=zaY hx;obtain⟨b,a⟩:=aR (l:=(dY s T).args) (i:=i) (by have:=(zaa.1 hi).1;omega);exact(d i b x a hi (wk.kd b (aM a)) (uY wk w b (aM a))).2
def Bq.nd{c:Sc}(G:Bq s T L u gen c):gen.Nodup:=by
 obtain⟨kept,rfl,_⟩:=G.g;have h:=ud (rC u) [] (by simp);rw[<-JA]at h;exact h.filter _
def Bq.sub{c:Sc}(G:Bq s T L u gen c):∀g∈gen,cf u g:=by
 obtain⟨kept,rfl,_⟩:=G.g;exact fun g a=>(zt G.kw).1 (zbI.1 a).1
def Bq.out{c:Sc}(G:Bq s T L u gen c):∀g∈gen,∀x∈L,¬RT s x g:=fun g a x hx h=>by
 have d:=((G.gZ g).1 (G.sub g a)).2;obtain⟨kept,rfl,b⟩:=G.g;have:=(zbI.1 a).2;simp only[zaS]at this;exact this ((b g).2 ⟨x,hx,h,d⟩)
def Rm{s:List As}(hs:∀i x,cR s i=some x->Gv x)(t:Ty):Gv t->Gv (t.sub s):=by
 refine Ty.cb (p:=fun t=>Gv t->Gv (t.sub s)) ?_ t;intro t c h;rw[Ty.sub_eq];split
 .cases e:cR s t.id with
  |some x=>exact hs _ x e
  |none=>exact h
 .have:=h.hd;refine pM (by simpa using this) ?_;intro x hx;simp only[zak]at hx;obtain⟨a,b,rfl⟩:=hx;exact c a b (h.df a b)
def Bw{i:Int}:∀{l:List Int}{n:Nat},cR (eT n l) i=some u->Gv u
 |[],_,h=>by simp[eT,cR]at h
 |w::l,n,h=>by
  simp only[eT,cR]at h;split at h
  .cases h;exact pM (.inr (.inl rfl)) (by simp[bm])
  .exact Bw h
def Sn1(ds:List Dt)(home:Int)(env:List En)(e a:Ex)(n:Nat)(s:List Sl)(f:Nat)(d:List Sl)(c:Dv)(b:List Ho):Prop:=
 ∀W,UK n W->nI W s->(∀x∈aW env,gY W x.sc.ty)->∃W' O,nM n s W f d W'/\Bs d W' n f O/\JU c.jF O/\gY W' c.ty/\(∀t∈aP b,gY W' t)/\
   ∀r,UO r->Sat r d->(∀o∈O,JT r o)->∀h,a.BN h->∃l,aK ds home h (if e.kind=7 then env.map (En.ev r)++[⟨e.name,⟨0,c.ty.ev r⟩⟩]else env.map (En.ev r)) a (c.ev r)=some l/\l.map Rd.h=b.map (Ho.ev r)
variable{x:Ex}{L:List Int}
def UY{env:List En}{c:List Sl}{b:List Ho}(i:e.kind=6)(A:rS ds home env x n s N c f b):Sn1 ds home env e x n s N c f b:=by
 intro W g hC h;have h7:¬e.kind=7:=by omega
 simpa only[zad h7]using A W g hC h
def UZ{env:List En}{a:Ex}{s:cK}{f:List Sl}(hl:s.sl.length=n)(hm:Int){c:List Ho}(q:e.kind=7)(hn:n+1<=N)(A:rS ds home (env++[⟨e.name,⟨0,az n⟩⟩]) a (n+1) (a7 s hm false).sl N f C c)(g:s'.length=N)(X:Ext f s')(u:Uv (az n) C.ty f s'):Sn1 ds home env e a n s.sl N s' C c:=by
 intro W k hC y;have F:nM n s.sl W (n+1) (a7 s hm false).sl (zo W n (n+1)):=nM.open hl hC k hm 1;have j:gY (zo W n (n+1)) (az n):=lP (zal _) (by omega);have d:=F.rg (by omega) k;obtain⟨W',O,G,w,v,hd,hr,hf⟩:=A _ d F.cls (pj (P:=fun x=>gY _ x.sc.ty) (fun x hx=>(y x hx).mono F.sub) j);have o:nM N f W' N s' W':=.uv G.Es g u G.cls (j.mono G.sub) hd;refine⟨W',uB W' O,(F.trans G (by omega) hn).trans o (by omega) (zal _),(w.bS (by omega)).Iw o (zal _) (G.rg hn d),v.Iw,hd,hr,fun r pr hs p h t=>?_⟩;obtain⟨l,e1,e2⟩:=hf r pr (fJ X hs) (qB p) h t;have m:=u.snd r hs;rw[ry]at m;refine⟨l,?_,e2⟩;rw[zai q,<-m];rw[za3]at e1;simpa[En.ev,Et,ry]using e1
def U0{env:List En}{a:Ex}{D:List Sl}(O:e.kind=6\/e.kind=7)(h1:e.kids=[a,b])(h2:e.aF=[]){E:Dv}{F T:List Ho}{c:Sc}(hn:n<=N)(a2:N<=i0)
   (A:Sn1 ds home env e a n s N D E F) (X0:Ext s D) (ac:xS D) (ai:∀x∈D,x.ty.Kw) (dk:E.ty.Kw) (ek:∀x∈aW env,x.sc.ty.Kn KV) (rk:∀t∈aP F,t.Kn KV)
   (G:Bq D E.ty ((aW env).map (fun x=>x.sc.ty)++aP F) u gen c) (B:rS ds home (env++[⟨e.name,c⟩]) b N D i0 s' C T) (X:Ext D s'):
   rS ds home env e n s i0 s' ⟨C.ty,[],gen,[E,C]⟩ (F++T):=by
 refine rS.of fun W R hC hE=>?_;let W0:Int->Prop:=fun v=>∃x∈aW env,RT s x.sc.ty v
 have S:∀v,W0 v->W v:=fun v ⟨x,hx,h⟩=>abH hC (hE x hx).1 h
 have c0:nI W0 s:=fun i y hy J hi=>by
  refine⟨fun w d=>?_,(hC i y hy J (S _ hi)).2⟩;obtain⟨x,hx,q,a5,hr⟩:=hi;exact⟨x,hx,q,a5,hr.trans (.step ⟨i,y,rfl,hy,J,d⟩ (.refl _))⟩
 obtain⟨W1,O1,F1,o1,z1,t1,r1,f1⟩:=A W0 (fun w h=>R w (S w h)) c0 fun x hx=>⟨fun w d=>⟨x,hx,w,d,.refl _⟩,(hE x hx).2⟩;have al:=F1.rg hn fun w h=>R w (S w h)
 have H:∀g∈gen,∀x∈aW env,¬RT D x.sc.ty g:=fun g p x hx=>G.out g p _ (by simp only[zae,zak];exact .inl ⟨x,hx,rfl⟩);have M:gY W1 u:=Rl F1.cls ac ai G.res dk t1
 have p:∀g∈gen,(n:Int)<=g/\g<N:=fun g p=>by
  rcases F1.up g (M.1 g (G.sub g p))with⟨x,hx,h⟩|h
  .exact absurd (Iy X0 h) (H g p x hx)
  .exact h
 have aj:∀g∈gen,¬W g:=fun g h q=>by have:=p g h;have:=R g q;omega
 have key:∀v g,t8 D v g->W v->W g\/∃v',W0 v'/\t8 D v' g:=by
  intro v g h;induction h with
  |refl=>exact fun h=>.inl h
  | @step i j k ed hr ih=>
   intro hv;by_cases q:W0 i
   .exact .inr ⟨i,q,.step ed hr⟩
   .obtain⟨m,y,rfl,hy,J,d⟩:=ed;obtain⟨x,hx⟩:=aR (l:=s) (i:=m) (by have:=F1.len;have:=R _ hv;omega);obtain⟨z,Y,p1,p2⟩:=F1.YW m x hx q;rw[hy]at Y;cases Y;exact ih ((hC m x hx (by rw[<-p1];exact J) hv).1 _ (by rw[<-p2];exact d))
 have V:∀v,W v->∀g∈gen,¬t8 D v g:=fun v hv g f hr=>by
  rcases key v g hr hv with h|⟨v',⟨x,hx,w,d,h⟩,h'⟩
  .exact aj g f h
  .exact H g f x hx ⟨w,d,(JY X0 h).trans h'⟩
 let I:Int->Prop:=fun v=>(W v\/W1 v)/\∀g∈gen,¬t8 D v g
 have F12:nM n s W N D I:=by
  refine⟨F1.len,F1.Es,fun w h=>⟨.inl h,V w h⟩,fun w h=>?_,fun i y hy J hi=>?_,fun k x hx hw=>F1.YW k x hx fun h=>hw (S _ h)⟩
  .rcases h.1 with h|h
   .exact .inl h
   .rcases F1.up w h with h|h
    .exact .inl (S w h)
    .exact .inr h
  .have Z:gY (fun w=>W w\/W1 w) y.ty:=by
    by_cases q:W1 i
    .exact(F1.cls i y hy J q).mono fun _ h=>.inr h
    .have hi:W i:=hi.1.resolve_right q;obtain⟨x,hx⟩:=aR (l:=s) (i:=i) (by have:=F1.len;have:=R _ hi;omega);obtain⟨z,Y,p1,p2⟩:=F1.YW i x hx fun h=>q (F1.sub _ h);rw[hy]at Y;cases Y;rw[p2];exact(hC i x hx (by rw[<-p1];exact J) hi).mono fun _ h=>.inl h
   exact⟨fun w d=>⟨Z.1 w d,fun g f hr=>hi.2 g f (.step ⟨i,y,rfl,hy,J,d⟩ hr)⟩,Z.2⟩
 have Q:=F12.rg hn R
 have uK:∀w,cf u w->w∉gen->I w:=fun w d hn=>⟨.inr (M.1 w d),fun g f hr=>by
  have:=oq hr ((G.gZ w).1 d).2;subst this;exact hn f⟩
 have ak:gY I c.ty:=by
  refine⟨fun w d=>uK w (G.cl w d).1 (G.cl w d).2,?_⟩;rw[G.e];unfold cG;refine Rm (fun i x h=>?_) u M.2;rw[jT,zaQ]at h;exact Bw h
 obtain⟨W3,O2,F2,o2,z2,t2,r2,f2⟩:=B I Q F12.cls (pj (P:=fun x=>gY _ x.sc.ty) (fun x hx=>(hE x hx).mono F12.sub) ak)
 have o3:Bs D I n N (⟨I,gen⟩::O1):=by
  intro o d;rcases zah.1 d with rfl|d
  .exact⟨F12.cls,Q,fun g h=>⟨(p g h).1,(p g h).2,((G.gZ g).1 (G.sub g h)).2,fun q=>q.2 g h (.refl _),fun q=>q.2 g h (.refl _)⟩⟩
  .obtain⟨p1,p2,p3⟩:=o1 o d;refine⟨p1,p2,fun g h=>?_⟩;obtain⟨q1,q2,q3,q4,q5⟩:=p3 g h
   exact⟨q1,q2,q3,q4,fun q=>by
    rcases q.1 with q|q
    .have:=R g q;omega
    .exact q5 q⟩
 have U:∀t∈aP F,gY I t:=fun t ht=>⟨fun w d=>⟨.inr ((r1 t ht).1 w d),fun g f hr=>G.out g f t (by simp[ht]) ⟨w,d,hr⟩⟩,(r1 t ht).2⟩;refine⟨W3,uB W3 (⟨I,gen⟩::O1)++O2,F12.trans F2 hn a2,(o3.Iw F2 a2 Q).app (o2.bS hn),by rw[abG,<-zaF];exact((UN.app z1).Iw).app z2,t2,fun t ht=>?_,fun r pr hs d h hh=>?_⟩
 .rw[eP,zae]at ht;rcases ht with ht|ht
  .exact(U t ht).mono F2.sub
  .exact r2 t ht
 .have a1:=fJ X hs;have go:∀o∈(⟨I,gen⟩::O1:List ((Int->Prop)×List Int)),JT r o:=qB (UL d);obtain⟨l1,p1,q1⟩:=f1 r pr a1 (fun o h=>go o (by simp[h])) h (hh a (by rw[Ex.ch,h1];simp));obtain⟨l2,p2,q2⟩:=f2 r pr hs (UM d) h (hh b (by rw[Ex.ch,h1];simp));obtain⟨g1,g2,g3⟩:=go ⟨I,gen⟩ (by simp);have ap:UW r gen u:=⟨g1,g2,fun g p w hw hn=>g3 g p w (uK w hw hn)⟩;have eu:=IA a1 G.res;have ec:cG (gen.map fun g=>(r g).id) (E.ty.ev r) (vars [E.ty.ev r])=Et r c:=(by rw[<-eu,Ri pr G.kw ap,<-G.e]);have uk:(u.ev r).Kw:=WS (fun _ h=>h) pr G.kw
  have gb:jV (gen.map fun g=>(r g).id) (vars [E.ty.ev r]) (dQ (env.map (En.ev r))++vars (aP (l1.map Rd.h))) 0=true:=by
   refine UX ?_ ?_ ?_
   .rw[List.Nodup,List.pairwise_map];exact G.nd.imp_of_mem fun{x y} hx hy ab he=>ab (g2 x hx y hy he)
   .intro k O;simp only[zak]at O;obtain⟨g,p,rfl⟩:=O;rw[<-eu,zt uk];refine Y3 (G.sub g p) ?_;have e:=g1 g p;generalize (r g).id=i at*;rw[e];exact .var rfl
   .intro k O;simp only[zak]at O;obtain⟨g,p,rfl⟩:=O
    have a3:∀L:List Ty,(∀t∈L,t.Kn KV/\∀w,cf t w->I w)->(r g).id∉vars (L.map (Ty.ev r)):=fun L hL hm=>by
     obtain⟨t',a0,d⟩:=Rj (K:=KV) (fun t ht=>by
      simp only[zak]at ht;obtain⟨t,ht,rfl⟩:=ht;exact WS (fun _ h=>pL _ h) pr (hL t ht).1) hm
     simp only[zak]at a0;obtain⟨t,ht,rfl⟩:=a0;obtain⟨w,h1,h2⟩:=Rk t _ d;exact g3 g p w ((hL t ht).2 w h1) h2
    rw[zae,not_or];constructor
    .unfold dQ
     have e:((aW (env.map (En.ev r))).map fun x=>x.sc.ty)=((aW env).map fun x=>x.sc.ty).map (Ty.ev r):=by
      rw[oG];simp[En.ev,Et]
     rw[e];refine a3 _ fun t ht=>?_;simp only[zak]at ht;obtain⟨x,hx,rfl⟩:=ht;exact⟨ek x hx,fun w d=>F12.sub w ((hE x hx).1 w d)⟩
    .rw[q1,Nh];exact a3 _ fun t ht=>⟨rk t ht,(U t ht).1⟩
  refine⟨l1++l2,?_,by rw[za3,q1,q2,za3]⟩;have e0:∀x:Dv,(x.ev r).ty=x.ty.ev r:=fun x=>by rw[Dv.bE]
  have J:¬((e.kind≠6/\e.kind≠7/\(Dv.ev r ⟨C.ty,[],gen,[E,C]⟩).gen≠[])\/(e.kind≠1/\e.kind≠2/\e.kind≠8/\(Dv.ev r ⟨C.ty,[],gen,[E,C]⟩).inst≠[])):=by
   rw[Dv.bE];simp;omega
  rw[aK,zad J,zad (by omega),zad (by omega),zad (by omega),zad (by omega),zad (by omega),zai O];have k0:jk (Dv.ev r ⟨C.ty,[],gen,[E,C]⟩) 0=E.ev r:=by rw[Dv.bE];rfl
  have k1:jk (Dv.ev r ⟨C.ty,[],gen,[E,C]⟩) 1=C.ev r:=(by rw[Dv.bE];rfl);have k2:(Dv.ev r ⟨C.ty,[],gen,[E,C]⟩).gen=gen.map fun g=>(r g).id:=by rw[Dv.bE]
  have k3:nL e 0=a:=(by rw[nL,h1];rfl);have k4:nL e 1=b:=(by rw[nL,h1];rfl);rw[k0,k1,k2,k3,k4];simp only[e0];rw[p1];simp only;rw[ec,zai ⟨gb,trivial⟩];have a4:aK ds home h (env.map (En.ev r)++[⟨e.name,Et r c⟩]) b (C.ev r)=some l2:=(by simpa[En.ev]using p2);rw[a4]
def tW:Int->Prop:=fun _=>True
def kg(h:Gv u):gY tW u:=⟨fun _ _=>trivial,h⟩
inductive Dv.Gd (s:List Sl):Ex->Dv->Prop
 |mk {e:Ex} {d:Dv}:Gv d.ty->(∀t∈d.inst,Gv t)->e.ch.length=d.kids.length->(∀g∈d.gen,∃y∈d.kids,RT s y.ty g)->(∀(i:Nat) x y,e.ch[i]?=some x->d.kids[i]?=some y->y.Gd s x)->d.Gd s e
def Dv.Gd.t(h:d.Gd s e):Gv d.ty:=by cases h;assumption
def Dv.Gd.mono(X:Ext s s')(h:d.Gd s e):d.Gd s' e:=by
 induction h with
 |mk a b c g _ f=>exact .mk a b c (fun w hw=>by obtain⟨y,hy,q⟩:=g w hw;exact⟨y,hy,Iy X q⟩) f
def Bx{l:List Ty}(ht:Gv u)(hl:∀x∈l,Gv x)(h:e.ch=[]):(⟨u,l,[],[]⟩:Dv).Gd s e:=.mk ht hl (by rw[h];rfl) (by simp) (by simp)
def IB(h1:e.kids=[b])(h2:e.aF=[])(ht:Gv u)(hd:d.Gd s b):(⟨u,[],[],[d]⟩:Dv).Gd s e:=.mk ht (by simp) (by rw[Ex.ch,h1,h2];rfl) (by simp) fun i x y hx hy=>by
 rw[Ex.ch,h1,h2]at hx;cases i with
 |zero=>simp at hx hy;subst hx hy;exact hd
 |succ i=>simp at hx
def Rn{a:Ex}{h:Dv}(h1:e.kids=[a,b])(h2:e.aF=[])(ht:Gv u)(j:∀w∈g,RT s C.ty w)(f:C.Gd s a)(d:h.Gd s b):(⟨u,[],g,[C,h]⟩:Dv).Gd s e:=.mk ht (by simp) (by rw[Ex.ch,h1,h2];rfl) (fun w hw=>⟨C,by simp,j w hw⟩) fun i x y hx hy=>by
 rw[Ex.ch,h1,h2]at hx;cases i with
 |zero=>simp at hx hy;subst hx hy;exact f
 |succ i=>cases i with
  |zero=>simp at hx hy;subst hx hy;exact d
  |succ i=>simp at hx
def Vlt(env:List En)(e:Ex)(s s':List Sl)(d:Dv)(rs:List Ho):Prop:=nI tW s->(∀x∈aW env,Gv x.sc.ty)->nI tW s'/\d.Gd s' e/\∀t∈aP rs,Gv t
def lz{s:cK}(h:nI tW s.sl)(hm:Int)(K:Nat):nI tW (uz hm s K).sl:=fun i x hx a hw=>by
 rcases pg hm s K i x hx with e|e
 .exact h i x e a hw
 .rw[e]at a;cases a
def IC(d:Gv u)(c:Gv T):Gv ⟨4,[45,62],0,0,[u,T]⟩:=((kg d).arr (kg c)).2
def rL:∀x∈cQ n N,Gv x:=fun x hx=>(Bu (W:=tW) x hx).2
def zu{env:List En}(a:∀x∈aW env,Gv x.sc.ty)(ht:Gv T):∀u∈aP [⟨home,pos,aW env,T⟩],Gv u:=fun u hu=>(qC (W:=tW) (fun x hx=>kg (a x hx)) (kg ht) u hu).2
inductive ES:Ex->Prop
 |mk {e:Ex}:(e.kind=9->(∀w,¬cf e.ty w)/\Gv e.ty)->(e.kind=1\/e.kind=2\/e.kind=3\/e.kind=10->e.ch=[])->(∀x∈e.ch,ES x)->ES e
def ES.a(h:ES e):e.kind=9->(∀w,¬cf e.ty w)/\Gv e.ty:=by cases h;assumption
def ES.l(h:ES e):e.kind=1\/e.kind=2\/e.kind=3\/e.kind=10->e.ch=[]:=by cases h;assumption
def ES.at(h:ES e)(hx:e.ch[n]?=some x):ES x:=by
 cases h with
 |mk _ _ h=>exact h x (aM hx)
structure lA(ds:List Dt)(m:Mc)(n:Nat)(env:List En)(e:Ex)(m':Mc)(n':Nat)(d:Dv):Prop where
 er:m'.err=0->m.err=0
 sn:m'.err=0->oF ds (·∈env.map En.name) e->ES e->∃rs,m'.rc=m.rc++rs/\rS ds m.home env e n m.s.sl n' m'.s.sl d rs/\Vlt env e m.s.sl m'.s.sl d rs
def oF.imp{K':bF->Prop}(h:oF ds K e):(∀s,K s->K' s)->oF ds K' e:=by
 induction h generalizing K' with
 |var a b=>exact fun h=>.var a (h _ b)
 |dy a b=>exact fun _=>.dy a b
 |Nc a b c _ d=>exact fun h=>.Nc a b c fun i x hx=>d i x hx fun s hs=>hs.imp (h s) id
def oF.df(h:oF ds K e)(h1:e.kind≠1)(h2:e.kind≠2)(hx:e.ch[n]?=some x):oF ds (fun s=>K s\/s∈bX e n) x:=by
 cases h with
 |var a _=>exact absurd a h1
 |dy a _=>exact absurd a h2
 |Nc _ _ _ d=>exact d n x hx
def oF.same(h:oF ds K e)(h1:e.kind≠1)(h2:e.kind≠2)(hx:e.ch[n]?=some x)(a:bX e n=[]):oF ds K x:=(h.df h1 h2 hx).imp fun s hs=>by
 rw[a]at hs;simpa using hs
def oF.push{env:List En}(h:oF ds (·∈env.map En.name) e)(h1:e.kind≠1)(h2:e.kind≠2)(hx:e.ch[n]?=some x)(a:bX e n=[e.name])(c:Sc):oF ds (·∈(env++[(⟨e.name,c⟩:En)]).map En.name) x:=(h.df h1 h2 hx).imp fun s hs=>by
 rw[a]at hs;simpa using hs
def sU(h:e.kids=[x]):e.ch[0]?=some x:=by rw[Ex.ch,h];rfl
def qD(h:e.kids=[x,b]):e.ch[0]?=some x/\e.ch[1]?=some b:=by rw[Ex.ch,h];exact⟨rfl,rfl⟩
def Y4{env:List En}(h:¬m.err=0):lA ds m n env e m N d:=⟨fun q=>absurd q h,fun q=>absurd q h⟩
def JZ{env:List En}(hl:m.s.sl.length=n)(h0:m.err=0){c:Sc}(a:oF ds (·∈env.map En.name) e->(e.kind=1/\jr env e.name=some c)\/(e.kind=2/\dH ds e.name=some c/\(∀w,¬cf c.ty w)/\Gv c.ty)){K:Nat}(hK:c.id=K):lA ds m n env e (j_ m K) (n+K) ⟨c.ty.d7 (cQ n K),cQ n K,[],[]⟩:=by
 refine⟨fun _=>h0,fun _ b N=>⟨[],by simp[j_],Rc hl m.home (a b) hK,fun hC f=>⟨lz hC _ _,Bx (Rb rL _ ?_) rL (N.l (by rcases a b with h|h<;>simp[h.1])),by simp[aP]⟩⟩⟩;rcases a b with⟨_,a⟩|⟨_,_,_,d⟩
 .rw[<-Jj]at a;obtain⟨x,hx,rfl⟩:=Bt a;exact f x hx
 .exact d
def Y5:Gv a8:=pM (.inr (.inr ⟨rfl,rfl,rfl,by simp[i7,a8]⟩)) (by simp[a8])
def Y6{env:List En}(hl:m.s.sl.length=n)(a:e.kind=3):lA ds m n env e m n ⟨a8,[],[],[]⟩:=
 ⟨fun h=>h,fun _ _ N=>⟨[],by simp,UP hl a,fun hC _=>⟨hC,Bx Y5 (by simp) (N.l (by simp[a])),by simp[aP]⟩⟩⟩
def U1{env:List En}(hl:m.s.sl.length=n)(a:e.kind=10):lA ds m n env e {m with s:=a7 m.s m.home false,rc:=m.rc++[⟨m.home,e.pos,aW env,az n⟩],hd:=hd} (n+1) ⟨az n,[],[],[]⟩:=
 ⟨fun h=>h,fun _ _ N=>⟨_,rfl,Re hl m.home a,fun hC b=>⟨lz hC m.home 1,Bx (iG _) (by simp) (N.l (by simp[a])),zu b (iG _)⟩⟩⟩
def Y7{env:List En}{a:Ex}(hl:m.s.sl.length=n)(c:e.kind=4)(h1:e.kids=[a])(h2:e.aF=[])(hn:n+1<=i0)(A:lA ds {m with s:=a7 m.s m.home false} (n+1) (env++[⟨e.name,⟨0,az n⟩⟩]) a m' i0 d):lA ds m n env e m' i0 ⟨⟨4,[45,62],0,0,[az n,d.ty]⟩,[],[],[d]⟩:=by
 refine⟨A.er,fun h K N=>?_⟩;obtain⟨rs,e1,S,V⟩:=A.sn h (K.push (by omega) (by omega) (sU h1) (by simp[bX,c]) _) (N.at (sU h1));refine⟨rs,e1,UQ hl m.home c h1 h2 hn S,fun hC i=>?_⟩;obtain⟨g,b,f⟩:=V (lz hC m.home 1) (pj (P:=fun x=>Gv x.sc.ty) i (iG _));exact⟨g,IB h1 h2 (IC (iG _) b.t) b,f⟩
variable{s':cK}{s:bF}{m2:Mc}
def Y8{d c:Nat}{env:List En}{a:Ex}{p:Dv}{x:Int}(l:e.kind=5)(h1:e.kids=[a,b])(h2:e.aF=[])(G:m1.home=m.home)(j:m2.s.sl.length=c)(hn:n<=d)(i:d<=c)(A:lA ds m n env a m1 d p)(B:lA ds m1 d env b m2 c o)
   (k:s'.sl.length=c+1) (X:Ext (a7 m2.s m2.home false).sl s'.sl) (X1:Ext m1.s.sl m2.s.sl) (U:x=0->m2.err=0/\Uv p.ty ⟨4,[45,62],0,0,[o.ty,az c]⟩ (a7 m2.s m2.home false).sl s'.sl):lA ds m n env e {m2 with s:=s',err:=x,pos:=p'} (c+1) ⟨az c,[],[],[p,o]⟩:=by
 refine⟨fun h=>A.er (B.er (U h).1),fun h K N=>?_⟩;obtain⟨v,u⟩:=U h;have F:=B.er v;obtain⟨c0,c1⟩:=qD h1;obtain⟨g,e1,H,V1⟩:=A.sn F (K.same (by omega) (by omega) c0 (by simp[bX,l])) (N.at c0);obtain⟨f,e2,y,V2⟩:=B.sn v (K.same (by omega) (by omega) c1 (by simp[bX,l])) (N.at c1);rw[G]at y;refine⟨g++f,by simp only[e2,e1,zaF],US j m2.home l h1 h2 hn i H y k X X1 u,fun hC w=>?_⟩;obtain⟨E,r,D⟩:=V1 hC w;obtain⟨C,q,z⟩:=V2 E w;refine⟨(u.YD tW (lz C m2.home 1) (kg r.t) (kg (IC q.t (iG _)))).1,Rn h1 h2 (iG _) (by simp) (r.mono ((X1.trans (Ext.fresh _ _ _)).trans X)) (q.mono ((Ext.fresh _ _ _).trans X)),fun t ht=>?_⟩;rw[eP,zae]at ht;rcases ht with ht|ht
 .exact D t ht
 .exact z t ht
def Y9{b:Nat}{env:List En}{j:Int}(f:e.kind=9)(h1:e.kids=[x])(h2:e.aF=[])(hn:n<=b)(A:lA ds m n env x m2 b d)
   (c:s'.sl.length=b) (X:Ext m2.s.sl s'.sl) (U:j=0->m2.err=0/\Uv d.ty e.ty m2.s.sl s'.sl):lA ds m n env e {m2 with s:=s',err:=j,pos:=p'} b ⟨e.ty,[],[],[d]⟩:=by
 refine⟨fun h=>A.er (U h).1,fun h K N=>?_⟩;obtain⟨o,u⟩:=U h;obtain⟨ht,g⟩:=N.a f;obtain⟨rs,e1,S,V⟩:=A.sn o (K.same (by omega) (by omega) (sU h1) (by simp[bX,f])) (N.at (sU h1));refine⟨rs,e1,UT f h1 h2 ht g hn S c X u,fun hC p=>?_⟩;obtain⟨l,i,k⟩:=V hC p;exact⟨(u.YD tW l (kg i.t) (kg g)).1,IB h1 h2 g (i.mono X),k⟩
def U2{c:Nat}{env:List En}(f:e.kind=11)(h1:e.kids=[x])(h2:e.aF=[])(k:m2.home=m.home)(A:lA ds m n env x m2 c d):lA ds m n env e {m2 with rc:=m2.rc++[⟨m2.home,e.pos,aW env,d.ty⟩],hd:=hd} c ⟨d.ty,[],[],[d]⟩:=by
 refine⟨A.er,fun h K N=>?_⟩;obtain⟨rs,e1,S,V⟩:=A.sn h (K.same (by omega) (by omega) (sU h1) (by simp[bX,f])) (N.at (sU h1));refine⟨rs++[⟨m.home,e.pos,aW env,d.ty⟩],by simp only[e1,k,zaF],Rg f h1 h2 S,fun hC g=>?_⟩;obtain⟨j,b,i⟩:=V hC g;refine⟨j,IB h1 h2 b.t b,fun t ht=>?_⟩;rw[eP,zae]at ht;rcases ht with ht|ht
 .exact i t ht
 .exact zu g b.t t ht
structure Si1(ds:List Dt)(m:Mc)(n:Nat)(env:List En)(e a:Ex)(m':Mc)(n':Nat)(d:Dv):Prop where
 er:m'.err=0->m.err=0
 sn:m'.err=0->oF ds (·∈env.map En.name) e->ES e->∃rs,m'.rc=m.rc++rs/\Sn1 ds m.home env e a n m.s.sl n' m'.s.sl d rs/\Vlt env a m.s.sl m'.s.sl d rs
def U3{c:Nat}{env:List En}(f:e.kind=6)(h1:e.kids=[x,b])(A:lA ds m n env x m1 c d):Si1 ds m n env e x m1 c d:=by
 refine⟨A.er,fun h K N=>?_⟩;obtain⟨rs,e1,S,V⟩:=A.sn h (K.same (by omega) (by omega) (qD h1).1 (by simp[bX,f])) (N.at (qD h1).1);exact⟨rs,e1,UY f S,V⟩
def U4{c:Nat}{env:List En}{a:Ex}(hl:m.s.sl.length=n)(i:e.kind=7)(h1:e.kids=[a,b])(hn:n+1<=c)(A:lA ds {m with s:=a7 m.s m.home false} (n+1) (env++[⟨e.name,⟨0,az n⟩⟩]) a m1 c d)(f:s'.sl.length=c)(X:Ext m1.s.sl s'.sl)(U:v=0->m1.err=0/\Uv (az n) d.ty m1.s.sl s'.sl):Si1 ds m n env e a {m1 with s:=s',err:=v,pos:=p'} c d:=by
 refine⟨fun h=>A.er (U h).1,fun h K N=>?_⟩;obtain⟨o,u⟩:=U h;obtain⟨rs,e1,S,V⟩:=A.sn o (K.push (by omega) (by omega) (qD h1).1 (by simp[bX,i]) _) (N.at (qD h1).1);refine⟨rs,e1,UZ hl m.home i hn S f X u,fun hC p=>?_⟩;obtain⟨l,g,k⟩:=V (lz hC m.home 1) (pj (P:=fun x=>Gv x.sc.ty) p (iG _));exact⟨(u.YD tW l (kg (iG _)) (kg g.t)).1,g.mono X,k⟩
def Ro{f o:Nat}{env:List En}{a:Ex}{r q:Dv}{F:Int}{c:Sc}(l:e.kind=6\/e.kind=7)(h1:e.kids=[a,b])(h2:e.aF=[])(S:m1.home=m.home)(hn:n<=f)(w:f<=o)(A:Si1 ds m n env e a m1 f r)(W:Ext m.s.sl m1.s.sl)(I:qF f m1.s)(H:r.ty.Kw)(T:∀x∈env,ly f x.sc)(O:∀h∈m1.rc,l6 f h)
   (G:F=0->m1.err=0/\∃u,Bq m1.s.sl r.ty ((aW env).map (fun x=>x.sc.ty)++aP (m1.rc.drop m.rc.length)) u gen c) (B:lA ds {m1 with err:=F,pos:=p'} f (env++[⟨e.name,c⟩]) b m2 o q) (X:Ext m1.s.sl m2.s.sl):lA ds m n env e m2 o ⟨q.ty,[],gen,[r,q]⟩:=by
 refine⟨fun h=>A.er (G (B.er h)).1,fun h K N=>?_⟩;obtain⟨Q,u,G⟩:=G (B.er h);obtain⟨d,e1,Z,V1⟩:=A.sn Q K N;obtain⟨j,e2,Y,V2⟩:=B.sn h (K.push (by omega) (by omega) (qD h1).2 (by rcases l with l|l<;>simp[bX,l]) _) (N.at (qD h1).2);have U:m1.rc.drop m.rc.length=d:=by rw[e1];simp
 rw[U]at G;have k:∀h∈d,l6 f h:=fun h p=>O h (by rw[e1];simp[p])
 have v:∀t∈aP d,t.Kn KV:=fun t ht=>by
  simp only[aP,zaf,zae,zak,zaU]at ht;obtain⟨h,p,⟨x,hx,rfl⟩|rfl⟩:=ht
  .exact((k h p).ctx x hx).kn
  .exact(k h p).goal.wf.imp pL
 have y:rS ds m.home (env++[⟨e.name,c⟩]) b f m1.s.sl o m2.s.sl q j:=by
  rw[<-S];exact Y
 refine⟨d++j,by rw[e2];simp only[e1,zaF],U0 l h1 h2 hn w Z W I.rz I.wf H (fun x hx=>(T x (cd env x hx)).kn) v G y X,fun hC E=>?_⟩;obtain⟨D,C,M⟩:=V1 hC E
 have V:Gv c.ty:=by
  rw[G.e];unfold cG;refine Rm (fun i x h=>?_) u (Rl D I.rz I.wf G.res H (kg C.t)).2;rw[jT,zaQ]at h;exact Bw h
 obtain⟨L,z,J⟩:=V2 D (pj (P:=fun x=>Gv x.sc.ty) E V);refine⟨L,Rn h1 h2 z.t (fun g R=>Iy X ((G.gZ g).1 (G.sub g R)).1) (C.mono X) z,fun t ht=>?_⟩;rw[eP,zae]at ht;rcases ht with ht|ht
 .exact M t ht
 .exact J t ht
def rM{l:List En}:∀{env:List En},∀y∈aW (env++l),y∈aW env\/y∈l
 |[],y,hy=>.inr (cd _ y hy)
 |a::r,y,hy=>by
  simp only[za2,aW]at hy⊢;by_cases q:(r.any fun x=>decide (x.name=a.name))=true
  .rw[zai q];rw[zai (by rw[zdf,q];rfl)]at hy;exact rM y hy
  .rw[zad q];split at hy
   .rcases rM y hy with h|h
    .exact .inl (by simp[h])
    .exact .inr h
   .rcases zah.1 hy with rfl|hy
    .exact .inl (by simp)
    .rcases rM y hy with h|h
     .exact .inl (by simp[h])
     .exact .inr h
def Eu{P:Ty->Prop}{env:List En}(h:∀x∈aW env,P x.sc.ty)(hf:∀t∈fs,P t):∀x∈aW (fZ env vs fs),P x.sc.ty:=fun x hx=>by
 rcases rM x hx with q|q
 .exact h x q
 .simp only[zak]at q;obtain⟨p,hp,rfl⟩:=q;exact hf _ (zcK hp).2
def U5{env:List En}:(fZ env vs fs).map (En.ev r)=fZ (env.map (En.ev r)) vs (fs.map (Ty.ev r)):=by
 unfold fZ;rw[za3,List.zip_map_right,zbd,zbd];rfl
def ID:∀d∈br,∀c∈d.cons,(∀f∈c.fields,∀y∈(f.iV d.params).nodes,y.kind=2\/(y.kind=4/\y.id=0/\y.home=0/\i7 y.name y.args.length=true))/\∀y∈(qw d.params c.fields (nJ d)).nodes,y.kind=2\/(y.kind=4/\y.id=0/\y.home=0/\i7 y.name y.args.length=true):=by decide +kernel
def Y_:∀d∈br,∀a∈br,∀c∈d.cons,∀c'∈a.cons,c.name=c'.name->c.fields.length=c'.fields.length/\d.params.length=a.params.length:=by decide +kernel
def Nk(h:cf u v):∃y∈u.nodes,y.kind=1:=by
 induction h with
 | @var u k=>exact⟨u,by rw[Ty.aI];simp,k⟩
 | @arg u a v _ hm _ b=>
  obtain⟨y,hy,e⟩:=b;exact⟨y,by rw[Ty.aI];simp only[zah,zaf];exact .inr ⟨a,hm,hy⟩,e⟩
def sV(h:∀y∈u.nodes,y.kind=2\/(y.kind=4/\y.id=0/\y.home=0/\i7 y.name y.args.length=true)):(∀w,¬cf u w)/\Gv u:=by
 refine⟨fun w a=>?_,fun y hy=>.inr (h y hy)⟩;obtain⟨y,hy,k⟩:=Nk a;rcases h y hy with q|q
 .omega
 .omega
def IE(b:lX ds){c:Sc}(h:dH ds s=some c):(∀w,¬cf c.ty w)/\Gv c.ty:=by
 simp only[dH,zau,zac]at h;obtain⟨q,_,d,hd,k,a,rfl⟩:=h;exact sV ((ID d (b.all d (aM hd)) k (aM a)).2)
def abI{env:List En}(h:oF ds (·∈env.map En.name) e)(f:e.kind=1):jr env e.name=some ((jr env e.name).getD dV):=by
 have hm:e.name∈env.map En.name:=by
  cases h with
  |var _ q=>exact q
  |dy q _=>omega
  |Nc q _ _ _=>exact absurd f q
 have:∀l:List En,e.name∈l.map En.name->∃c,jr l e.name=some c:=by
  intro l;induction l with
  |nil=>intro h;simp at h
  |cons a r d=>
   intro h;simp only[jr];cases q:jr r e.name with
   |some c=>exact⟨c,rfl⟩
   |none=>
    simp only[zan,zah]at h;rcases h with h|h
    .exact⟨a.sc,by simp only;rw[zai h.symm]⟩
    .obtain⟨c,b⟩:=d h;rw[q]at b;cases b
 obtain⟨c,b⟩:=this env hm;rw[b];rfl
def Rq(h:oF ds K e)(b:e.kind=2):dH ds e.name=some ((dH ds e.name).getD dV):=by
 have hm:(gP ds e.name 0).isSome=true:=by
  cases h with
  |var q _=>omega
  |dy _ q=>exact q
  |Nc _ q _ _=>exact absurd b q
 obtain⟨q,a⟩:=zct.1 hm;obtain⟨_,d,c,hd,f,_⟩:=jE a;rw[zbA]at hd;have:dH ds e.name=some ⟨d.params.length,qw d.params c.fields (nJ d)⟩:=by simp only[dH,a,hd,f,za8,zaZ]
 rw[this];rfl
def Nl(e:lX ds)(h:fieldsOf ds s as=some fs)(hr:UO r):fieldsOf ds s (as.map (Ty.ev r))=some (fs.map (Ty.ev r)):=by
 simp only[fieldsOf,zau]at h⊢;obtain⟨q,b,d,hd,c,a,h⟩:=h;refine⟨q,b,d,hd,c,a,?_⟩;split at h
 .rename_i hl;cases h;rw[zai (by simpa using hl),zbd];congr 1;refine zaP fun f hf=>?_;simp only[Function.comp];rw[Ra hr,ph _ (sV ((ID d (e.all d (aM hd)) c (aM a)).1 f hf)).1]
 .cases h
def zw(g:lX ds)(h:fieldsOf ds s as=some fs)(e:∀t∈as,gY W t):∀t∈fs,gY W t:=by
 simp only[fieldsOf,zau]at h;obtain⟨q,i,d,hd,c,b,h⟩:=h;split at h
 .cases h
  intro t ht;simp only[zak]at ht;obtain⟨f,hf,rfl⟩:=ht;obtain⟨h1,h2⟩:=sV ((ID d (g.all d (aM hd)) c (aM b)).1 f hf);exact gY.d7 ⟨fun w a=>absurd a (h1 w),h2⟩ e
 .cases h
def U6{cs:List ke}:∀{as:List Ar},cs.map ke.name=as.map dB.dy->(Bb cs as).1=0->∀a∈as,∃c∈cs,c.name=a.dy/\a.vars.length=c.fields.length:=by
 induction cs with
 |nil=>intro as h _ a d;cases as with|nil=>cases d|cons b r=>simp at h
 |cons c cs f=>
  intro as h hf a d;cases as with
  |nil=>cases d
  |cons b r=>
   simp only[zan,zbz]at h;simp only[Bb]at hf;split at hf
   .simp at hf
   .rename_i q;split at hf
    .simp at hf
    .rcases zah.1 d with rfl|d
     .exact⟨c,by simp,h.1,by omega⟩
     .obtain⟨k,g,e⟩:=f h.2 hf a d;exact⟨k,by simp[g],e⟩
def Ew{α:Type}{p:α->Bool}:∀{l:List α}{k:Nat},bI p l=some k->∃x,l[k]?=some x/\p x=true
 |[],k,h=>by simp[bI]at h
 |a::r,k,h=>by
  simp only[bI]at h;split at h
  .rename_i q;cases h;exact⟨a,rfl,q⟩
  .simp only[zac]at h;obtain⟨j,hj,rfl⟩:=h;obtain⟨x,hx,q⟩:=Ew hj;exact⟨x,by simpa using hx,q⟩
variable{as:List Ar}{v:List Int}
def Rr(k:lX ds)(hi:eS ds as=some N)(hd:ds[N]?=some D)(hf:(Bb D.cons as).1=0):∀a∈as,∀I:List Ty,I.length=D.params.length->∃f,fieldsOf ds a.dy I=some f/\f.length=a.vars.length:=by
 intro a l I o;obtain⟨x,hx,j⟩:=Ew hi;rw[hd]at hx;cases hx;unfold iA at j;obtain⟨c,h,e1,e2⟩:=U6 (zca j) hf a l;obtain⟨q,g⟩:=xp (n:=0) hd h e1;obtain⟨_,e,c',b,d,en⟩:=jE g;rw[zbA]at b;obtain⟨m,k2⟩:=Y_ D (k.all D (aM hd)) e (k.all e (aM b)) c h c' (aM d) (e1.trans en.symm);refine⟨c'.fields.map fun f=>(f.iV e.params).d7 I,?_,by simp;omega⟩;simp only[fieldsOf,g,b,d,za8];rw[zai (by omega)]
def Y'(ds:List Dt)(home:Int)(env:List En)(I:List Ty)(T:Ty)(as:List Ar)(n:Nat)(s:List Sl)(n':Nat)(s':List Sl)(ks:List Dv)(rs:List Ho):Prop:=
 ∀W,UK n W->nI W s->(∀x∈aW env,gY W x.sc.ty)->(∀t∈I,gY W t)->gY W T->∃W' O,nM n s W n' s' W'/\Bs s' W' n n' O/\JU (ks.flatMap Dv.jF) O/\(∀t∈aP rs,gY W' t)/\
   ∀r,UO r->Sat r s'->(∀o∈O,JT r o)->∀h,(∀a∈as,a.body.BN h)->∀(b:Dv)(k:Nat)(c:List Rd),b.inst=I.map (Ty.ev r)->b.ty=T.ev r->(∀(j:Nat) y,ks[j]?=some y->jk b (k+j)=y.ev r)->∃l,ic (aK ds home h) ds (env.map (En.ev r)) b as k c=some (c++l)/\l.map Rd.h=rs.map (Ho.ev r)
def acz(env:List En)(as:List Ar)(I:List Ty)(T:Ty)(s s':List Sl)(ks:List Dv)(rs:List Ho):Prop:=nI tW s->(∀x∈aW env,Gv x.sc.ty)->(∀t∈I,Gv t)->Gv T->nI tW s'/\(as.length=ks.length/\∀(i:Nat) a y,as[i]?=some a->ks[i]?=some y->y.Gd s' a.body)/\∀t∈aP rs,Gv t
structure Rs(ds:List Dt)(m:Mc)(n:Nat)(env:List En)(I:List Ty)(T:Ty)(as:List Ar)(m':Mc)(n':Nat)(ks ks':List Dv):Prop where
 er:m'.err=0->m.err=0
 sn:m'.err=0->(∀a∈as,∃f,fieldsOf ds a.dy I=some f/\f.length=a.vars.length/\oF ds (·∈(fZ env a.vars f).map En.name) a.body/\ES a.body)->∃rs k2,ks'=ks++k2/\m'.rc=m.rc++rs/\Y' ds m.home env I T as n m.s.sl n' m'.s.sl k2 rs/\acz env as I T m.s.sl m'.s.sl k2 rs
def Za{env:List En}(hl:m.s.sl.length=n):Rs ds m n env I T [] m n ks ks:=
 ⟨fun h=>h,fun _ _=>⟨[],[],by simp,by simp,fun W b hC _ _ _=>⟨W,[],.refl hl hC,vt,vq,by simp[aP],fun r _ _ _ h _ c k a _ _ _=>⟨[],by simp[ic],rfl⟩⟩,fun hC _ _ _=>⟨hC,⟨rfl,by simp⟩,by simp[aP]⟩⟩⟩
def U7(F:lX ds){c:Nat}{env:List En}{a:Ar}{e:cK}{Q px:Int}(hn:n<=c)(g:c<=i0)(hH:m1.home=m.home)(A:lA ds m n (fZ env a.vars ((fieldsOf ds a.dy I).getD [])) a.body m1 c d)(C:e.sl.length=c)(X:Ext m1.s.sl e.sl)(U:Q=0->m1.err=0/\Uv T d.ty m1.s.sl e.sl)
   (R:Rs ds {m1 with s:=e,err:=Q,pos:=px} c env I T as m' i0 (ks++[d]) ks') (V:Ext e.sl m'.s.sl):Rs ds m n env I T (a::as) m' i0 ks ks':=by
 refine⟨fun h=>A.er (U (R.er h)).1,fun h K=>?_⟩;obtain⟨B,u⟩:=U (R.er h);obtain⟨f,hf,D,hk,hN⟩:=K a (by simp);rw[hf,zaW]at A;obtain⟨z,e1,S1,V1⟩:=A.sn B hk hN;obtain⟨l,k2,e2,e3,S2,V2⟩:=R.sn h fun x hx=>K x (by simp[hx]);have H:Y' ds m.home env I T as c e.sl i0 m'.s.sl k2 l:=by rw[<-hH];exact S2
 refine⟨z++l,d::k2,by rw[e2];simp,by rw[e3];simp only[e1,zaF],fun W P hC w v hT=>?_,fun hC w v hT=>?_⟩
 .obtain⟨G,O1,F1,o1,z1,t1,r1,f1⟩:=S1 W P hC (Eu w (zw F hf v));have q:=F1.rg hn P;have F2:nM c m1.s.sl G c e.sl G:=.uv F1.Es C u F1.cls (hT.mono F1.sub) t1;obtain⟨Y,O3,F3,o3,Z,r3,f3⟩:=H G q F2.cls (fun x hx=>(w x hx).mono F1.sub) (fun t ht=>(v t ht).mono F1.sub) (hT.mono F1.sub);have F23:=F2.trans F3 (zal _) g;refine⟨Y,uB Y O1++O3,F1.trans F23 hn g,(o1.Iw F23 g q).app (o3.bS hn),by rw[zaq];exact z1.Iw.app Z,fun t ht=>?_,fun r pr hs N h O S k l0 hi hd p=>?_⟩
  .rw[eP,zae]at ht;rcases ht with ht|ht
   .exact(r1 t ht).mono F23.sub
   .exact r3 t ht
  .have o:=fJ V hs;obtain⟨M,p1,B⟩:=f1 r pr (fJ X o) (qB (UL N)) h (O a (by simp))
   obtain⟨l2,p2,q2⟩:=f3 r pr hs (UM N) h (fun x hx=>O x (by simp[hx])) S (k+1) (l0++M) hi hd fun j y hy=>by
    have:=p (j+1) y (by simpa using hy);rw[<-this];congr 1;omega
   have k0:jk S k=d.ev r:=p 0 d (by simp);have e0:(d.ev r).ty=d.ty.ev r:=(by rw[Dv.bE]);refine⟨M++l2,?_,by rw[za3,B,q2,za3]⟩;rw[U5]at p1;rw[ic,hi,Nl F hf pr];simp only;rw[k0,zai ⟨by simpa using D,by rw[e0,hd];exact(u.snd r o).symm⟩,p1];simp only;rw[p2,zaF]
 .obtain⟨v1,L,v3⟩:=V1 hC (Eu w fun t ht=>(zw (W:=tW) F hf (fun t ht=>kg (v t ht)) t ht).2);obtain⟨w1,J,w3⟩:=V2 (u.YD tW v1 (kg hT) (kg L.t)).1 w v hT;refine⟨w1,⟨by simp[J.1],fun i b y E hy=>?_⟩,fun t ht=>?_⟩
  .cases i with
   |zero=>simp at E hy;subst E hy;exact L.mono (X.trans V)
   |succ i=>exact J.2 i b y (by simpa using E) (by simpa using hy)
  .rw[eP,zae]at ht;rcases ht with ht|ht
   .exact v3 t ht
   .exact w3 t ht
def Zb{l:List Ty}:(⟨4,s,0,0,l⟩:Ty).ev r=⟨4,s,0,0,l.map (Ty.ev r)⟩:=by
 rw[Ty.bE,zad (by simp)]
def U8(hD:lX ds){b:Nat}{env:List En}{d:cK}{px:Int}{K:Nat}(Z:e.kind=8)(c:e.kids=[x])(M:eS ds e.aF=some i0)(hd:ds[i0]?=some D)(a0:(Bb D.cons e.aF).1=0)(hK:D.params.length=K)(hn:n<=b)(Y:b+K+1<=n0)(hH:m1.home=m.home)(A:lA ds m n env x m1 b o)(I:d.sl.length=b+K)(X1:Ext m.s.sl m1.s.sl)(X:Ext (j_ m1 K).s.sl d.sl)(U:p'=0->m1.err=0/\Uv o.ty ⟨4,D.name,0,0,cQ b K⟩ (j_ m1 K).s.sl d.sl)
   (R:Rs ds {j_ m1 K with s:=a7 d m1.home false,err:=p',pos:=px} (b+K+1) env (cQ b K) (az (b+K:Nat)) e.aF m' n0 [o] ks') (X':Ext (a7 d m1.home false).sl m'.s.sl):lA ds m n env e m' n0 ⟨az (b+K:Nat),cQ b K,[],ks'⟩:=by
 refine⟨fun h=>A.er (U (R.er h)).1,fun h Kn N=>?_⟩;obtain⟨S,u⟩:=U (R.er h);have G:e.ch[0]?=some x:=by rw[Ex.ch,c];rfl
 obtain⟨Q,e1,S1,V1⟩:=A.sn S (Kn.same (by omega) (by omega) G (by simp[bX,Z])) (N.at G)
 obtain⟨E,k2,e2,e3,S2,V2⟩:=R.sn h fun a C=>by
  obtain⟨f,h1,h2⟩:=Rr hD M hd a0 a C (cQ b K) (by simp[hK]);obtain⟨j,hj⟩:=zaY C;have L:e.ch[j+1]?=some a.body:=by rw[Ex.ch,c];simp[hj]
  refine⟨f,h1,h2,?_,N.at L⟩;refine(Kn.df (by omega) (by omega) L).imp fun s hs=>?_;have hb:bX e (j+1)=a.vars:=by simp[bX,Z,hj]
  rw[hb]at hs;unfold fZ;rw[za3,zbd,zae];refine hs.imp id fun hs=>?_
  have:(a.vars.zip f).map (En.name ∘ fun p=>(⟨p.1,⟨0,p.2⟩⟩:En))=a.vars:=by
   have:=List.map_fst_zip (l₁:=a.vars) (l₂:=f) (by omega);exact this
  rw[this];exact hs
 have a1:Y' ds m.home env (cQ b K) (az (b+K:Nat)) e.aF (b+K+1) (a7 d m1.home false).sl n0 m'.s.sl k2 E:=by rw[<-hH];exact S2
 have J:∀W:Int->Prop,(∀t∈cQ b K,gY W t)->gY W ⟨4,D.name,0,0,cQ b K⟩:=fun W h=>by
  refine⟨fun w B=>?_,pM (.inr (.inr ⟨rfl,rfl,rfl,by have:=xy D (hD.all D (aM hd));simpa[hK]using this⟩)) fun t ht=>(h t ht).2⟩;cases B with
  |var q=>simp at q
  |arg _ hm B=>exact(h _ hm).1 w B
 refine⟨Q++E,by rw[e3];simp only[j_,e1,zaF],?_,fun hC P=>?_⟩
 .refine rS.of fun W hW hC P=>?_;obtain⟨v,O1,F1,o1,z1,t1,r1,f1⟩:=S1 W hW hC P;have l:=F1.rg hn hW
  have F2:nM b m1.s.sl v (b+K) (j_ m1 K).s.sl (zo v b (b+K)):=nM.open F1.Es F1.cls l m1.home K;have hI:∀t∈cQ b K,gY (zo v b (b+K)) t:=Bu;have F3:nM (b+K) (j_ m1 K).s.sl (zo v b (b+K)) (b+K) d.sl (zo v b (b+K)):=.uv F2.Es I u F2.cls (t1.mono F2.sub) (J _ hI);have O:=F2.rg (by omega) l;have F4:nM (b+K) d.sl (zo v b (b+K)) (b+K+1) (a7 d m1.home false).sl (zo (zo v b (b+K)) (b+K) (b+K+1)):=nM.open I F3.cls O m1.home 1;obtain⟨W5,O5,F5,o5,z5,r5,f5⟩:=a1 _ (F4.rg (by omega) O) F4.cls (fun x hx=>(((P x hx).mono F1.sub).mono F2.sub).mono F4.sub) (fun t ht=>(hI t ht).mono F4.sub) (lP (zal _) (by omega));have F25:=((F2.trans F3 (by omega) (zal _)).trans F4 (by omega) (by omega)).trans F5 (by omega) Y;refine⟨W5,uB W5 O1++O5,F1.trans F25 hn (by omega),(o1.Iw F25 (by omega) l).app (o5.bS (by omega)),by rw[Dv.jf,e2];simp only[zaQ,za2,zaq];exact z1.Iw.app z5,gY.mono F5.sub (lP (zal _) (by omega)),fun t ht=>?_,fun r pr hs B h hh=>?_⟩
  .rw[eP,zae]at ht;rcases ht with ht|ht
   .exact(r1 t ht).mono F25.sub
   .exact r5 t ht
  .have T:=fJ X' hs;have H:=fJ (Ext.fresh d m1.home false) T;have V:=fJ (vp m1.s m1.home K) (fJ X H);obtain⟨l1,p1,S⟩:=f1 r pr V (qB (UL B)) h (hh x (by rw[Ex.ch,c];simp));have eu:=u.snd r H;rw[Zb]at eu;have e0:(o.ev r).ty=o.ty.ev r:=(by rw[Dv.bE]);generalize g:Dv.ev r ⟨az (b+K:Nat),cQ b K,[],ks'⟩=k;have z1:k.inst=(cQ b K).map (Ty.ev r):=(by rw[<-g,Dv.bE]);have z2:k.ty=(az (b+K:Nat)).ev r:=(by rw[<-g,Dv.bE]);have z3:k.gen=[]:=(by rw[<-g,Dv.bE];rfl);have z4:k.kids=o.ev r::k2.map (Dv.ev r):=by rw[<-g,Dv.bE,e2];rfl
   obtain⟨l2,p2,q2⟩:=f5 r pr hs (UM B) h (fun a C=>hh a.body (by rw[Ex.ch,zae];exact .inr (zak.2 ⟨a,C,rfl⟩))) k 1 l1 z1 z2 fun j y hy=>by
    unfold jk;rw[z4,Nat.add_comm,zbx,zbb,hy];rfl
   have hb:¬((e.kind≠6/\e.kind≠7/\k.gen≠[])\/(e.kind≠1/\e.kind≠2/\e.kind≠8/\k.inst≠[])):=by
    rw[z3];simp;omega
   have k0:jk k 0=o.ev r:=(by unfold jk;rw[z4];rfl);have k3:nL e 0=x:=(by rw[nL,c];rfl);refine⟨l1++l2,?_,by rw[za3,S,q2,za3]⟩;rw[aK,zad hb,zad (by omega),zad (by omega),zad (by omega),zad (by omega),zad (by omega),zad (by omega),zai Z,M];simp only;rw[hd];simp only;rw[k0,k3,zai ⟨by rw[z1];simp[hK],by rw[e0,z1];exact eu⟩,p1];simp only;rw[p2]
 .obtain⟨v1,v2,v3⟩:=V1 hC P;have c3:=(u.YD tW (lz v1 m1.home K) (kg v2.t) (J tW fun t ht=>kg (rL t ht))).1;obtain⟨w1,w2,w3⟩:=V2 (lz c3 m1.home 1) P rL (iG _);refine⟨w1,.mk (iG _) rL (by rw[Ex.ch,c,e2];simp[w2.1]) (by simp) fun i y z hy F=>?_,fun t ht=>?_⟩
  .rw[Ex.ch,c]at hy;simp only[e2]at F;cases i with
   |zero=>simp at hy F;subst hy F;exact v2.mono (((vp m1.s m1.home K).trans X).trans ((Ext.fresh _ _ _).trans X'))
   |succ i=>
    simp at hy F;obtain⟨a,C,rfl⟩:=hy;exact w2.2 i a z C F
  .rw[eP,zae]at ht;rcases ht with ht|ht
   .exact v3 t ht
   .exact w3 t ht
mutual
def Dv.nN:Dv->Nat
 |⟨_,_,_,ks⟩=>1+Dv.Rt ks
def Dv.Rt:List Dv->Nat
 |[]=>0
 |d::r=>Dv.nN d+Dv.Rt r
end
def Dv.J0:∀l:List Dv,Dv.Rt l=(l.map Dv.nN).sum
 |[]=>by simp[Dv.Rt]
 |d::r=>by simp[Dv.Rt,Dv.J0 r]
def Dv.lB(d:Dv):d.nN=1+(d.kids.map Dv.nN).sum:=by
 cases d;simp only[Dv.nN,Dv.J0]
inductive Dv.Fi (n:Nat):Dv->Prop
 |mk {d:Dv}:eg n d.ty->(∀t∈d.inst,eg n t)->d.inst.length<=200->d.gen.length<=1000->(∀x∈d.kids,x.Fi n)->d.Fi n
def Dv.Fi.t(h:d.Fi n):eg n d.ty:=by cases h;assumption
def Dv.Fi.i(h:d.Fi n):∀t∈d.inst,eg n t:=by cases h;assumption
def Dv.Fi.il(h:d.Fi n):d.inst.length<=200:=by cases h;assumption
def Dv.Fi.k(h:d.Fi n):∀x∈d.kids,x.Fi n:=by cases h;assumption
def Dv.Fi.bS(hm:n<=N)(h:d.Fi n):d.Fi N:=by
 induction h with
 |mk h1 h2 h3 h4 _ a=>exact .mk (h1.bS hm) (fun t ht=>(h2 t ht).bS hm) h3 h4 a
structure NC(n N:Nat)(d:Dv):Prop where
 f:d.Fi n
 n:d.nN<=N
def NC.t(h:NC n N d):eg n d.ty:=h.f.t
def Ru{l:List Ty}(ht:eg n u)(hl:∀x∈l,eg n x)(h2:l.length<=200)(hN:1<=N):NC n N ⟨u,l,[],[]⟩:=⟨.mk ht hl h2 (by simp) (by simp),by rw[Dv.lB];simpa using hN⟩
def Zc{l:List Ty}(ht:eg n u)(hl:∀x∈l,eg n x)(h2:l.length<=200)(b:g.length<=1000)(a:∀x∈ks,x.Fi n)(hN:(ks.map Dv.nN).sum+1<=N):NC n N ⟨u,l,g,ks⟩:=⟨.mk ht hl h2 b a,by rw[Dv.lB];simp only;omega⟩
def Zd{M:Nat}(ht:eg n u)(hd:NC i0 M d)(hn:i0<=n)(hN:M+1<=N):NC n N ⟨u,[],[],[d]⟩:=Zc ht (by simp) (by simp) (by simp) (by simpa using hd.f.bS hn) (by have:=hd.n;simp;omega)
def Ze{M A:Nat}(ht:eg n u)(i:g.length<=1000)(hd:NC i0 M d)(hn:i0<=n)(a:NC E A y)(b:E<=n)(hN:M+A+1<=N):NC n N ⟨u,[],g,[d,y]⟩:=Zc ht (by simp) (by simp) i (by intro x hx;simp at hx;rcases hx with rfl|rfl;exact hd.f.bS hn;exact a.f.bS b) (by have:=hd.n;have:=a.n;simp;omega)
def lC(ds:List Dt)(H:Prop)(e:Ex):Prop:=∀(m:Mc)(n:Nat)(env:List En),Room ds m n (201*e.sz) e.sz (20*e.sz) env->∃(d:Dv)(a b c k:Bool)(m':Mc)(n':Nat),jc 368 [.pv (.ae (env.map En.pv)),.pv e.pv] m [.agg (mD a b c k d)] m'/\Step H m n (201*e.sz) e.sz m' n'/\NC n' e.sz d/\lA ds m n env e m' n' d
def U9:eg n cA:=⟨bw rfl,.bare rfl (by simp[cA]) (by simp[cA]),by
 intro w h;cases h with
 |var q=>simp[cA]at q
 |arg _ hm _=>simp[cA]at hm,trivial⟩
def jG{env:List En}(R:Room ds m n (201*e.sz) e.sz (20*e.sz) env)(h0:¬m.err=0):∃(d:Dv)(a b c k:Bool)(m':Mc)(n':Nat),jc 368 [.pv (.ae (env.map En.pv)),.pv e.pv] m [.agg (mD a b c k d)] m'/\Step H m n (201*e.sz) e.sz m' n'/\NC n' e.sz d/\lA ds m n env e m' n' d:=by
 refine⟨⟨cA,[],[],[]⟩,true,true,true,true,m,n,?_,(Step.same R.st (.refl _) rfl rfl rfl rfl).bS (by omega) (by omega),Ru U9 (by simp) (by simp) e.lY,Y4 h0⟩;unfold jc;rw[aC g368];simp[g368,Mc.sh,Mc.tk,Mc.cells,h0,mD,ib,cA]
def ZZ(h:e.kids=[x])(h':e.aF=[]):e.sz=1+x.sz:=by rw[Ex.ua,Ex.ch,h,h'];simp
def ch2(h:e.kids=[x,b])(h':e.aF=[]):e.sz=1+x.sz+b.sz:=by rw[Ex.ua,Ex.ch,h,h'];simp;omega
def Rv{c:Sc}(h:ly n c):∃K:Nat,c.id=K/\K<=200/\eg (n+K) (c.ty.d7 (cQ n K)):=by
 obtain⟨K,h1,h2,_⟩:=h.JF;exact⟨K,h1,h2,JO h h1 (by omega) (oE n K) rK⟩
def Rw(g:lX ds)(a:e.kind=1\/e.kind=2):lC ds H e:=by
 intro m n env R;by_cases h0:m.err=0
 .have hs:=e.lY;have o:=R.el;have d:=R.ds;have f:=c181 (l:=env) (by unfold Sm;omega) (s:=e.name);have k2:=g.c193 (s:=e.name);have k:=JP (s:=e.name) R.xC;have j:ly n ((dH ds e.name).getD dV):=nK.toI (sQ g.all);have hN:=R.nb
  have key:∀c:Sc,ly n c->∃K:Nat,c.id=K/\K<=200/\eg (n+K) (c.ty.d7 (cQ n K))/\(aE AP).i 382 [.aL 0 0,.pv c.pv] m.sh m.tk=some ([Ej (c.ty.d7 (cQ n K)),.own ((cQ n K).map Ty.pv) 0],[some ((j_ m K).cx 1)],[K,m.rc.length,m.hd.length]):=by
   intro c h;obtain⟨K,h1,h2,h3⟩:=Rv h;exact⟨K,h1,h2,h3,c382 R.st h1 (by omega) h.ok⟩
  rcases a with a|a
  .obtain⟨K,h1,h2,h3,b⟩:=key _ k;refine⟨⟨((jr env e.name).getD dV).ty.d7 (cQ n K),cQ n K,[],[]⟩,false,false,true,true,j_ m K,n+K,?_,(Step.open R.st K).bS (by omega) (by omega),Ru h3 rK (by simpa using h2) hs,JZ R.st.len h0 (fun K=>.inl ⟨a,abI K a⟩) h1⟩;simp[uU]at f;unfold jc;generalize (jr env e.name).getD dV=c at*;generalize c.ty.d7 (cQ n K)=u at*;generalize cQ n K=I at*;simp[Mc.sh,Mc.tk,Mc.cells,Mc.cx,j_,Ej,h0]at b;rw[aC g368];simp[g368,Mc.sh,Mc.tk,Mc.cells,h0,a,f,b,mD,ib,j_]
  .obtain⟨K,h1,h2,h3,b⟩:=key _ j;refine⟨⟨((dH ds e.name).getD dV).ty.d7 (cQ n K),cQ n K,[],[]⟩,false,false,true,true,j_ m K,n+K,?_,(Step.open R.st K).bS (by omega) (by omega),Ru h3 rK (by simpa using h2) hs,JZ R.st.len h0 (fun K=>.inr ⟨a,Rq K a,IE g (Rq K a)⟩) h1⟩;simp[uU]at f k2;unfold jc;generalize (dH ds e.name).getD dV=c at*;generalize c.ty.d7 (cQ n K)=u at*;generalize cQ n K=I at*;simp[Mc.sh,Mc.tk,Mc.cells,Mc.cx,j_,Ej,h0,d]at b;rw[aC g368];simp[g368,Mc.sh,Mc.tk,Mc.cells,h0,a,d,f,k2,b,mD,ib,j_]
 .exact jG R h0
def U_(a:e.kind=3):lC ds H e:=by
 intro m n env R;by_cases h0:m.err=0
 .refine⟨⟨a8,[],[],[]⟩,false,true,true,true,m,n,?_,(Step.same R.st (.refl _) rfl rfl rfl rfl).bS (by omega) (by omega),Ru vi.fit (by simp) (by simp) e.lY,Y6 R.st.len a⟩;have k:=c34;unfold jc;simp[a8]at k;rw[aC g368];simp[g368,Mc.sh,Mc.tk,Mc.cells,h0,a,k,mD,ib,a8]
 .exact jG R h0
def Rx(b:e.kind=10):lC ds H e:=by
 intro m n env R;by_cases h0:m.err=0
 .have hs:=e.lY;have g:=R.el;have hN:=R.nb;have d:=c367 R.st R.n';have c:=Step.fresh (H:=H) R.st;have R1:=R.step c (A':=0) (R':=1) (E':=1) (by omega) (by omega) (by omega);have k2:=c384 (m:={m with s:=a7 m.s m.home false}) (env:=env) (by unfold Sm;omega) e (az n) (by have:=R1.rc;simp only at*;omega) (by have:=R1.hd;simp only at*;omega);have f:=gM env;have a:l6 (n+1) ⟨m.home,e.pos,aW env,az n⟩:=⟨fun y hy=>(R.xC y (cd env y hy)).bS (by omega),by simp only;omega,d6 (by omega)⟩;refine⟨⟨az n,[],[],[]⟩,false,true,true,true,{m with s:=a7 m.s m.home false,rc:=m.rc++[⟨m.home,e.pos,aW env,az n⟩],hd:=m.hd++[e.kind == 11]},n+1,?_,(c.trans (Step.record c.st a (fun _=>by simp[b]))).bS (by omega) (by omega),Ru (d6 (by omega)) (by simp) (by simp) hs,U1 R.st.len b⟩;unfold jc at*;simp[Mc.sh,Mc.tk,Mc.cells,az,h0,b]at d k2;rw[aC g368];simp[g368,Mc.sh,Mc.tk,Mc.cells,h0,b,d,k2,mD,ib,az]
 .exact jG R h0
theorem U'{a:Ex}(w:e.kind=4)(h1:e.kids=[a])(h2:e.aF=[])(B:lC ds H a):lC ds H e:=by
 intro m n env R;by_cases h0:m.err=0
 .have hs:=ZZ h1 h2;have A:=R.el;have v:=c367 R.st R.n';have p:=Step.fresh (H:=H) R.st;have F:=(R.step p (A':=201*a.sz) (R':=a.sz) (E':=20*a.sz+1) (by omega) (by omega) (by omega)).push (s:=e.name) (c:=⟨0,az n⟩) (d6 (by omega)).mono (zal _);have k2:=c176 (t:=az n);have u:=c179 (l:=env) (by unfold Sm;omega) (n:=e.name) (c:=⟨0,az n⟩);obtain⟨d,f1,f2,f3,y,m2,z,r,o,x,sd⟩:=B _ _ _ F;have q:=c69 (a:=az n) (b:=d.ty);have D:=iH f1 f2 f3 y d;generalize mD f1 f2 f3 y d=C at*;refine⟨⟨⟨4,[45,62],0,0,[az n,d.ty]⟩,[],[],[d]⟩,false,true,true,true,m2,z,?_,(p.trans o).bS (by omega) (by omega),Zd (sT (d6 (by have:=o.le;omega)) x.t) x (zal _) (by omega),Y7 R.st.len w h1 h2 o.le sd⟩;clear sd;have E:=Dv.aG d;have i:=D.len;have f:=D.leaf;have j:=D.eQ;have h:=D.flat;have k:=D.pO;have g:=D.kill;have hf:∀S:Sh,eQ S (.au 11 0)=none:=fun _=>rfl
  unfold jc at*;simp[Mc.sh,Mc.tk,Mc.cells,az,h0]at v k2 u r q;rw[aC g368];simp[g368,Mc.sh,Mc.tk,Mc.cells,h0,w,h1,v,k2,u,r,q,i,f,j,h,k,g,hf,E,mD,ib,az,aU]
 .exact jG R h0
theorem Va{a:Ex}(M:e.kind=5)(h1:e.kids=[a,b])(h2:e.aF=[])(O:lC ds H a)(N:lC ds H b):lC ds H e:=by
 intro m n env R;by_cases h0:m.err=0
 .have hs:=ch2 h1 h2;obtain⟨A,f1,f2,f3,T,m1,Y,L,u,By,r⟩:=O _ _ _ (R.bS (by omega) (by omega) (by omega));have R1:=R.step u (A':=201*b.sz+1) (R':=b.sz) (E':=20*b.sz) (by omega) (by omega) (by omega);obtain⟨z,g1,g2,P,g4,m2,v,k2,p,o,q⟩:=N _ _ _ (R1.bS (by omega) (by omega) (by omega));have R2:=R1.step p (A':=1) (R':=0) (E':=0) (by omega) (by omega) (by omega);have K:=c367 R2.st R2.n';have E:=Step.fresh (H:=H) R2.st;have R3:=R2.step E (A':=0) (R':=0) (E':=0) (by omega) (by omega) (by omega);have Q:eg (v+1) (az v):=d6 (by omega);have J:=c69 (a:=z.ty) (b:=az v);have X:=p.le;obtain⟨s',V,p',I,I',B,U⟩:=c369 (m:={m2 with s:=a7 m2.s m2.home false}) R3.st R3.n' (By.t.bS (by omega)) (sT (o.t.bS (by omega)) Q) e.pos;have D:=iH f1 f2 f3 T A;generalize mD f1 f2 f3 T A=C at*;have D':=iH g1 g2 P g4 z;generalize mD g1 g2 P g4 z=Z at*;refine⟨⟨az v,[],[],[A,z]⟩,false,true,true,true,{m2 with s:=s',err:=V,pos:=p'},v+1,?_,(((u.trans p).trans E).trans (Step.same (m':={m2 with s:=s',err:=V,pos:=p'}) I' B rfl rfl rfl rfl)).bS (by omega) (by omega),Ze Q (by simp) By (by omega) o (by omega) (by omega),Y8 M h1 h2 u.home R2.st.len u.le p.le r q I'.len B p.ext U⟩;have W:=Dv.aG A;have G:=Dv.aG z;have w:=D.len;have h:=D.leaf;have x:=D.eQ;have l:=D.flat;have y:=D.pO;have i:=D.kill;have g:=D'.len;have c:=D'.leaf;have j:=D'.eQ;have f:=D'.flat;have k:=D'.pO;have d:=D'.kill;have hf:∀S:Sh,eQ S (.au 12 0)=none:=fun _=>rfl
  have F:∀S:Sh,eQ S (.au 13 0)=none:=fun _=>rfl;clear D D' u p E R R1 R2 R3 By o I' B O N r q U;unfold jc at*;simp[Mc.sh,Mc.tk,Mc.cells,az,h0]at L k2 K J I;rw[aC g368];simp[g368,Mc.sh,Mc.tk,Mc.cells,h0,M,h1,L,k2,K,J,I,w,h,x,l,y,i,hf,W,g,c,j,f,k,d,F,G,mD,ib,az,aU]
 .exact jG R h0
theorem Vb{a:Ex}(r:e.kind=9)(h1:e.kids=[a])(h2:e.aF=[])(ht:∀n,eg n e.ty)(u:lC ds H a):lC ds H e:=by
 intro m n env R;by_cases h0:m.err=0
 .have hs:=ZZ h1 h2;obtain⟨d,f1,f2,f3,v,m2,l,q,j,o,sd⟩:=u _ _ _ (R.bS (by omega) (by omega) (by omega));have R1:=R.step j (A':=0) (R':=0) (E':=0) (by omega) (by omega) (by omega);obtain⟨s',w,p',p,I',k,U⟩:=c369 (m:=m2) R1.st R1.n' o.t (ht l) e.pos;have D:=iH f1 f2 f3 v d;generalize mD f1 f2 f3 v d=C at*;refine⟨⟨e.ty,[],[],[d]⟩,false,true,true,true,{m2 with s:=s',err:=w,pos:=p'},l,?_,(j.trans (Step.same (m':={m2 with s:=s',err:=w,pos:=p'}) I' k rfl rfl rfl rfl)).bS (by omega) (by omega),Zd (ht l) o (zal _) (by omega),Y9 r h1 h2 j.le sd I'.len k U⟩;have x:=Dv.aG d;have g:=D.len;have b:=D.leaf;have h:=D.eQ;have f:=D.flat;have i:=D.pO;have c:=D.kill;have hf:∀S:Sh,eQ S (.au 21 0)=none:=fun _=>rfl
  clear D j R R1 o I' k u sd U;unfold jc at*;simp[Mc.sh,Mc.tk,Mc.cells,h0]at q p;rw[aC g368];simp[g368,Mc.sh,Mc.tk,Mc.cells,h0,r,h1,q,p,g,b,h,f,i,c,hf,x,mD,ib,aU]
 .exact jG R h0
theorem Ry{a:Ex}(o:e.kind=11)(z:¬H)(h1:e.kids=[a])(h2:e.aF=[])(u:lC ds H a):lC ds H e:=by
 intro m n env R;by_cases h0:m.err=0
 .have hs:=ZZ h1 h2;have x:=R.el;obtain⟨d,f1,f2,f3,v,m2,p,s,h,l,sd⟩:=u _ _ _ (R.bS (by omega) (by omega) (by omega));have R1:=R.step h (A':=0) (R':=1) (E':=0) (by omega) (by omega) (by omega);have r:=c384 (m:=m2) (env:=env) (by unfold Sm;omega) e d.ty (by have:=R1.rc;omega) (by have:=R1.hd;omega);have w:=gM env;have b:l6 p ⟨m2.home,e.pos,aW env,d.ty⟩:=⟨fun y hy=>R1.xC y (cd env y hy),by simp only;omega,l.t⟩;have D:=iH f1 f2 f3 v d;generalize mD f1 f2 f3 v d=C at*;refine⟨⟨d.ty,[],[],[d]⟩,false,true,true,true,{m2 with rc:=m2.rc++[⟨m2.home,e.pos,aW env,d.ty⟩],hd:=m2.hd++[e.kind == 11]},p,?_,(h.trans (Step.record h.st b (fun q=>absurd q z))).bS (by omega) (by omega),Zd l.t l (zal _) (by omega),U2 o h1 h2 h.home sd⟩;have A:=Dv.aG d;have i:=D.len;have c:=D.leaf;have j:=D.eQ;have g:=D.flat;have k:=D.pO;have f:=D.kill;have hf:∀S:Sh,eQ S (.au 22 0)=none:=fun _=>rfl
  clear D h R R1 l u b sd;unfold jc at*;simp[Mc.sh,Mc.tk,Mc.cells,h0,o,h1]at s r;rw[aC g368];simp[g368,Mc.sh,Mc.tk,Mc.cells,h0,o,h1,s,r,i,c,j,g,k,f,hf,A,mD,ib,aU]
 .exact jG R h0
def Step.rcl{a r:Nat}(h:Step H m n a r m' N):m.rc.length<=m'.rc.length:=by
 obtain⟨rs,hs,e1,_⟩:=h.kB;rw[e1];simp
theorem Vc{a:Ex}(K:e.kind=6)(h1:e.kids=[a,b])(h2:e.aF=[])(U:lC ds H a)(T:lC ds H b):lC ds H e:=by
 intro m n env R;by_cases h0:m.err=0
 .have hs:=ch2 h1 h2;have a0:=R.el;have Z:=R.rc;obtain⟨E,f1,f2,f3,W,m1,N,Q,h,By,v⟩:=U _ _ _ (R.bS (by omega) (by omega) (by omega));have R1:=R.step h (A':=201*b.sz) (R':=b.sz) (E':=20*b.sz+1) (by omega) (by omega) (by omega);have J:=h.rcl;obtain⟨c,gen,fl,e',p',k2,sc,y,_,G⟩:=c370 R1.st R1.n' By.t (env:=env) (by omega) R1.xC R1.kB (by have:=R1.rc;omega) (F:=m.rc.length) J e.pos;have I:Step H m1 N 0 0 {m1 with err:=e',pos:=p'} N:=Step.same R1.st (.refl _) rfl rfl rfl rfl;have X:=(R1.step I (A':=201*b.sz) (R':=b.sz) (E':=20*b.sz+1) (by omega) (by omega) (by omega)).push (s:=e.name) sc (zal _);have P:=c179 (l:=env) (by unfold Sm;omega) (n:=e.name) (c:=c);obtain⟨B,g1,g2,V,g4,m2,Y,O,w,r,u⟩:=T _ _ _ X;have D:=iH f1 f2 f3 W E;generalize mD f1 f2 f3 W E=C at*;have D':=iH g1 g2 V g4 B;generalize mD g1 g2 V g4 B=C' at*;refine⟨⟨B.ty,[],gen,[E,B]⟩,false,true,false,true,m2,Y,?_,((h.trans I).trans w).bS (by omega) (by omega),Ze r.t y By (by have:=w.le;omega) r (zal _) (by omega),Ro (.inl K) h1 h2 h.home h.le w.le (U3 K h1 v) h.ext R1.st By.t.wf R1.xC R1.kB G u w.ext⟩;have dc:=Dv.aG E;have M:=Dv.aG B;have x:=D.len;have j:=D.leaf;have z:=D.eQ;have q:=D.flat;have A:=D.pO;have k:=D.kill;have i:=D'.len;have d:=D'.leaf;have o:=D'.eQ;have g:=D'.flat;have p:=D'.pO;have f:=D'.kill;have hf:∀S:Sh,eQ S (.au 17 0)=none:=fun _=>rfl
  have L:∀S:Sh,eQ S (.au 20 0)=none:=fun _=>rfl;clear D D' h I w R R1 X By r sc y U T v u G;unfold jc at*;simp[Mc.sh,Mc.tk,Mc.cells,h0]at Q P O;simp[Mc.sh,Mc.tk,Mc.cells,Ng,Mc.cx,ZY]at k2;rw[aC g368];cases fl<;>simp[ib]at k2<;>simp[g368,Mc.sh,Mc.tk,Mc.cells,h0,K,h1,Q,k2,P,O,x,j,z,q,A,k,hf,dc,i,d,o,g,p,f,L,M,mD,ib,aU]
 .exact jG R h0
theorem Vd{a:Ex}(P:e.kind=7)(h1:e.kids=[a,b])(h2:e.aF=[])(ha:lC ds H a)(hb:lC ds H b):lC ds H e:=by
 intro m n env R;by_cases h0:m.err=0
 .have hs:=ch2 h1 h2;have a1:=R.el;have a0:=R.rc;have k0:=c367 R.st R.n';have s0:=Step.fresh (H:=H) R.st;have R0:=R.step s0 (A':=201*a.sz+201*b.sz) (R':=a.sz+b.sz) (E':=20*a.sz+20*b.sz+1) (by omega) (by omega) (by omega);have X:=c176 (t:=az n);have W:=c179 (l:=env) (by unfold Sm;omega) (n:=e.name) (c:=⟨0,az n⟩);obtain⟨L,f1,f2,f3,f4,m1,K,k1,d,By,w⟩:=ha _ _ _ ((R0.push (s:=e.name) (c:=⟨0,az n⟩) (d6 (by omega)).mono (zal _)).bS (by omega) (by omega) (by omega));have R1:=R0.step d (A':=201*b.sz) (R':=b.sz) (E':=20*b.sz+1) (by omega) (by omega) (by omega);have q1:=d.le;obtain⟨I,T,px,Y,Ix,M,U⟩:=c369 (m:=m1) R1.st R1.n' (d6 (k:=n) (by omega)) By.t e.pos;have J:Step H m1 K 0 0 {m1 with s:=I,err:=T,pos:=px} K:=Step.same Ix M rfl rfl rfl rfl;have RE:=R1.step J (A':=201*b.sz) (R':=b.sz) (E':=20*b.sz+1) (by omega) (by omega) (by omega);have O:=d.rcl;obtain⟨c,gen,fl,e',p',k2,sc,z,_,G⟩:=c370 RE.st RE.n' By.t (env:=env) (by omega) RE.xC RE.kB (by have:=RE.rc;omega) (F:=m.rc.length) O e.pos;have N:Step H {m1 with s:=I,err:=T,pos:=px} K 0 0 {m1 with s:=I,err:=e',pos:=p'} K:=Step.same RE.st (.refl _) rfl rfl rfl rfl;have R2:=(RE.step N (A':=201*b.sz) (R':=b.sz) (E':=20*b.sz+1) (by omega) (by omega) (by omega)).push (s:=e.name) sc (zal _);have k3:=c179 (l:=env) (by unfold Sm;omega) (n:=e.name) (c:=c);obtain⟨E,g1,g2,g3,g4,m2,n2,Z,x,u,v⟩:=hb _ _ _ R2;have D:=iH f1 f2 f3 f4 L;generalize mD f1 f2 f3 f4 L=C at*;have D':=iH g1 g2 g3 g4 E;generalize mD g1 g2 g3 g4 E=C' at*;refine⟨⟨E.ty,[],gen,[L,E]⟩,false,true,false,true,m2,n2,?_,((((s0.trans d).trans J).trans N).trans x).bS (by omega) (by omega),Ze u.t z By (by have:=x.le;omega) u (zal _) (by omega),Ro (m1:={m1 with s:=I,err:=T,pos:=px}) (.inr P) h1 h2 d.home (by have:=d.le;omega) x.le (U4 R.st.len P h1 d.le w Ix.len M U) ((s0.trans d).trans J).ext RE.st By.t.wf RE.xC RE.kB G v x.ext⟩;have dc:=Dv.aG L;have V:=Dv.aG E;have y:=D.len;have j:=D.leaf;have A:=D.eQ;have r:=D.flat;have B:=D.pO;have o:=D.kill;have i:=D'.len;have f:=D'.leaf;have p:=D'.eQ;have h:=D'.flat;have q:=D'.pO;have g:=D'.kill;have hf:∀S:Sh,eQ S (.au 17 0)=none:=fun _=>rfl
  have Q:∀S:Sh,eQ S (.au 20 0)=none:=fun _=>rfl;clear D D' s0 d N x J R R0 R1 R2 RE By u sc z ha hb Ix M w v G U;unfold jc at*;simp[Mc.sh,Mc.tk,Mc.cells,h0,az]at k0 k1 k3 Z Y X W;simp[Mc.sh,Mc.tk,Mc.cells,Ng,Mc.cx,ZY]at k2;rw[aC g368];cases fl<;>simp[ib]at k2<;>simp[g368,Mc.sh,Mc.tk,Mc.cells,h0,P,h1,k0,k1,k2,k3,Z,Y,X,W,y,j,A,r,B,o,hf,dc,i,f,p,h,q,g,Q,V,mD,ib,aU]
 .exact jG R h0
def zD(k:Nat):List AV:=[.pv (vI 0),.pv (.str []),.pv (vI 0),.pv (vI 0),.own [] k,.own [] (k+1),.own [] (k+2),.own [] (k+3)]
def WT{m:Mc}{n:Nat}(I:qF n m.s){d:Dt}(hd:m.ds[i0]?=some d)(hn:n+d.params.length<=1000000)(hp:d.params.length<=8){e:Ex}{env:PV}{x:Dv}:∀(k i:Nat),d.params.length-i=k->i<=d.params.length->
   cl AP g383L0 ⟨[(0,.aL 0 0),(1,.pv env),(5,.au 5 0),(6,.au 6 0),(7,.au 7 0),(8,.pv (vI i0)),(10,.au 10 0),(11,.pv (vI i))],[(5,e.cl),(6,zD 0),(7,x.cells.map .pv),(10,[.pv (vI 0),.pv (.str []),.pv (vI 0),.pv (vI 0),.own [] 4,.own ((cQ n i).map Ty.pv) 5,.own [] 6,.own [x.pv] 7])],[some ((j_ m i).cx 8)],[0,0,0,0,0,i,0,1,m.rc.length,m.hd.length]⟩=
     some (.exit 0,⟨[(0,.aL 0 0),(1,.pv env),(5,.au 5 0),(6,.au 6 0),(7,.au 7 0),(8,.pv (vI i0)),(10,.au 10 0),(11,.pv (vI d.params.length)),(49,.pv (.bool false))],[(5,e.cl),(6,zD 0),(7,x.cells.map .pv),(10,[.pv (vI 0),.pv (.str []),.pv (vI 0),.pv (vI 0),.own [] 4,.own ((cQ n d.params.length).map Ty.pv) 5,.own [] 6,.own [x.pv] 7])],[some ((j_ m d.params.length).cx 8)],[0,0,0,0,0,d.params.length,0,1,m.rc.length,m.hd.length]⟩)
 |0,i,f,hi=>by
  have:i=d.params.length:=by omega
  subst this;have a:=(zaa.1 hd).1;have xc:=Dv.aG x;have c:=Ex.aG e;rw[g383L0e];simp[-getElem?_pos,g383B0,zD,Mc.cx,j_,hd,a,xc,Ex.cl,c]
 |k+1,i,f,hi=>by
  have hi:i<d.params.length:=(by omega);have a:=(zaa.1 hd).1;have xc:=Dv.aG x;have c:=Ex.aG e;have e1:=c367 (m:=j_ m i) (n:=n+i) (xB I m.home i) (by omega);have b:=WT I hd hn hp (e:=e) (env:=env) (x:=x) k (i+1) (by omega) (by omega);have g:(i+1)*64<=140737488355328:=(by omega);have hl:=oE n i;rw[zm]at b;unfold jc at e1;simp[Mc.sh,Mc.tk,Mc.cells,j_,az]at e1;rw[g383L0e]at b⊢;simp[zD,Mc.cx,j_,uz,az,xc,Ex.cl,c]at b;generalize cQ n i=acc at*;generalize a7 (uz m.home m.s i) m.home false=h at*;subst hl;simp(disch:=omega)[-getElem?_pos,g383B0,zD,hi,Mc.cx,j_,hd,a,xc,Ex.cl,c,e1,aq,g];rw[g383L0e];simp[b]
def dD(T:Ty)(I:List Ty)(ks:List Dv):List AV:=[.pv (vI T.kind),.pv (.str T.name),.pv (vI T.id),.pv (vI T.home),.pv (.ae (T.args.map Ty.pv)),.own (I.map Ty.pv) 4,.own [] 5,.own (ks.map Dv.pv) 6]
def sW(a:Ar):List AV:=[.pv (vI a.pos),.pv (.str a.dy),.pv (.ae (a.vars.map .str)),.pv (vI a.body.kind),.pv (vI a.body.pos),.pv (.str a.body.name),.pv (vI a.body.num),.pv (.ae (a.body.kids.map Ex.pv)),.pv (.ae (a.body.aF.map Ar.pv)),.pv (vI a.body.ty.kind),.pv (.str a.body.ty.name),.pv (vI a.body.ty.id),.pv (vI a.body.ty.home),.pv (.ae (a.body.ty.args.map Ty.pv))]
def WU{m:Mc}{n:Nat}{e:Ex}{env:PV}{T:Ty}{I:List Ty}{ks:List Dv}{i:Nat}{a:Ar}(u:a.vars.length<=1000){f:List Ty}(o:f.length<=8)(hf:∀t∈f,eg n t){B:Nat}(y:B<=2000000):∀(k j:Nat),f.length-j=k->j<=f.length->∀l:List En,(∀x∈l,ly n x.sc)->l.length+k<=B->∃(l':List En)(g:Nat),l'=l++((a.vars.drop j).zip (f.drop j)).map (fun p=>⟨p.1,⟨0,p.2⟩⟩)/\(∀x∈l',ly n x.sc)/\l'.length<=B /\
   cl AP g383L2 ⟨[(0,.aL 0 0),(1,.pv env),(5,.au 5 0),(6,.au 6 0),(10,.au 10 0),(12,.pv (vI i)),(13,.au 13 0),(14,.pv (.ae (f.map Ty.pv))),(16,.pv (.ae (l.map En.pv))),(17,.pv (vI j))],[(5,e.cl),(6,zD 0),(10,dD T I ks),(13,sW a)],[some (m.cx 7)],[0,0,0,0,I.length,0,ks.length,m.rc.length,m.hd.length]⟩=
     some (.exit 4,⟨[(0,.aL 0 0),(1,.pv env),(5,.au 5 0),(6,.au 6 0),(10,.au 10 0),(12,.pv (vI i)),(13,.au 13 0),(14,.pv (.ae (f.map Ty.pv))),(16,.pv (.ae (l'.map En.pv))),(17,.pv (vI g)),(114,.pv (.bool false))],[(5,e.cl),(6,zD 0),(10,dD T I ks),(13,sW a)],[some (m.cx 7)],[0,0,0,0,I.length,0,ks.length,m.rc.length,m.hd.length]⟩)
 |0,j,w,hj,l,hl,r=>by
  have:j=f.length:=by omega
  subst this;have d:=Ex.aG e;refine⟨l,f.length,by simp,hl,by omega,?_⟩;rw[g383L2e];simp[g383B2,zD,dD,sW,Mc.cx,Ex.cl,d]
 |k+1,j,w,hj,l,hl,r=>by
  have hj:j<f.length:=(by omega);obtain⟨t,ht⟩:=aR hj;have d:=Ex.aG e;by_cases q:j<a.vars.length
  .obtain⟨v,b⟩:=aR q;have s:=c176 (t:=t);have k2:=c179 (l:=l) (by unfold Sm;omega) (n:=v) (c:=⟨0,t⟩)
   obtain⟨l',g,h0,h1,h2,h⟩:=WU (m:=m) (e:=e) (env:=env) (T:=T) (I:=I) (ks:=ks) (i:=i) u o hf y k (j+1) (by omega) (by omega) (l++[⟨v,⟨0,t⟩⟩]) (by
    intro x hx;simp only[zae,zaU]at hx;rcases hx with hx|rfl
    .exact hl x hx
    .exact(hf t (aM ht)).mono) (by simp;omega)
   refine⟨l',g,by rw[h0,aZ b,aZ ht];simp,h1,h2,?_⟩;clear h0;rw[g383L2e]at h⊢;simp[zD,dD,sW,Mc.cx,Ex.cl,d]at h;simp at s k2;simp(disch:=omega)[-getElem?_pos,g383B2,zD,dD,sW,Mc.cx,Ex.cl,d,hj,ht,q,b,s,k2,aq];rw[g383L2e];simp[h]
  .refine⟨l,j,by rw[za6 (as:=a.vars) (by omega)];simp,hl,by omega,?_⟩;rw[g383L2e];simp(disch:=omega)[-getElem?_pos,g383B2,zD,dD,sW,Mc.cx,Ex.cl,d,hj,ht,q]
def cj(l:List Ar):Nat:=(l.map fun a=>a.body.sz).sum
theorem WV(z:lX ds){e:Ex}{env:List En}{T:Ty}{I:List Ty}(hv:∀a∈e.aF,a.vars.length<=1000)(ha:e.aF.length<=1000)(Z:∀a∈e.aF,lC ds H a.body)(fT:eg n0 T)(a0:I.length<=8)(fI:∀t∈I,eg n0 t):∀(k i:Nat),e.aF.length-i=k->i<=e.aF.length->∀(m:Mc)(n:Nat)(ks:List Dv),n0<=n->ks.length<=i+1->(∀x∈ks,x.Fi n)->Room ds m n (201*cj (e.aF.drop i)) (cj (e.aF.drop i)) (20*cj (e.aF.drop i)+8) env->∃(m':Mc)(n':Nat)(ks':List Dv),Step H m n (201*cj (e.aF.drop i)) (cj (e.aF.drop i)) m' n'/\(∀x∈ks',x.Fi n')/\(ks'.map Dv.nN).sum<=(ks.map Dv.nN).sum+cj (e.aF.drop i)/\Rs ds m n env I T (e.aF.drop i) m' n' ks ks' /\
   cl AP g383L1 ⟨[(0,.aL 0 0),(1,.pv (.ae (env.map En.pv))),(5,.au 5 0),(6,.au 6 0),(10,.au 10 0),(12,.pv (vI i))],[(5,e.cl),(6,zD 0),(10,dD T I ks)],[some (m.cx 7)],[0,0,0,0,I.length,0,ks.length,m.rc.length,m.hd.length]⟩=
     some (.exit 2,⟨[(0,.aL 0 0),(1,.pv (.ae (env.map En.pv))),(5,.au 5 0),(6,.au 6 0),(10,.au 10 0),(12,.pv (vI e.aF.length)),(83,.pv (.bool false))],[(5,e.cl),(6,zD 0),(10,dD T I ks')],[some (m'.cx 7)],[0,0,0,0,I.length,0,ks'.length,m'.rc.length,m'.hd.length]⟩)
 |0,i,hk,hi,m,n,ks,hn,Q,b,R=>by
  have:i=e.aF.length:=by omega
  subst this;have w:=Ex.aG e;refine⟨m,n,ks,(Step.same R.st (.refl _) rfl rfl rfl rfl).bS (by omega) (by omega),b,by omega,by rw[za9];exact Za R.st.len,?_⟩;rw[g383L1e];simp[g383B1,zD,dD,Mc.cx,Ex.cl,w]
 |k+1,i,hk,hi,m,n,ks,hn,Q,b,R=>by
  have hi:i<e.aF.length:=(by omega);obtain⟨a,hx⟩:=aR hi;have hm:=aM hx;have O:cj (e.aF.drop i)=a.body.sz+cj (e.aF.drop (i+1)):=(by rw[aZ hx];simp[cj]);rw[O]at R⊢;have a1:=R.el;have X:=R.ds;have N:=hv a hm;have L:=c207 z.small (as:=I) (by unfold Sm;omega) (s:=a.dy);obtain⟨W,hf⟩:=Iu (n:=n) z (s:=a.dy) (as:=I) (fun t ht=>(fI t ht).bS hn);generalize u:fieldsOf ds a.dy I=F at*;generalize v:F.getD []=f at*;obtain⟨l',j',q0,q1,q2,k2⟩:=WU (m:=m) (n:=n) (e:=e) (env:=.ae (env.map En.pv)) (T:=T) (I:=I) (ks:=ks) (i:=i) (a:=a) N W hf (B:=env.length+8) (by omega) _ 0 rfl (by omega) env R.xC (by omega);have R1:Room ds m n (201*a.body.sz) a.body.sz (20*a.body.sz) l':=⟨R.st,by have:=R.nb;omega,by have:=R.rc;omega,by have:=R.hd;omega,R.kB,q1,by omega,R.ds⟩;obtain⟨d,f1,f2,f3,f4,m1,K,k3,o,A,sd⟩:=Z a hm m n l' R1;have R2:=R.step o (A':=201*cj (e.aF.drop (i+1))) (R':=cj (e.aF.drop (i+1))) (E':=20*cj (e.aF.drop (i+1))+8) (by omega) (by omega) (by omega);have P:=o.le;obtain⟨sx,ex,px,k4,Ix,E,U⟩:=c369 (m:=m1) R2.st R2.n' (fT.bS (by omega)) A.t a.pos;have G:Step H m1 K 0 0 {m1 with s:=sx,err:=ex,pos:=px} K:=Step.same Ix E rfl rfl rfl rfl;have R3:=R2.step G (A':=201*cj (e.aF.drop (i+1))) (R':=cj (e.aF.drop (i+1))) (E':=20*cj (e.aF.drop (i+1))+8) (by omega) (by omega) (by omega)
  obtain⟨m',n',ks',y,g,c,J,M⟩:=WV z (e:=e) hv ha Z fT a0 fI k (i+1) (by omega) (by omega) _ K (ks++[d]) (by omega) (by simp;omega) (by
   intro x hx;simp only[zae,zaU]at hx;rcases hx with hx|rfl
   .exact(b x hx).bS P
   .exact A.f) R3
  have Y:=A.n;have D:=iH f1 f2 f3 f4 d;generalize mD f1 f2 f3 f4 d=C at*
  refine⟨m',n',ks',((o.trans G).trans y).bS (by omega) (by omega),g,by simp at c;omega,by
   rw[aZ hx];refine U7 z o.le y.le o.home ?_ Ix.len E U J y.ext;rw[u,v];have:fZ env a.vars f=l':=by rw[q0];simp[fZ]
   rw[this];exact sd,?_⟩
  clear sd U J q0;clear b g c Y;have dc:=Dv.aG d;have p:=D.len;have h:=D.leaf;have q:=D.eQ;have l:=D.flat;have r:=D.pO;have j:=D.kill;have V:∀S:Sh,eQ S (.au 18 0)=none:=fun _=>rfl
  have w:=Ex.aG e;have bb:(ks.length+1)*136<=140737488355328:=(by omega);clear D o G y R R1 R2 R3 A Z fT fI hf q1 Ix E u;unfold jc at*;rw[g383L2e]at k2;rw[g383L1e]at M⊢;rw[<-X]at L;simp[D5,v]at L;simp[Mc.sh,Mc.tk,Mc.cells]at k3 k4;simp[zD,dD,sW,Mc.cx,Ex.cl,w]at k2;simp[zD,dD,Mc.cx,Ex.cl,w]at M;simp(disch:=omega)[-getElem?_pos,g383B1,zD,dD,Mc.cx,Ex.cl,w,hi,hx,L,g383L2e,k2,k3,k4,p,h,q,l,r,j,V,dc,bb,aq,aU];rw[g383L1e];simp[M]
def J3(h:e.kids=[x]):e.sz=1+x.sz+cj e.aF:=by
 rw[Ex.ua,Ex.ch,h,za3,zcm,zbd]
 change 1+((List.map Ex.sz [x]).sum+cj e.aF)=_
 simp;omega
theorem Rz(N:lX ds)(u:e.kind=8)(b:e.kids=[x]){d:Dt}(q:eS ds e.aF=some i0)(hd:ds[i0]?=some d)(M:(Bb d.cons e.aF).1=0)(hv:∀a∈e.aF,a.vars.length<=1000)(ha:e.aF.length<=1000)(hx:lC ds H x)(hb:∀a∈e.aF,lC ds H a.body):lC ds H e:=by
 intro m n env R;by_cases h0:m.err=0
 .have hs:=J3 b;have hp:=(cM d (N.all d (aM hd))).1;have X:=(sR d (N.all d (aM hd))).1;have E:=(zaa.1 hd).1;obtain⟨O,f1,f2,f3,f4,m1,c,k1,r,By,v⟩:=hx _ _ _ (R.bS (by omega) (by omega) (by omega));have R1:=R.step r (A':=201*cj e.aF+200) (R':=cj e.aF) (E':=20*cj e.aF+8) (by omega) (by omega) (by omega);have g:=R1.ds;have k2:=c390 N.small.num (as:=e.aF) (by unfold Sm;omega);rw[q,<-g]at k2;have A:=WT (m:=m1) (n:=c) R1.st (i0:=i0) (d:=d) (by rw[g];exact hd) (by have:=R1.nb;omega) hp (e:=e) (env:=.ae (env.map En.pv)) (x:=O) _ 0 rfl (by omega);have Q:Step H m1 c d.params.length 0 (j_ m1 d.params.length) (c+d.params.length):=Step.open R1.st _;have RA:=R1.step Q (A':=201*cj e.aF+100) (R':=cj e.aF) (E':=20*cj e.aF+8) (by omega) (by omega) (by omega);have Z:=oE c d.params.length;have h:∀t∈cQ c d.params.length,eg (c+d.params.length) t:=rK;have k3:=c62 (s:=d.name) (l:=cQ c d.params.length) (by unfold Sm;simp;omega);obtain⟨sx,ex,px,k4,Ix,P,U⟩:=c369 (m:=j_ m1 d.params.length) RA.st RA.n' (By.t.bS (by omega)) (UJ X (by unfold Sm;simp;omega) h) e.pos;have W:Step H (j_ m1 d.params.length) (c+d.params.length) 0 0 {j_ m1 d.params.length with s:=sx,err:=ex,pos:=px} (c+d.params.length):=Step.same Ix P rfl rfl rfl rfl;have R2:=RA.step W (A':=201*cj e.aF+100) (R':=cj e.aF) (E':=20*cj e.aF+8) (by omega) (by omega) (by omega);have k5:=c367 R2.st R2.n';have V:=Step.fresh (H:=H) R2.st;have R3:=R2.step V (A':=201*cj e.aF) (R':=cj e.aF) (E':=20*cj e.aF+8) (by omega) (by omega) (by omega);have fT:eg (c+d.params.length+1) (az (c+d.params.length:Nat)):=d6 (by omega);obtain⟨m',n',ks',w,G,k,J,B⟩:=WV N (H:=H) (e:=e) (env:=env) (T:=az (c+d.params.length:Nat)) (I:=cQ c d.params.length) (n0:=c+d.params.length+1) hv ha hb fT (by simp;omega) (fun t ht=>(h t ht).bS (by omega)) _ 0 rfl (by omega) _ _ [O] (zal _) (by simp) (by intro y hy;simp at hy;subst hy;exact By.f.bS (by omega)) (by rw[zar];exact R3);rw[zar]at w k J;have a2:=By.n;have Y:=w.le;have D:=iH f1 f2 f3 f4 O;generalize mD f1 f2 f3 f4 O=C at*;refine⟨⟨az (c+d.params.length:Nat),cQ c d.params.length,[],ks'⟩,false,false,false,false,m',n',?_,((((r.trans Q).trans W).trans V).trans w).bS (by omega) (by omega),Zc (d6 (by omega)) (fun t ht=>(h t ht).bS (by omega)) (by simp;omega) (by simp) G (by simp at k;omega),U8 N u b q hd M rfl r.le Y r.home v Ix.len r.ext P U J w.ext⟩;clear G k a2 v U J M;have dc:=Dv.aG O;have F:=D.len;have j:=D.leaf;have K:=D.eQ;have p:=D.flat;have L:=D.pO;have o:=D.kill;have a1:∀S:Sh,eQ S (.au 7 0)=none:=fun _=>rfl
  have ec:=Ex.aG e;have xc:=Ex.aG x;have a0:cQ c 0=[]:=(by simp[cQ]);have a3:m1.ds[i0]?=some d:=(by rw[g];exact hd);have z:i0<m1.ds.length:=(by rw[g];exact E);rw[a0]at A;clear D r Q W V w R R1 RA R2 R3 By hx hb fT h Ix P g q hd E hv;unfold jc at*;rw[g383L0e]at A;rw[g383L1e]at B;simp[zD,Mc.cx,j_,uz,Ex.cl,ec,dc,u,b]at A;simp[zD,dD,Mc.cx,j_,Ex.cl,ec,az,u,b]at B;simp[ja]at k2;generalize cQ c d.params.length=I at*;simp[Mc.sh,Mc.tk,Mc.cells,j_,az,h0]at k1 k3 k4 k5
  have key:(aE AP).i 383 [.aL 0 0,.pv (.ae (env.map En.pv)),.pv e.pv] m.sh m.tk=some ([.agg (mD false false false false ⟨az (c+d.params.length:Nat),I,[],ks'⟩)],m'.sh,m'.tk):=by
   rw[aC g383];simp(disch:=omega)[-getElem?_pos,g383,Mc.sh,Mc.tk,Mc.cells,h0,u,b,k1,k2,k3,k4,k5,a3,z,g383L0e,A,g383L1e,B,F,j,K,p,L,o,a1,dc,mD,ib,az,aU,Z]
  clear A B;simp[Mc.sh,Mc.tk,Mc.cells,h0,u,b,mD,ib,az]at key;rw[aC g368];simp[g368,Mc.sh,Mc.tk,Mc.cells,h0,u,b,key,mD,ib,az]
 .exact jG R h0
def Ve(p:lX ds)(tx:rR e):e.Ok->Q_ ds e->(H->Qy 11 e)->lC ds H e:=by
 induction tx with
 | @leaf e f h1 h2=>
  intro _ _ _;rcases f with⟨f,_⟩|⟨f,_⟩|⟨f,_⟩
  .exact Rw p f
  .exact U_ f
  .exact Rx f
 | @lam e a f _ h1 h2 _ o=>
  intro ok sc g;have hm:a∈e.ch:=by rw[Ex.ch,h1];simp
  exact U' f h1 h2 (o (ok.c a hm) (sc.c a hm) fun q=>(g q).c a hm)
 | @app e a b f h1 h2 _ _ l k=>
  intro ok sc g;have hm:a∈e.ch:=by rw[Ex.ch,h1];simp
  have j:b∈e.ch:=(by rw[Ex.ch,h1];simp);exact Va f h1 h2 (l (ok.c a hm) (sc.c a hm) fun q=>(g q).c a hm) (k (ok.c b j) (sc.c b j) fun q=>(g q).c b j)
 | @Ip e a b f _ h1 h2 _ _ l k=>
  intro ok sc g;have hm:a∈e.ch:=by rw[Ex.ch,h1];simp
  have j:b∈e.ch:=(by rw[Ex.ch,h1];simp);have A:=l (ok.c a hm) (sc.c a hm) fun q=>(g q).c a hm
  have B:=k (ok.c b j) (sc.c b j) fun q=>(g q).c b j;rcases f with f|f
  .exact Vc f h1 h2 A B
  .exact Vd f h1 h2 A B
 | @xq e a f h1 _ _ _ _ l k=>
  intro ok sc g;have hm:a∈e.ch:=by rw[Ex.ch,h1];simp
  have m:∀x∈e.aF,x.body∈e.ch:=fun x hx=>by rw[Ex.ch,zae,zak];exact .inr ⟨x,hx,rfl⟩
  obtain⟨i,d,u,s,r⟩:=sc.a f;exact Rz p f h1 u s r ok.v ok.a (l (ok.c a hm) (sc.c a hm) fun q=>(g q).c a hm) fun x hx=>k x hx (ok.c _ (m x hx)) (sc.c _ (m x hx)) fun q=>(g q).c _ (m x hx)
 | @YP e a f h1 h2 ht _ _ o=>
  intro ok sc g;have hm:a∈e.ch:=by rw[Ex.ch,h1];simp
  exact Vb f h1 h2 (fun n=>Iv ok.t ht (sc.t f)) (o (ok.c a hm) (sc.c a hm) fun q=>(g q).c a hm)
 | @held e a f h1 h2 _ o=>
  intro ok sc g;have hm:a∈e.ch:=by rw[Ex.ch,h1];simp
  exact Ry f (fun q=>(g q).h f) h1 h2 (o (ok.c a hm) (sc.c a hm) fun q=>(g q).c a hm)
def Zf(n:Nat)(a:Ar):Prop:=(a.pos=0/\xm true a.dy/\a.vars.length<=4/\∀v∈a.vars,xm false v)/\xT n a.body
def RB(hx:xT (4*n) x)(d:as.length<=3)(h0:as≠[])(h:∀a∈as,Zf (4*n) a):xT (4*(n+1)) ⟨8,0,[],0,[x],as,cA⟩:=by
 have b:∀y∈(⟨8,0,[],0,[x],as,cA⟩:Ex).ch,xT (4*n) y:=by
  intro y hy;simp[Ex.ch]at hy;rcases hy with rfl|⟨a,d,rfl⟩
  .exact hx
  .exact(h a d).2
 refine⟨⟨.mk (by simp) (by simp only;omega) (fun a hm=>by have:=(h a hm).1.2.2.1;omega) qy fun y hy=>(b y hy).sc.ok,.mk (fun _=>rfl) fun y hy=>(b y hy).sc.one,.mk qz fun y hy=>(b y hy).sc.cw⟩,Bo (n:=4*n+1) (.mk fun y hy=>(b y hy).h) (by omega),?_,.xq rfl rfl hx.tx (by simp only;omega) (fun a hm=>⟨(h a hm).1.2.1.1,by have:=(h a hm).1.2.2.1;omega,fun v c=>((h a hm).1.2.2.2 v c).1⟩) (fun a hm=>(h a hm).2.tx),?_,.mk Ir fun y hy=>(b y hy).ad⟩
 case refine_2=>
  have h1:(⟨8,0,[],0,[x],as,cA⟩:Ex).ch.all Ex.xr=true:=zas.2 fun y hy=>(b y hy).vl
  have h2:as.all WJ=true:=zas.2 fun a hm=>by
   obtain⟨⟨k,j,l,i⟩,_⟩:=h a hm;have g:Ux a.dy=true:=j.2;have f:a.vars.all Iq=true:=zas.2 fun v c=>(i v c).2
   have e:¬4<a.vars.length:=(by omega);unfold WJ;simp only[k,g,f];simp[e]
  have h3:0<as.length:=za5.2 h0;rw[xt,h1];simp only[h2];simp[zj,de,Ex.Bn,h3]
 rw[QS,Ex.ua];exact Eg (by rw[Ex.i_];simp only[zbm];omega) fun y hy=>by have:=(b y hy).w;rwa [QS]at this
def Zg:∀d∈br,0<d.cons.length:=by decide +kernel
def WW{L:List Int}(hT:Tape L tm TP){l:List En}{g:Ty}(o:dep<3)(y:lX ds)(W:lZ L tm TP ds dep)(hl:Ctx (1000-20*(dep+1)) (HH (dep+1)) l)(T:bG g)(p:g.nodes.length<=6000-20*(dep+1)/\g.pd z0<=HH (dep+1)){d:Dt}(q:d∈ds){as:List Ty}(Q:as.length<=8)(A:∀a∈as,bG a)(m:∀a∈as,a.pd z0<=1){x:Ex}:∀(n k:Nat),d.cons.length-k=n->k<=d.cons.length->∀(ar:List Ar)(i:Nat),ar.length=k->(∀a∈ar,Zf (4*(dep+1)) a)->i<=L.length->
   ∃(r:List Ar)(j:Nat),r.length=d.cons.length/\(∀a∈r,Zf (4*(dep+1)) a)/\j<=L.length /\
   cl AP g350L1 ⟨[(0,.aL tm 0),(1,.pv (.ae (ds.map Dt.pv))),(2,.pv (.ae (l.map En.pv))),(4,.pv (vI (dep+1))),(8,.au 8 0),(10,.au 10 0),(11,.au 11 0),(12,.own (as.map Ty.pv) 0),(14,.au 14 0),(15,.pv (vI k))],
     [(8,tC g),(10,rq 1),(11,Io d),(14,Ss x ar)],TP i,[as.length,0,0,0,1,ar.length,0]⟩=
     some (.exit 2,⟨[(0,.aL tm 0),(1,.pv (.ae (ds.map Dt.pv))),(2,.pv (.ae (l.map En.pv))),(4,.pv (vI (dep+1))),(8,.au 8 0),(10,.au 10 0),(11,.au 11 0),(12,.own (as.map Ty.pv) 0),(14,.au 14 0),(15,.pv (vI d.cons.length)),(66,.pv (.bool false))],
     [(8,tC g),(10,rq 1),(11,Io d),(14,Ss x r)],TP j,[as.length,0,0,0,1,r.length,0]⟩)
 |0,k,hn,E,ar,i,V,hm,hi=>by
  have v:=hT.norm;have e:=hT.shift;have w:=hT.take;have:k=d.cons.length:=(by omega);subst this;refine⟨ar,i,V,hm,hi,?_⟩;rw[g350L1e];simp[v,e,w,g350B1,tC,rq,Io,Ss]
 |n+1,k,hn,E,ar,i,V,hm,hi=>by
  have v:=hT.norm;have e:=hT.shift;have w:=hT.take;have E:k<d.cons.length:=(by omega);obtain⟨c,U⟩:=aR E;have a5:=(cM d (y.all d q)).2.1;have S:=c207 y.small (as:=as) (by unfold Sm;omega) (s:=c.name);obtain⟨a4,hf⟩:=Ei y (s:=c.name) A;have K:=Nb y (s:=c.name) m;have a0:=kA o;have a1:=UC (dep+1);have z:=p;obtain⟨p,a2⟩:=p;generalize a3:fieldsOf ds c.name as=F at*;generalize M:F.getD []=f at*;obtain⟨vs,l',hv,G,H,e1⟩:=WN hT (L:=L) (I:=i) (p1:=.ae (ds.map Dt.pv)) (p2:=.ae (l.map En.pv)) (p4:=vI (dep+1)) (g:=g) (d:=d) (as:=as) (x:=x) (ar:=ar) (C:=k) (c:=c) (by omega) hf (D:=HH dep) (fun t ht=>by have:=K t ht;omega) (N:=1000-20*(dep+1)) (by omega) _ 0 rfl (by omega) [] l rfl (by simp) (hl.bS (by omega) (by omega));obtain⟨b,f1,f2,f3,j2,e2,hb,J⟩:=W i l' g hi (H.bS (by omega) (zal _)) T ⟨by omega,by omega⟩
  obtain⟨r,j,q1,Z,Y,R⟩:=WW hT o y W hl T z q Q A m (x:=x) n (k+1) (by omega) (by omega) (ar++[⟨0,c.name,vs,b⟩]) j2 (by simp;omega) (by
   intro a h;simp at h;rcases h with h|rfl
   .exact hm a h
   .exact⟨⟨rfl,(Bm d (y.all d q) c (aM U)).2.2,by simp only;omega,G⟩,hb⟩) J
  refine⟨r,j,q1,Z,Y,?_⟩;have u:=lp f1 f2 f3 b;generalize j8 f1 f2 f3 b=B at e2 u;have bc:=Ex.aG b;have X:B.take 11=B:=zaz (by rw[u.len];omega);have P:(ar.length+1)*200<=140737488355328:=by omega
  have O:(dep:Int)+1-1=dep:=(by omega);rw[g350L2e]at e1;rw[g350L1e]at R;simp[v,e,w,tC,rq,Io,Ss,ZX]at e1 R e2⊢;simp[v,e,w,D5,M]at S;rw[g350L1e];simp(disch:=omega)[v,e,w,-getElem?_pos,g350B1,U,E,S,aq,O,g350L2e,e1,e2,P,aU,u.eQ,u.flat,u.pO,u.len,u.leaf,X,bc];rw[g350L1e];simp[v,e,w,R]
def c350(hT:Tape L tm TP){l:List En}{g:Ty}{i:Nat}(H:Sm L)(o:dep<3)(c:lX ds)(M:lZ L tm TP ds dep)(hl:Ctx (1000-20*(dep+1)) (HH (dep+1)) l)(J:bG g)(E:g.nodes.length<=6000-20*(dep+1)/\g.pd z0<=HH (dep+1))(hi:i<=L.length):
   pb L tm TP (4*(dep+2)) ((aE AP).i 350 [.aL tm 0,.pv (.ae (ds.map Dt.pv)),.pv (.ae (l.map En.pv)),.pv g.pv,.pv (vI (dep+1:Nat))] (TP i) []):=by
 have v:=hT.norm;have h:=hT.shift;have w:=hT.take;have R:=hl.len;by_cases z:ds=[]
 .subst z;obtain⟨e,f1,f2,f3,j,k,ht,hj⟩:=c348 hT H (ds:=[]) (hl.bS (by omega) (zal _)) J hi;refine⟨e,f1,f2,f3,j,?_,ht.up (by omega),hj⟩;rw[aC g350];cases f1<;>cases f2<;>cases f3<;>simp[v,h,w,j8,ib]at k<;>simp[v,h,w,g350,k,j8,ib,aU]
 .have hp:0<ds.length:=za5.2 z;have U:=c.len;have p:∀d∈ds,d.params.length<=8:=fun d hd=>(cM d (c.all d hd)).1
  obtain⟨m,Q,e1,m0,m1,D⟩:=BO hT H hi (n:=ds.length) (by omega) (by omega);obtain⟨m,rfl,hm⟩:=yl m0 m1;obtain⟨d,hd⟩:=aR hm;have b:=aM hd;obtain⟨as,P,a1,t,C,e2⟩:=WM hT H (by omega) p (fun d hd=>xy d (c.all d hd)) (fun d hd=>(sR d (c.all d hd)).1) (p2:=.ae (l.map En.pv)) (p4:=vI (dep+1)) (g:=g) (p d b) _ 0 rfl (by omega) [] Q rfl (by simp) D;have V:=p d b;have K:=(cM d (c.all d b)).2.1;have W:=YO d (c.all d b);have I:=c62 (s:=d.name) (l:=as) (by unfold Sm;omega);have Z:bG ⟨4,d.name,0,0,as⟩:=⟨⟨by unfold Sm;simp only;omega,fun x hx=>(t x hx).1.ok⟩,.mk (by simp) (sR d (c.all d b)).1 fun x hx=>(t x hx).1.kn,Ed (.inr (.inr (.inr (.inr ⟨rfl,rfl,rfl,by simp only[a1];exact xy d (c.all d b)⟩)))) fun x hx=>(t x hx).1.vn⟩
  have Y:(⟨4,d.name,0,0,as⟩:Ty).nodes.length<=100:=by
   rw[Ty.aI];simp only[zay,za7];have:=gS (f:=fun x:Ty=>x.nodes.length) fun x hx=>(t x hx).2.1
   omega
  have X:(⟨4,d.name,0,0,as⟩:Ty).pd z0<=2:=by
   rw[Ty.gR,zad (by simp)];exact lV fun x hx=>by have:=(t x hx).2.2;omega
  have S:=kA o;have T:=UC (dep+1);obtain⟨x,f1,f2,f3,O,e3,hx,B⟩:=M P l _ C (hl.bS (by omega) (by omega)) Z ⟨by omega,by omega⟩;obtain⟨r,N,b1,b2,y,e4⟩:=WW hT o c M hl J E b (by omega) (fun a G=>(t a G).1) (fun a G=>(t a G).2.2) (x:=x) _ 0 rfl (by omega) [] O rfl (by simp) B;refine⟨⟨8,0,[],0,[x],r,cA⟩,false,false,false,N,?_,(RB hx (by omega) (by intro q;rw[q]at b1;have:=Zg d (c.all d b);simp at b1;omega) b2).up (by omega),y⟩;have u:=lp f1 f2 f3 x;generalize j8 f1 f2 f3 x=A at e3 u;have ac:=Ex.aG x;have F:(dep:Int)+1-1=dep:=(by omega);rw[g350L0e]at e2;rw[g350L1e]at e4;simp[v,h,w,tC,rq,Io,Ss]at e1 e2 e3 e4 I;rw[aC g350];simp(disch:=omega)[v,h,w,-getElem?_pos,g350,z,F,aq,e1,hd,g350L0e,e2,I,e3,u.eQ,u.flat,u.pO,u.len,u.leaf,ac,g350L1e,e4,aU,j8,ib,cA]
theorem c326(hT:Tape L tm TP)(u:Sm L)(A:lX ds):∀dep:Nat,dep<=3->lZ L tm TP ds dep
 |0,_=>fun i l g hi hl r _=>QW hT u (hl.bS (by omega) (zal _)) r hi
 |dep+1,O=>fun i l g hi hl r h=>by
  have m:=hT.norm;have c:=hT.shift;have o:=hT.take;have z:=c326 hT u A dep (by omega);have S:=A.len;have G:∀d∈ds,d.params.length<=8:=fun d hd=>(cM d (A.all d hd)).1
  have F:∀d∈ds,d.name.length<=100:=fun d hd=>(sR d (A.all d hd)).1;have E:∀d∈ds,i7 d.name d.params.length=true:=fun d hd=>xy d (A.all d hd)
  obtain⟨r9,j9,e9,r0,r1,D⟩:=BO hT u hi (n:=9) (by omega) (by omega);by_cases nz:r9=0
  .subst nz;exact UD hT u (by omega) (hl.bS (by omega) (zal _)) r D e9
  .obtain⟨a,b,ar,arr,_,_,M⟩:=c194g r.ok;obtain⟨k,j,xA,W,V,hj⟩:=BO hT u D (n:=10) (by omega) (by omega);have P:QX L tm TP g i a b ar k r9 j9 j:=⟨nz,e9,arr,xA,hj⟩;have h1:¬((dep:Int)+1<1):=by omega
   have s:(ar=true->7<=k)->(ar=false->¬k<2/\k≠2/\k≠3/\k≠5/\(k=4->¬(g.gC 3=false/\g.gC 1=false)))->xz L tm TP ds (dep+1) l g i:=by
    intro U T;obtain⟨e,f1,f2,f3,C,p,ht,v⟩:=c352 hT u (by omega) A z hl r h.2 hj;refine⟨e,f1,f2,f3,C,?_,ht,v⟩;have c3:=c351 (k:=3) r.ok;have c1:=c351 (k:=1) r.ok
    try simp[m,c,o]at e9 arr xA c3 c1
    rw[aC g326];cases ar with
    |true=>
     have q:=U rfl;have Q:¬k<7:=(by omega);have B:¬k<2:=(by omega);have K:¬k=2:=(by omega);have J:¬k=3:=(by omega);have I:¬k=4:=(by omega);have H:¬k=5:=(by omega);cases f1<;>cases f2<;>cases f3<;>simp[m,c,o,j8,ib]at p<;>simp[m,c,o,g326,h1,nz,e9,arr,xA,Q,B,K,J,I,H,p,j8,ib,aU]
    |false=>
     obtain⟨B,K,J,H,I⟩:=T rfl;by_cases h4:k=4
     .have:=I h4;subst h4;cases N:g.gC 3 with
      |true=>
       rw[N]at c3;cases f1<;>cases f2<;>cases f3<;>simp[m,c,o,j8,ib]at p<;>simp[m,c,o,g326,h1,nz,e9,arr,xA,c3,p,j8,ib,aU]
      |false=>
       rw[N]at c3
       have g1:g.gC 1=true:=by
        cases g1:g.gC 1 with
        |true=>rfl
        |false=>exact absurd ⟨N,g1⟩ this
       rw[g1]at c1;cases f1<;>cases f2<;>cases f3<;>simp[m,c,o,j8,ib]at p<;>simp[m,c,o,g326,h1,nz,e9,arr,xA,c3,c1,p,j8,ib,aU]
     .cases f1<;>cases f2<;>cases f3<;>simp[m,c,o,j8,ib]at p<;>simp[m,c,o,g326,h1,nz,e9,arr,xA,B,K,J,h4,H,p,j8,ib,aU]
   cases ar with
   |true=>
    have y:=M rfl;by_cases h7:k<7
    .exact YR hT u (by omega) z hl P h7 (r.df a (by rw[y];simp)) (r.df b (by rw[y];simp)) (by
      have:=lq (f:=fun x:Ty=>x.nodes.length) (l:=g.args) (x:=b) (by rw[y];simp);have h:=h.1;rw[Ty.aI]at h;simp only[zay,za7]at h;omega) (by
      have h1:=oA (ht:=z0) (t:=g) (x:=a) (by rw[y];simp) (by rw[y];simp);have:=h.2;omega) (by
      have h1:=oA (ht:=z0) (t:=g) (x:=b) (by rw[y];simp) (by rw[y];simp);have:=h.2;omega)
    .exact s (fun _=>by omega) (by simp)
   |false=>
    by_cases h2:k<2
    .exact YS hT u (by omega) (by omega) G E F z hl r h P h2
    .by_cases h3:k=2
     .subst h3;obtain⟨e,f1,f2,f3,C,p,ht,v⟩:=c349 hT u (by omega) (by omega) G E F z hl r h hj;refine⟨e,f1,f2,f3,C,?_,ht,v⟩
      try simp[m,c,o]at e9 arr xA
      rw[aC g326];cases f1<;>cases f2<;>cases f3<;>simp[m,c,o,j8,ib]at p<;>simp[m,c,o,g326,h1,nz,e9,arr,xA,p,j8,ib,aU]
     .by_cases h4:k=3
      .subst h4;obtain⟨e,f1,f2,f3,C,p,ht,v⟩:=c350 hT u (by omega) A z hl r h hj;refine⟨e,f1,f2,f3,C,?_,ht,v⟩
       try simp[m,c,o]at e9 arr xA
       rw[aC g326];cases f1<;>cases f2<;>cases f3<;>simp[m,c,o,j8,ib]at p<;>simp[m,c,o,g326,h1,nz,e9,arr,xA,p,j8,ib,aU]
      .by_cases h5:k=5
       .subst h5;exact UE hT u (by omega) z hl r h P
       .by_cases h6:k=4/\g.gC 3=false/\g.gC 1=false
        .obtain⟨rfl,R,B⟩:=h6;exact YT hT u (by omega) z hl r h P R B
        .exact s (by simp) (fun _=>⟨h2,h3,h4,h5,fun q=>fun w=>h6 ⟨q,w⟩⟩)
def Nn{f:Ty->Ty}{l:List Ty}(h:∀x∈l,(f x).nodes.length<=x.nodes.length):((l.map f).flatMap Ty.nodes).length<=(l.flatMap Ty.nodes).length:=by
 induction l with
 |nil=>simp
 |cons a r b=>
  have h1:=h a (by simp);have h2:=b fun x hx=>h x (by simp[hx])
  simp only[zan,zaq,zat];omega
def Vf{l:List bF}(t:Ty):(t.iV l).nodes.length<=t.nodes.length:=by
 refine Ty.cb (p:=fun t=>(t.iV l).nodes.length<=t.nodes.length) ?_ t;intro t a;rw[Ty.xg];split
 .rw[Ty.aI,Ty.aI t];simp[bm]
 .rw[Ty.aI,Ty.aI t];have:=Nn (f:=Ty.iV l) a;simp only[zay];omega
def c329(I:qF n m.s)(hn:n<=1000000)(ht:u.Ok):∃b:Bool,jc 329 [.pv u.pv] m [.pv (.bool b)] m/\(b=false->∃r:Nat,r<=200/\Tr m.s.sl u r):=by
 obtain⟨r,a,_,_,c⟩:=c355 (by unfold Sm;rw[I.len];omega) I.ok (m:=200) (by omega) ht;refine⟨decide ((200:Int)<r),?_,fun h=>⟨r,by simp at h;omega,c (by simp at h;omega)⟩⟩;unfold jc;simp at a;rw[aC g329];simp[g329,Mc.sh,Mc.tk,Mc.cells,a]
def abJ(I:qF n m.s)(hn:n<=1000000){l:List Ty}(hl:l.length<=2000000)(a:∀t∈l,t.Ok):∀(k i:Nat),l.length-i=k->i<=l.length->
   (∃(T:aH)(j:Nat),cl AP g331L0 ⟨[(0,.aL 0 0),(5,.pv (.ae (l.map Ty.pv))),(6,.pv (vI i))],[],[some (m.cx 0)],[m.rc.length,m.hd.length]⟩=some (.ret,⟨[(4,.pv (.bool true))],[],[some (m.cx j)],T⟩)/\T[j]?=some m.rc.length/\T[j+1]?=some m.hd.length)\/
   cl AP g331L0 ⟨[(0,.aL 0 0),(5,.pv (.ae (l.map Ty.pv))),(6,.pv (vI i))],[],[some (m.cx 0)],[m.rc.length,m.hd.length]⟩=some (.exit 0,⟨[(0,.aL 0 0),(5,.pv (.ae (l.map Ty.pv))),(6,.pv (vI l.length)),(13,.pv (.bool false))],[],[some (m.cx 0)],[m.rc.length,m.hd.length]⟩)/\∀t∈l.drop i,∃r:Nat,r<=200/\Tr m.s.sl t r
 |0,i,d,hi=>by
  have:i=l.length:=by omega
  subst this;refine .inr ⟨?_,by simp⟩;rw[g331L0e];simp[g331B0,Mc.cx]
 |k+1,i,d,hi=>by
  have hi:i<l.length:=(by omega);obtain⟨t,ht⟩:=aR hi;obtain⟨b,e,f⟩:=c329 I hn (a t (aM ht));unfold jc at e;simp[Mc.sh,Mc.tk,Mc.cells]at e;cases b with
  |true=>
   refine .inl ?_;rw[g331L0e];simp(disch:=omega)[-getElem?_pos,g331B0,Mc.cx,hi,ht,e];exact⟨_,_,⟨⟨rfl,rfl⟩,rfl⟩,rfl,rfl⟩
  |false=>
   have c:=abJ I hn hl a k (i+1) (by omega) (by omega)
   have e1:cl AP g331L0 ⟨[(0,.aL 0 0),(5,.pv (.ae (l.map Ty.pv))),(6,.pv (vI i))],[],[some (m.cx 0)],[m.rc.length,m.hd.length]⟩=cl AP g331L0 ⟨[(0,.aL 0 0),(5,.pv (.ae (l.map Ty.pv))),(6,.pv (vI (i+1:Nat)))],[],[some (m.cx 0)],[m.rc.length,m.hd.length]⟩:=by
    conv=>lhs;rw[g331L0e]
    simp (disch:=omega) [-getElem?_pos,g331B0,Mc.cx,hi,ht,e,aq];conv=>lhs;rw[g331L0e]
    conv=>rhs;rw[g331L0e]
    simp
   rw[e1];refine c.imp_right fun h=>⟨h.1,?_⟩;rw[aZ ht];intro y hy;simp only[zah]at hy;rcases hy with rfl|hy
   .exact f rfl
   .exact h.2 y hy
def c331(I:qF n m.s)(hn:n<=1000000)(hr:l6 n h):∃b:Bool,jc 331 [.pv h.pv] m [.pv (.bool b)] m/\(b=false->∀u∈aP [h],∃r:Nat,r<=200/\Tr m.s.sl u r):=by
 have k:=c356 (l:=[h]) (by simp) (by simpa using(show UF h from hr.len));have hl:=lu (l:=[h]) (by simpa using(show UF h from hr.len));have c:=l6.kf (l:=[h]) (by simpa using hr);have L:=abJ I hn (l:=aP [h]) (by simp at hl;omega) (fun t ht=>(c t ht).1) _ 0 rfl (by omega);rw[zar]at L;generalize aP [h]=R at*;unfold jc;rw[g331L0e]at L;simp[Mc.cx]at L k;rcases L with⟨T,j,L,t1,a⟩|⟨L,hT⟩
 .refine⟨true,?_,by simp⟩;rw[aC g331];simp[g331,Mc.sh,Mc.tk,Mc.cells,k,g331L0e,L,t1,a]
 .refine⟨false,?_,fun _=>hT⟩;rw[aC g331];simp[g331,Mc.sh,Mc.tk,Mc.cells,k,g331L0e,L]
def abK{m:Mc}(d:v.length<=1000000):∀(k i:Nat),v.length-i=k->i<=v.length->∀acc:List As,acc.length=i->
   cl AP g357L0 ⟨[(5,.pv (.ae (v.map vI))),(6,.own (acc.map As.pv) 0),(7,.pv (vI i))],[],[some (m.cx 1)],[acc.length,m.rc.length,m.hd.length]⟩=
     some (.exit 0,⟨[(5,.pv (.ae (v.map vI))),(6,.own ((acc++bh i (v.drop i)).map As.pv) 0),(7,.pv (vI v.length)),(17,.pv (.bool false))],[],[some (m.cx 1)],[v.length,m.rc.length,m.hd.length]⟩)
 |0,i,e,hi,acc,c=>by
  have:i=v.length:=by omega
  subst this;rw[za9];rw[g357L0e];simp[g357B0,Mc.cx,bh,c]
 |k+1,i,e,hi,acc,c=>by
  have hi:i<v.length:=(by omega);obtain⟨x,hx⟩:=aR hi;have a:=abK (m:=m) d k (i+1) (by omega) (by omega) (acc++[⟨x,az i⟩]) (by simp;omega);have b:=c63 (n:=i);have f:(acc.length+1)*72<=140737488355328:=(by omega);rw[aZ hx];rw[g357L0e]at a⊢;simp[Mc.cx,az]at a b;simp(disch:=omega)[-getElem?_pos,g357B0,Mc.cx,hi,hx,b,aq,bh,f,az];rw[g357L0e];simp[a]
def c357{l:List Ty}(a:v.length<=1000000)(k:(aE AP).p 372 [m.s.pv,.ae (l.map Ty.pv)]=some [.ae (v.map vI)]):(aE AP).i 357 [.aL 0 0,.pv (.ae (l.map Ty.pv))] m.sh m.tk=some ([.own ((bh 0 v).map As.pv) 0],[some (m.cx 1)],[v.length,m.rc.length,m.hd.length]):=by
 have h:=abK (m:=m) a _ 0 rfl (by omega) [] rfl;rw[zar,zaQ]at h;have hl:=dF (i:=0) (l:=v);generalize bh 0 v=L at*;rw[g357L0e]at h;simp[Mc.cx]at h k;rw[aC g357];simp[g357,Mc.sh,Mc.tk,Mc.cells,Mc.cx,k,g357L0e,h,hl]
structure J4(s:cK)(t u:Ty):Prop where
 e:(aE AP).p 358 [s.pv,t.pv]=some [u.pv,.bool true]
 ok:u.Ok
 n:u.nodes.length<=200
 r:A7 s.sl t u
noncomputable def Ey(s:cK)(t:Ty):Ty:=open Classical in if h:∃u,J4 s t u then h.choose else cA
def Bz{s:cK}(hs:Sm s.sl)(a:∀x∈s.sl,x.ty.Ok)(ht:T.Ok)(h:∃r:Nat,r<=200/\Tr s.sl T r):J4 s T (Ey s T):=by
 obtain⟨r,hr,hT⟩:=h;obtain⟨u,e,h1,h2,h3⟩:=c358y hs a ht hT (by omega);have hx:∃u,J4 s T u:=⟨u,e,h1,by omega,h3⟩;unfold Ey;rw[dif_pos hx];exact hx.choose_spec
variable{s:List Sl}
def WX(hs:∀x∈s,x.ty.Kw)(hK:∀k,KS k->W k):∀{m:Nat}{t:Ty},t.Kn W->(wk s m t).Kn W
 |0,t,h=>h
 |m+1,t,h=>by
  unfold wk;split
  .rename_i x hx;obtain⟨_,i,_,hi,_⟩:=cq hx;exact WX hs hK ((hs x (aM hi)).imp hK)
  .exact h
def A7.kn(hs:∀x∈s,x.ty.Kw)(hK:∀k,KS k->W k)(h:A7 s T u):T.Kn W->u.Kn W:=by
 induction h with
 | @mk T u h1 h2 h3 h4 h5 _ d=>
  intro e;have w:(dY s T).Kn W:=WX hs hK e;refine .mk (fun q=>?_) (by rw[h2];exact w.nm) fun x hx=>?_
  .rw[h1]at q;obtain⟨a,b⟩:=w.hd q;exact⟨by rw[h1];exact a,zba.1 (by rw[h5,b];rfl)⟩
  .obtain⟨i,hi⟩:=zaY hx;have hl:=(zaa.1 hi).1;obtain⟨b,c⟩:=aR (l:=(dY s T).args) (i:=i) (by omega);exact d i b x c hi (w.kd b (aM c))
structure acA(t:Ty):Prop where
 ok:t.Ok
 kn:t.Kn KV
 n:t.nodes.length<=200
noncomputable def mJ(m:Mc)(v:List Int)(t:Ty):Ty:=(Ey m.s t).sub (bh 0 v)
def nr(h:cR (bh n v) w=some u):∃j:Nat,u=az (n+j:Nat)/\v[j]?=some w:=by
 induction v generalizing n with
 |nil=>simp[bh,cR]at h
 |cons a r b=>
  simp only[bh,cR]at h;split at h
  .rename_i e;cases h;exact⟨0,by simp,by simp[e]⟩
  .obtain⟨j,e1,e2⟩:=b h;exact⟨j+1,by rw[e1];congr 1;omega,by simpa using e2⟩
def BA{i:Nat}(h:w∈v):∃x,cR (bh i v) w=some x:=by
 induction v generalizing i with
 |nil=>cases h
 |cons a r b=>
  simp only[bh,cR];split
  .exact⟨_,rfl⟩
  .rename_i e;simp only[zah]at h;rcases h with h|h
   .exact absurd h.symm e
   .exact b h
def RC(hs:∀x∈m.s.sl,x.ty.Kw)(b:u.Kn KV)(h:J4 m.s u (Ey m.s u)):acA (mJ m v u) where
 ok:=qk (by intro a c;exact Bl a c) h.ok
 kn:=by
  refine oz (K:=KV) (h.r.kn hs pL b) (fun k q _=>q) ?_ (.inl (by simp));intro i x hx;obtain⟨j,e,_⟩:=nr hx;rw[e];exact .bare rfl (by simp[az]) (by simp[az])
 n:=zaI (vk (fun i x hx=>by obtain⟨j,e,_⟩:=nr hx;rw[e,Ty.aI];simp[az]) _) h.n
def c333(b:v.length<=1000000)(h:J4 m.s T (Ey m.s T)):jc 333 [.pv T.pv,.pv (.ae ((bh 0 v).map As.pv))] m [Ej (mJ m v T)] m:=by
 have a:=h.e;have k2:=c46 (s:=bh 0 v) (by unfold Sm;rw[dF];omega) h.ok;unfold jc mJ;generalize bh 0 v=L at*;generalize Ey m.s T=u at*;generalize u.sub L=w at*;simp at a k2;rw[aC g333];simp[g333,Mc.sh,Mc.tk,Mc.cells,a,k2,Ej]
noncomputable def No(m:Mc)(v:List Int)(x:En):En:=⟨x.name,⟨x.sc.id,mJ m v x.sc.ty⟩⟩
noncomputable def IF(m:Mc)(v:List Int)(h:Ho):Ho:=⟨h.bind,h.pos,h.ctx.map (No m v),mJ m v h.goal⟩
def Vg(h:Ho):List AV:=[.pv (vI h.bind),.pv (vI h.pos),.pv (.ae (h.ctx.map En.pv)),.pv (vI h.goal.kind),.pv (.str h.goal.name),.pv (vI h.goal.id),.pv (vI h.goal.home),.pv (.ae (h.goal.args.map Ty.pv))]
def Z0(k:Nat):List AV:=[.pv (vI 0),.pv (vI 0),.own [] k,.pv (vI 0),.pv (.str []),.pv (vI 0),.pv (vI 0),.own [] (k+1)]
def abL(b:v.length<=1000000)(hl:h.ctx.length<=1000000)(hr:∀x∈h.ctx,J4 m.s x.sc.ty (Ey m.s x.sc.ty)){g:Ty}:∀(k i:Nat),h.ctx.length-i=k->i<=h.ctx.length->∀acc:List En,acc.length=i->
   cl AP g334L0 ⟨[(0,.aL 0 0),(2,.pv (.ae ((bh 0 v).map As.pv))),(4,.au 4 0),(6,.au 6 0),(7,.au 7 0),(8,.pv (vI i))],[(4,Vg h),(6,Z0 0),(7,[.pv (vI h.bind),.pv (vI h.pos),.own (acc.map En.pv) 2,.pv (vI g.kind),.pv (.str g.name),.pv (vI g.id),.pv (vI g.home),.pv (.ae (g.args.map Ty.pv))])],[some (m.cx 3)],[0,0,acc.length,m.rc.length,m.hd.length]⟩=
     some (.exit 0,⟨[(0,.aL 0 0),(2,.pv (.ae ((bh 0 v).map As.pv))),(4,.au 4 0),(6,.au 6 0),(7,.au 7 0),(8,.pv (vI h.ctx.length)),(24,.pv (.bool false))],[(4,Vg h),(6,Z0 0),(7,[.pv (vI h.bind),.pv (vI h.pos),.own ((acc++(h.ctx.drop i).map (No m v)).map En.pv) 2,.pv (vI g.kind),.pv (.str g.name),.pv (vI g.id),.pv (vI g.home),.pv (.ae (g.args.map Ty.pv))])],[some (m.cx 3)],[0,0,h.ctx.length,m.rc.length,m.hd.length]⟩)
 |0,i,d,hi,acc,c=>by
  have:i=h.ctx.length:=by omega
  subst this;rw[g334L0e];simp[g334B0,Vg,Z0,Mc.cx,c]
 |k+1,i,d,hi,acc,c=>by
  have hi:i<h.ctx.length:=(by omega);obtain⟨x,hx⟩:=aR hi;have a:=abL b hl hr (g:=g) k (i+1) (by omega) (by omega) (acc++[No m v x]) (by simp;omega);have e:=c333 b (hr x (aM hx));have f:(acc.length+1)*88<=140737488355328:=(by omega);rw[aZ hx];unfold jc at e;rw[g334L0e]at a⊢;simp[Mc.sh,Mc.tk,Mc.cells,Ej]at e;simp[Vg,Z0,Mc.cx,No]at a;generalize bh 0 v=L at*;simp(disch:=omega)[-getElem?_pos,g334B0,Vg,Z0,Mc.cx,hi,hx,e,aq,f,No];rw[g334L0e];simp[a]
def c334(a:v.length<=1000000)(hl:h.ctx.length<=1000000)(hr:∀x∈h.ctx,J4 m.s x.sc.ty (Ey m.s x.sc.ty))(b:J4 m.s h.goal (Ey m.s h.goal)):jc 334 [.pv h.pv,.pv (.ae ((bh 0 v).map As.pv))] m [.agg (Vg (IF m v h))] m:=by
 have e:=c333 a b;have L:=abL a hl hr (g:=mJ m v h.goal) _ 0 rfl (by omega) [] rfl;rw[zar,zaQ]at L;unfold jc IF at*;rw[g334L0e]at L;generalize h.ctx.map (No m v)=E at*;generalize bh 0 v=N at*;generalize mJ m v h.goal=w at*;simp[Mc.sh,Mc.tk,Mc.cells,Ej]at e;simp[Vg,Z0,Mc.cx]at L;rw[aC g334];simp[g334,Mc.sh,Mc.tk,Mc.cells,Mc.cx,e,g334L0e,L,Vg]
structure Rp where
 types:List Sc
 Ek:List Ho
 homes:List Int
def Rp.pv(r:Rp):PV:=.agg [.ae (r.types.map As.pv),.ae (r.Ek.map Ho.pv),.ae (r.homes.map vI)]
@[simp] theorem Rp.lM(r:Rp):r.pv=.agg [.ae (r.types.map As.pv),.ae (r.Ek.map Ho.pv),.ae (r.homes.map vI)]:=rfl
def z2:List AV:=[.pv (vI 0),.pv (vI 0)]
def Sml(m:Mc)(t:Ty):Prop:=∃r:Nat,r<=200/\Tr m.s.sl t r
def xE{l:List Ho}:u∈aP l<->∃h∈l,u∈aP [h]:=by
 simp[aP]
def Np{l:List Ty}:∀{out:List Int}{w:Int},w∈l.foldl bP out->w∈out\/∃y∈l,y.kind=1/\y.id=w:=by
 induction l with
 |nil=>intro out w h;exact .inl h
 |cons a r b=>
  intro out w h;rw[zaO]at h;rcases b h with h|⟨y,hy,e⟩
  .unfold bP at h;split at h
   .rename_i q;simp only[zae,zaU]at h;rcases h with h|rfl
    .exact .inl h
    .exact .inr ⟨a,by simp,q.1,rfl⟩
   .exact .inl h
  .exact .inr ⟨y,by simp[hy],e⟩
def gw.kn{D:Dt->Prop}(b:∀d,D d->d.name.length<=100)(h:∀u∈fs,u.args=[]/\(u.kind≠4->W u.kind)/\u.name.length<=100)(m:gw D fs n u):u.Kn W:=by
 induction m with
 |leaf hl=>exact Ty.Kn.bare (h _ hl).1 (h _ hl).2.1 (h _ hl).2.2
 |int=>exact Ty.Kn.bare rfl (by simp[a8]) (by simp[a8])
 |dy hd _ _ a=>exact .mk (by simp) (b _ hd) a
 |arrow _ _ e c=>exact .mk (by simp) (by simp) (by intro x hx;simp at hx;rcases hx with rfl|rfl<;>assumption)
def pk(h:u.Ok):∀y∈u.nodes,y.Ok:=by
 induction h with
 | @mk u hs c b=>
  intro y hy;rw[Ty.aI]at hy;simp only[zah,zaf]at hy;rcases hy with rfl|⟨a,d,hy⟩
  .exact .mk hs c
  .exact b a d y hy
structure BP(t:Ty):Prop where
 ok:t.Ok
 wf:t.Wf
 n:t.nodes.length<=1000000
def xF(h:Ho):Prop:=h.ctx.length<=1000/\BP h.goal/\∀x∈h.ctx,BP x.sc.ty
def xF.kf(H:xF h):∀t∈aP [h],BP t:=by
 intro t ht;simp only[aP,zaq,zbO,zaJ,zae,zak,zaU]at ht;rcases ht with⟨x,hx,rfl⟩|rfl
 .exact H.2.2 x hx
 .exact H.2.1
def nu{l:List Ho}(H:∀h∈l,xF h):∀t∈aP l,BP t:=by
 intro t ht;obtain⟨h,a,ht⟩:=xE.1 ht;exact(H h a).kf t ht
def ue{l:List Ho}(H:∀h∈l,xF h):(aP l).length<=l.length*1001:=by
 unfold aP;rw[za7];refine gS (M:=1001) fun h a=>?_;have:=(H h a).1
 simp;omega
def xG{l:List Ho}(H:∀h∈l,xF h)(hl:l.length<=1000):((aP l).flatMap Ty.nodes).length<=1001000000000:=by
 rw[za7];have h1:=gS (l:=aP l) (f:=fun t=>t.nodes.length) (M:=1000000) fun t ht=>(nu H t ht).n
 have h2:=ue H;have:(aP l).length*1000000<=(1000*1001)*1000000:=zaH _ (zaI h2 (zaH _ hl));omega
def uf{l:List Ho}:aP (h::l)=aP [h]++aP l:=by simp[aP]
def Rd.pv(r:Rd):PV:=.agg [vI r.h.bind,vI r.h.pos,.ae (r.h.ctx.map En.pv),vI r.h.goal.kind,.str r.h.goal.name,vI r.h.goal.id,vI r.h.goal.home,.ae (r.h.goal.args.map Ty.pv),.bool r.b]
@[simp] theorem Rd.lM(r:Rd):r.pv=.agg [.int .i64 r.h.bind,.int .i64 r.h.pos,.ae (r.h.ctx.map En.pv),.int .i64 r.h.goal.kind,.str r.h.goal.name,.int .i64 r.h.goal.id,.int .i64 r.h.goal.home,.ae (r.h.goal.args.map Ty.pv),.bool r.b]:=rfl
def abM:El Rd.pv 9 true:=⟨fun _=>by simp,fun _=>by simp⟩
@[simp] theorem Z1{l:List Rd}:bj 9 (l.map Rd.pv)=true:=abM.head l
def abN{env:List En}(hl:env.length<=1000000):∀(n i:Nat),env.length-i=n->i<=env.length->∀acc:List bF,acc.length=i->
   cl AP g486L0 ⟨[(3,.own (acc.map .str) 0),(6,.pv (.ae (env.map En.pv))),(7,.pv (vI env.length)),(8,.pv (vI i))],[],[],[acc.length]⟩=
     some (.exit 0,⟨[(3,.own ((acc++(env.drop i).map En.name).map .str) 0),(6,.pv (.ae (env.map En.pv))),(7,.pv (vI env.length)),(8,.pv (vI env.length)),(9,.pv (.bool false))],[],[],[env.length]⟩)
 |0,i,hn,hi,acc,b=>by
  have:i=env.length:=by omega
  subst this;rw[g486L0e];simp[g486B0,b]
 |n+1,i,hn,hi,acc,b=>by
  have hi:i<env.length:=(by omega);obtain⟨x,hx⟩:=aR hi;have a:=abN hl n (i+1) (by omega) (by omega) (acc++[x.name]) (by simp;omega);have c:(acc.length+1)*16<=140737488355328:=(by omega);rw[aZ hx];rw[g486L0e]at a⊢;simp at a;simp(disch:=omega)[-getElem?_pos,g486B0,hx,hi,aq,c];rw[g486L0e];simp[a]
def c486g{env:List En}(hl:env.length<=1000000):(aE AP).p 486 [.ae (env.map En.pv)]=some [.ae ((env.map En.name).map .str)]:=by
 have L:=abN hl _ 0 rfl (by omega) [] rfl;rw[g486L0e]at L;simp at L;rw[aB g486];simp[g486,g486L0e,L]
def BP.BT(h:BP u){S:List Ty}(hS:∀y∈u.nodes,y∈S):Good S u:=⟨h.ok,h.wf,fun x hx=>hS x (oZ hx)⟩
structure l7(l:List En):Prop where
 len:l.length<=1000
 ty:∀x∈l,BP x.sc.ty
def Nq(l:List En):List Ty:=l.flatMap fun x=>x.sc.ty.nodes
def l7.ym{l:List En}(h:l7 l):(Nq l).length<=1000000000:=by
 unfold Nq;rw[za7];have h1:=gS (l:=l) (f:=fun x=>x.sc.ty.nodes.length) (M:=1000000) fun x hx=>(h.ty x hx).n
 have h2:=h.len;have:=zaH 1000000 h2;omega
def l7.BT{l:List En}(h:l7 l):∀x∈l,Good (Nq l) x.sc.ty:=fun x hx=>(h.ty x hx).BT fun y hy=>by
 unfold Nq;simp only[zaf];exact⟨x,hx,hy⟩
def l7.ok{l:List En}(h:l7 l):∀x∈Nq l,x.Ok:=by
 intro y hy;unfold Nq at hy;simp only[zaf]at hy;obtain⟨x,hx,hy⟩:=hy;exact pk (h.ty x hx).ok y hy
def l7.sm{l:List En}(h:l7 l):Sm l:=by have:=h.len;unfold Sm;omega
def c199r{l:List En}(h:l7 l):(aE AP).p 199 [.ae (l.map En.pv)]=some [.ae ((dQ l).map vI)]:=c199 (by have:=h.ym;omega) h.sm h.BT
def c199ri{l:List En}(h:l7 l):(aE AP).i 199 [.pv (.ae (l.map En.pv))] [] []=some ([.own ((dQ l).map vI) 0],[],[(dQ l).length]):=c199i (by have:=h.ym;omega) h.sm h.BT
def c200r{l:List En}(h:l7 l):(aE AP).p 200 [.ae (l.map En.pv)]=some [.ae ((dQ l).map vI)]:=c200 (by have:=h.ym;omega) h.ok h.sm h.BT
def c55r(h:BP T):(aE AP).p 55 [.ae [T.pv]]=some [.ae ((vars [T]).map vI)]:=by
 have hn:=h.n
 exact c55 (S:=T.nodes.map fun y=>y.id) (by rw[zaD];omega) (l:=[T]) (by simp[Sm]) (by intro u hu;simp at hu;subst hu;exact h.ok) (fun x hx _=>by
  simp at hx;exact zak.2 ⟨x,hx,rfl⟩)
def xH{l:List Ty}:(vars l).length<=(l.flatMap Ty.nodes).length:=by
 have:=sS (l:=l.flatMap Ty.nodes) (out:=[]);simp only[vars,zcL]at*;omega
def xI(h:BP u):(vars [u]).length<=1000000:=by
 have:=xH (l:=[u]);have:=h.n;simp only[zaq,zbO,zaJ]at*;omega
def BB{l:List En}(h:l7 l):(dQ l).length<=l.length*1000000:=by
 unfold dQ;refine zaI xH ?_;rw[za7];refine zaI (gS (M:=1000000) fun t ht=>?_) (zaH _ (by rw[zaD];exact gM l));simp only[zak]at ht;obtain⟨x,hx,rfl⟩:=ht;exact(h.ty x (cd l x hx)).n
def BR(h:Ho):List Int:=vars [h.goal]++dQ h.ctx
def xF.env(H:xF h):l7 h.ctx:=⟨by have:=H.1;omega,H.2.2⟩
def RD(H:xF h):(BR h).length<=1001000000:=by
 have h1:=xI H.2.1;have h2:=BB H.env;have h3:=zaH 1000000 H.1;unfold BR;rw[zat];omega
def abO{l:List Rd}(hl:l.length<=1000)(H:∀r∈l,xF r.h):∀(n i:Nat),l.length-i=n->i<=l.length->∀acc:List Int,acc.length<=i*1001000000->∃T:Nat,
   cl AP g513L0 ⟨[(3,.own (acc.map vI) 0),(6,.pv (.ae (l.map Rd.pv))),(7,.pv (vI l.length)),(8,.pv (vI i))],[],[],[acc.length]⟩=
     some (.exit 0,⟨[(3,.own ((acc++(l.drop i).flatMap fun r=>BR r.h).map vI) 0),(6,.pv (.ae (l.map Rd.pv))),(7,.pv (vI l.length)),(8,.pv (vI l.length)),(9,.pv (.bool false))],[],[],[T]⟩)/\T=(acc++(l.drop i).flatMap fun r=>BR r.h).length
 |0,i,hn,hi,acc,g=>by
  have:i=l.length:=by omega
  subst this;refine⟨acc.length,?_,by simp⟩;rw[g513L0e];simp[g513B0]
 |n+1,i,hn,hi,acc,g=>by
  have hi:i<l.length:=(by omega);obtain⟨r,hx⟩:=aR hi;have hr:=H r (aM hx);have f:=RD hr;have d:=c55r hr.2.1;have k2:=c199r hr.env;obtain⟨T,c,hT⟩:=abO hl H n (i+1) (by omega) (by omega) (acc++BR r.h) (by rw[zat];omega);have e:acc++BR r.h++(l.drop (i+1)).flatMap (fun r=>BR r.h)=acc++(l.drop i).flatMap fun r=>BR r.h:=by rw[aZ hx];simp
  rw[e]at c hT;refine⟨T,?_,hT⟩;generalize acc++(l.drop i).flatMap (fun r=>BR r.h)=R at*;unfold BR at c f;rw[zat]at f;generalize vars [r.h.goal]=v at*;generalize dQ r.h.ctx=w at*;have b1:(acc.length+v.length)*8<=140737488355328:=by omega
  have o:(acc.length+v.length+w.length)*8<=140737488355328:=(by omega);have m:(acc.length+w.length)*8<=140737488355328:=(by omega);have j:(acc.length+(v.length+w.length))*8<=140737488355328:=(by omega);have k:acc.length*8<=140737488355328:=(by omega);have h1:=gL.head acc;have h2:=gL.head (acc++v);simp at h2 d k2;rw[g513L0e]at c⊢;by_cases b:v=[]<;>by_cases a:w=[]<;>
  .simp[b,a]at c d k2;simp(disch:=omega)[-getElem?_pos,g513B0,hx,hi,d,k2,aq,b1,o,m,k,j,h1,h2,b,a,zbD];rw[g513L0e];simp[c,b,a,zbD]
def c513g{l:List Rd}(hl:l.length<=1000)(H:∀r∈l,xF r.h):(aE AP).p 513 [.ae (l.map Rd.pv)]=some [.ae ((l.flatMap fun r=>BR r.h).map vI)]:=by
 obtain⟨T,L,hT⟩:=abO hl H _ 0 rfl (by omega) [] (by simp);rw[zaQ,zar]at L hT;rw[g513L0e]at L;simp at L;rw[aB g513];simp[g513,g513L0e,L]
def zx(h:n<gen.length):jV gen V O n=(Su gen V O n && jV gen V O (n+1)):=by
 unfold jV;rw[show gen.length-n=(gen.length-(n+1))+1 by omega,zcy,za1]
def Ez:jV gen V O gen.length=true:=by simp[jV]
def J5{l:List Int}(h:l.length<=1000000){i:Nat}(hi:i<=l.length):dC false 1 false true false [.pv (.ae (l.map vI)),.pv (vI i)]=some (.pv (.ae ((l.take i).map vI))):=by
 have h1:¬(i:Int)<0:=by omega
 have h2:(i:Int)<=l.length:=by omega
 have e:eI false true false (l.map vI).length [.pv (vI i)]=some (0,(i:Int),none):=rfl;have e0:dG (.pv (.ae (l.map vI)))=some (l.map vI):=rfl;unfold dC;simp only[zaV,zbr,e0,e];rw[zai ⟨by omega,by omega,by rw[zaD];exact h2,.inl trivial⟩];simp
def abP(k:gen.length<=1000000)(hV:Sm V)(l:Sm O):∀(n i:Nat),gen.length-i=n->i<=gen.length->
   (jV gen V O i=true/\∃T:aH,cl AP g493L0 ⟨[(0,.pv (.ae (gen.map vI))),(9,.pv (.ae (V.map vI))),(10,.own (O.map vI) 0),(21,.pv (.ae (gen.map vI))),(22,.pv (vI gen.length)),(23,.pv (vI i))],[],[],[O.length]⟩=
     some (.exit 0,⟨[(0,.pv (.ae (gen.map vI))),(9,.pv (.ae (V.map vI))),(10,.own (O.map vI) 0),(21,.pv (.ae (gen.map vI))),(22,.pv (vI gen.length)),(23,.pv (vI gen.length)),(24,.pv (.bool false))],[],[],T⟩))\/
   (jV gen V O i=false/\∃T:aH,cl AP g493L0 ⟨[(0,.pv (.ae (gen.map vI))),(9,.pv (.ae (V.map vI))),(10,.own (O.map vI) 0),(21,.pv (.ae (gen.map vI))),(22,.pv (vI gen.length)),(23,.pv (vI i))],[],[],[O.length]⟩=
     some (.ret,⟨[(8,.pv (.bool false))],[],[],T⟩))
 |0,i,hn,hi=>by
  have:i=gen.length:=by omega
  subst this;refine .inl ⟨Ez,[O.length],?_⟩;rw[g493L0e];simp[g493B0]
 |n+1,i,hn,hi=>by
  have hi:i<gen.length:=(by omega);obtain⟨x,hx⟩:=aR hi;have m:=abP k hV l n (i+1) (by omega) (by omega);rw[zx hi];have e:Su gen V O i=(!decide (x∈gen.take i) && decide (x∈V) && !decide (x∈O)):=(by simp[Su,hx]);have d:=c98 (s:=gen.take i) (by unfold Sm;simp;omega) (y:=x);have k2:=c98 hV (y:=x);have j:=c98 l (y:=x);rw[e];rw[zbi]at d;have ht:=J5 k (i:=i) (by omega);rw[zbi]at ht;generalize decide (x∈gen.take i)=c at*;generalize decide (x∈V)=b at*;generalize decide (x∈O)=a at*
  have g:(!c && b && !a)=false->∃T:aH,cl AP g493L0 ⟨[(0,.pv (.ae (gen.map vI))),(9,.pv (.ae (V.map vI))),(10,.own (O.map vI) 0),(21,.pv (.ae (gen.map vI))),(22,.pv (vI gen.length)),(23,.pv (vI i))],[],[],[O.length]⟩=some (.ret,⟨[(8,.pv (.bool false))],[],[],T⟩):=by
   intro h;rw[g493L0e];cases c<;>cases b<;>cases a<;>simp at h<;>simp(disch:=omega)[-getElem?_pos,g493B0,hx,hi,d,k2,j,ht]
  cases q:(!c && b && !a)with
  |false=>
   refine .inr ⟨by rw[zcT],g q⟩
  |true=>
   rw[zbq]
   have e1:cl AP g493L0 ⟨[(0,.pv (.ae (gen.map vI))),(9,.pv (.ae (V.map vI))),(10,.own (O.map vI) 0),(21,.pv (.ae (gen.map vI))),(22,.pv (vI gen.length)),(23,.pv (vI i))],[],[],[O.length]⟩=cl AP g493L0 ⟨[(0,.pv (.ae (gen.map vI))),(9,.pv (.ae (V.map vI))),(10,.own (O.map vI) 0),(21,.pv (.ae (gen.map vI))),(22,.pv (vI gen.length)),(23,.pv (vI (i+1:Nat)))],[],[],[O.length]⟩:=by
    generalize f:cl AP g493L0 ⟨[(0,.pv (.ae (gen.map vI))),(9,.pv (.ae (V.map vI))),(10,.own (O.map vI) 0),(21,.pv (.ae (gen.map vI))),(22,.pv (vI gen.length)),(23,.pv (vI (i+1:Nat)))],[],[],[O.length]⟩=o;rw[g493L0e]at f⊢;simp at f;cases c<;>cases b<;>cases a<;>simp at q;simp(disch:=omega)[-getElem?_pos,g493B0,hx,hi,d,k2,j,ht,aq];rw[g493L0e];simp[f]
   rw[e1];exact m
def c493(d:gen.length<=1000000)(ht:BP u){env:List En}(b:l7 env){l:List Rd}(hl:l.length<=1000)(H:∀r∈l,xF r.h):
   (aE AP).p 493 [.ae (gen.map vI),u.pv,.ae (env.map En.pv),.ae (l.map Rd.pv)]=some [.bool (jV gen (vars [u]) (dQ env++l.flatMap fun r=>BR r.h) 0)]:=by
 have c:=c55r ht;have k2:=c199ri b;have a:=c513g hl H;have k:=xI ht;have j:=BB b;have i:=b.len
 have g:(l.flatMap fun r=>BR r.h).length<=l.length*1001000000:=by
  rw[za7];exact gS (M:=1001000000) fun r hr=>RD (H r hr)
 generalize (l.flatMap fun r=>BR r.h)=w at*;have L:=abP (gen:=gen) (V:=vars [u]) (O:=dQ env++w) d (by unfold Sm;omega) (by unfold Sm;rw[zat];omega) _ 0 rfl (by omega);generalize jV gen (vars [u]) (dQ env++w) 0=R at*;generalize vars [u]=v at*;have h1:=gL.head (dQ env);generalize dQ env=f at*;have b1:(f.length+w.length)*8<=140737488355328:=by omega
 have e:f.length*8<=140737488355328:=by omega
 rw[g493L0e]at L;simp at c k2 a;rw[aB g493];by_cases hw:w=[]<;>
 .simp[hw]at L a;rcases L with⟨rfl,T,L⟩|⟨rfl,T,L⟩<;>simp(disch:=omega)[g493,c,k2,a,h1,b1,e,hw,g493L0e,L]
def Vh{out:List Ho}{T:Nat}(hi:n<=out.length):dC false 8 true false false [.own (out.map Ho.pv) T,.pv (vI n)]=some (.pv (.ae ((out.drop n).map Ho.pv))):=by
 have e:eI true false false (out.map Ho.pv).length [.pv (vI n)]=some ((n:Int),((out.map Ho.pv).length:Int),none):=rfl;have e0:dG (.own (out.map Ho.pv) T)=some (out.map Ho.pv):=rfl;unfold dC;simp only[zaV,zbr,e0,e];rw[zai ⟨by omega,by rw[zaD];omega,by omega,.inr M5⟩];simp;rw[zaz (by simp)]
def zy{l:List Ty}:w∈vars l<->∃y∈l.flatMap Ty.nodes,y.kind=1/\y.id=w:=by
 constructor
 .intro hw;rcases Np hw with hw|h
  .cases hw
  .exact h
 .rintro⟨y,hy,k,rfl⟩
  exact mI hy k
def rN{a b:List Ty}:w∈vars (a++b)<->w∈vars a\/w∈vars b:=by
 simp only[zy,zco,zae];constructor
 .rintro⟨y,hy|hy,h⟩
  .exact .inl ⟨y,hy,h⟩
  .exact .inr ⟨y,hy,h⟩
 .rintro(⟨y,hy,h⟩|⟨y,hy,h⟩)
  .exact⟨y,.inl hy,h⟩
  .exact⟨y,.inr hy,h⟩
def Nr(h:∀x,x∈O<->x∈g):Su gen V O=Su gen V g:=by
 funext j
 unfold Su;rw[show decide (gen[j]?.getD 0∈O)=decide (gen[j]?.getD 0∈g) from by rw[za0];simp only[zaS];exact h _]
def IG(h:∀x,x∈O<->x∈g):jV gen V O n=jV gen V g n:=by
 unfold jV;rw[Nr h]
def Rd.Cl(r:Rd):Prop:=aW r.h.ctx=r.h.ctx
def Vi(a:aW h.ctx=h.ctx):w∈BR h<->w∈vars (aP [h]):=by
 have e:aP [h]=h.ctx.map (fun x=>x.sc.ty)++[h.goal]:=by simp[aP]
 unfold BR dQ;rw[e,rN,zae,a];exact Or.comm
def RF{l:List Rd}(c:∀r∈l,r.Cl):w∈(l.flatMap fun r=>BR r.h)<->w∈vars (aP (l.map Rd.h)):=by
 induction l with
 |nil=>simp[aP,zy]
 |cons a r b=>
  have b:=b fun x hx=>c x (by simp[hx]);rw[zaq,zae,zan,uf,rN,b,Vi (c a (by simp))]
def RG{l:List Rd}(a:∀r∈l,r.Cl):jV gen V (O++l.flatMap fun r=>BR r.h) 0=jV gen V (O++vars (aP (l.map Rd.h))) 0:=IG fun x=>by
 rw[zae,zae,RF a]
def c518{c:Sc}(b:c.ty.Ok)(a:c.ty.Wb){l:List Ty}(hl:Sm l):(aE AP).p 518 [c.pv,.ae (l.map Ty.pv)]=some (if c.id=l.length then[(c.ty.d7 l).pv,.bool true]else[cA.pv,.bool false]):=by
 have k:=c47 hl b a;rw[aB g518];by_cases h:c.id=l.length
 .rw[zai h];simp at k;simp[g518,h,k]
 .rw[zad h];have h':¬(l.length:Int)=c.id:=fun q=>h q.symm
  simp[g518,h,h',cA]
def c504{c:Sc}(g:c.ty.Ok)(f:c.ty.Wb)(hd:d.Sd)(e:(c.ty.d7 d.inst).Ok):(aE AP).p 504 [c.pv,d.pv]=some [.bool (jj c d)]:=by
 have hl:=hd.il;have k:=c518 g f (l:=d.inst) (by unfold Sm;omega);have k2:=c33 (a:=c.ty.d7 d.inst) (b:=d.ty) e;rw[wS]at k2;unfold jj;rw[aB g504];by_cases h:c.id=d.inst.length
 .rw[zai h]at k;simp only[h,decide_true,zbq];generalize decide (c.ty.d7 d.inst=d.ty)=b at*;generalize c.ty.d7 d.inst=u at*;simp[h]at k k2;simp[g504,h,k,k2]
 .rw[zad h]at k;simp only[h,decide_false,zcT];simp[cA]at k;simp[g504,h,k]
def c506g{env:List En}(a:Sm env):(aE AP).p 506 [.agg [.ae (ds.map Dt.pv),vI home],.ae (env.map En.pv),e.pv,d.pv]=some [(uA home env e d).pv]:=by
 have k:=c182 a;unfold uA;generalize aW env=s at*;rw[aB g506];simp[g506,k]
def Ns(h:e.ch[n]?=some x):Q5 ds K e n<->oF ds (fun s=>K s\/s∈bX e n) x/\Q5 ds K e (n+1):=by
 constructor
 .exact fun q=>⟨q n x (by omega) h,fun j y hj hy=>q j y (by omega) hy⟩
 .rintro⟨b,a⟩ j y hj hy
  by_cases c:j=n
  .subst c;rw[h]at hy;cases hy;exact b
  .exact a j y (by omega) hy
def RH:Q5 ds K e e.ch.length:=by
 intro j x hj hx;have:=(zaa.1 hx).1;omega
def J6(h:e.kind=1):oF ds K e<->K e.name:=by
 constructor
 .intro q;cases q with
  |var _ q=>exact q
  |dy q _=>omega
  |Nc q _ _ _=>exact absurd h q
 .exact .var h
def J7(h:e.kind=2):oF ds K e<->(gP ds e.name 0).isSome=true:=by
 constructor
 .intro q;cases q with
  |var q _=>omega
  |dy _ q=>exact q
  |Nc _ q _ _=>exact absurd h q
 .exact .dy h
def J8(h1:e.kind≠1)(h2:e.kind≠2):oF ds K e<->(e.kind=8->(eS ds e.aF).isSome=true)/\Q5 ds K e 0:=by
 constructor
 .intro q;cases q with
  |var q _=>exact absurd q h1
  |dy q _=>exact absurd q h2
  |Nc _ _ b a=>exact⟨b,fun j x _ hx=>a j x hx⟩
 .rintro⟨b,a⟩;exact .Nc h1 h2 b fun i x hx=>a i x (by omega) hx
open Classical in
noncomputable def BS(ds:List Dt)(K:bF->Prop)(e:Ex):Bool:=decide (oF ds K e)
open Classical in
noncomputable def RI(ds:List Dt)(K:bF->Prop)(e:Ex)(i:Nat):Bool:=decide (Q5 ds K e i)
def RJ(h:e.ch[n]?=some x):RI ds K e n=(BS ds (fun s=>K s\/s∈bX e n) x && RI ds K e (n+1)):=by
 rw[za0];unfold RI BS;simp only[zaS,zaj];exact Ns h
def Vj:RI ds K e e.ch.length=true:=by
 unfold RI;simp only[zaS];exact RH
theorem Vk(h:e.kind=1)[Decidable (K e.name)]:BS ds K e=decide (K e.name):=by
 unfold BS;rw[za0];simp only[zaS];exact J6 h
def Vl(h:e.kind=2):BS ds K e=(gP ds e.name 0).isSome:=by
 unfold BS;rw[za0];simp only[zaS];exact J7 h
def Vm(h1:e.kind≠1)(h2:e.kind≠2):BS ds K e=((!decide (e.kind=8)|| (eS ds e.aF).isSome) && RI ds K e 0):=by
 unfold BS RI;rw[za0];simp only[zaS,zaj,zbo,zcc,zbg];rw[J8 h1 h2];by_cases h:e.kind=8<;>simp[h]
def abR(h:e.ch[n]?=some x):T7 e [(n:Int)]=gO (bX e n):=by
 have hi:=(zaa.1 h).1
 have e1:e.at [(n:Int)]=some x:=by
  unfold Ex.at;rw[zai ⟨by omega,by omega⟩,zcs,h];simp[Ex.at]
 have e2:e.DV [(n:Int)]=bX e n:=by
  unfold Ex.DV;rw[zcs,h];simp[Ex.DV]
 unfold T7;rw[e1,e2]
def zz{s:bF}:∀{l:List bF},s∈gO l<->s∈l
 |[]=>by simp[gO]
 |a::r=>by
  have b:=zz (s:=s) (l:=r);unfold gO;split
  .rename_i h;rw[b,zah];constructor
   .exact .inr
   .rintro(rfl|q)
    .simpa using h
    .exact q
  .rw[zah,zah,b]
def xJ:∀l:List bF,(gO l).length<=l.length
 |[]=>by simp[gO]
 |a::r=>by
  have b:=xJ r;unfold gO;split<;>simp<;>omega
def Zh{N:List bF}{b:List bF}:(fun s=>s∈N++gO b)=(fun s=>s∈N\/s∈b):=by
 funext s;rw[zae,zz]
def Zi(ds:List Dt)(N:List bF)(e:Ex):Option (aX×St):=some (.exit 1,⟨[(0,.pv (.ae (ds.map Dt.pv))),(1,.pv (.ae (N.map .str))),(5,.au 5 0),(45,.pv (.ae (e.ch.map Ex.pv))),(46,.pv (vI e.ch.length)),(47,.pv (vI e.ch.length)),(48,.pv (.bool false))],[(5,e.cl)],[],[]⟩)
noncomputable def EA(ds:List Dt)(N:List bF)(e:Ex)(i:Nat):Option (aX×St):=cl AP g485L0 ⟨[(0,.pv (.ae (ds.map Dt.pv))),(1,.pv (.ae (N.map .str))),(5,.au 5 0),(45,.pv (.ae (e.ch.map Ex.pv))),(46,.pv (vI e.ch.length)),(47,.pv (vI i))],[(5,e.cl)],[],[]⟩
def abS{N:List bF}(f:e.Ok)(h1:e.One)(hl:N.length<=1000000000)(h:∀(i:Nat)(x:Ex),e.ch[i]?=some x->(aE AP).p 485 [.ae (ds.map Dt.pv),.ae ((N++gO (bX e i)).map .str),x.pv]=some [.bool (BS ds (fun s=>s∈N\/s∈bX e i) x)]):∀(n i:Nat),e.ch.length-i=n->i<=e.ch.length->
   (RI ds (·∈N) e i=true/\EA ds N e i=Zi ds N e)\/(RI ds (·∈N) e i=false/\∃T:aH,EA ds N e i=some (.ret,⟨[(6,.pv (.bool false))],[],[],T⟩))
 |0,i,hn,hi=>by
  have:i=e.ch.length:=by omega
  subst this;refine .inl ⟨Vj,?_⟩;unfold EA;rw[g485L0e];simp[g485B0,Ex.w7,Zi]
 |n+1,i,hn,hi=>by
  have hi:i<e.ch.length:=(by omega);obtain⟨x,hx⟩:=aR hi;have d:=h i x hx;have l:=abS f h1 hl h n (i+1) (by omega) (by omega);have m:e.ch.length<=2000:=(by rw[Ex.i_];have:=f.k;have:=f.a;omega);have g:=c404 f h1 (p:=[(i:Int)]) (by simp);rw[abR hx]at g;rw[RJ hx];have r:=xJ (bX e i);have o:=ot f (i:=i);have b1:(N.length+(gO (bX e i)).length)*16<=140737488355328:=(by omega);have j:N.length*16<=140737488355328:=(by omega);have c:=y8.len x;have b:=y8.of x;generalize RI ds (·∈N) e (i+1)=R at*;generalize gO (bX e i)=w at*;rw[za3]at d;simp at g c b;cases q:BS ds (fun s=>s∈N\/s∈bX e i) x with
  |true=>
   rw[q]at d;rw[zbq]
   have e1:EA ds N e i=EA ds N e (i+1):=by
    unfold EA;conv=>lhs;rw[g485L0e]
    conv=>rhs;rw[g485L0e]
    by_cases hN:N=[]<;>by_cases hw:w=[]<;>
    .simp[hN,hw]at d b1;simp(disch:=omega)[-getElem?_pos,g485B0,Ex.w7,hx,hi,g,d,aq,b1,j,c,b,hN,hw];rw[g485L0e];simp[g485B0,Ex.w7,hN]
   rw[e1];exact l
  |false=>
   rw[q]at d;refine .inr ⟨by rw[zcT],?_⟩;unfold EA;rw[g485L0e];by_cases hN:N=[]<;>by_cases hw:w=[]<;>
   .simp[hN,hw]at d b1;simp(disch:=omega)[-getElem?_pos,g485B0,Ex.w7,hx,hi,g,d,b1,j,c,b,hN,hw]
def c485(hS:Sm ds)(m:∀d∈ds,Sm d.cons)(h:e.Ok):e.One->∀N:List bF,N.length+1000*e.sz<=1000000000->(aE AP).p 485 [.ae (ds.map Dt.pv),.ae (N.map .str),e.pv]=some [.bool (BS ds (·∈N) e)]:=by
 induction h with
 | @mk e r t o ht k n=>
  intro h1 N hN;have l:=Ex.Ok.mk r t o ht k;rw[aB g485];by_cases j:e.kind=1
  .have c:=c214 (s:=N) (by unfold Sm;omega) (y:=e.name);rw[Vk j];simp[g485,j,c]
  .by_cases k2:e.kind=2
   .have c:=c190 hS m (s:=e.name);rw[Vl k2];cases q:gP ds e.name 0 with
    |none=>rw[q]at c;simp[rF]at c;simp[g485,k2,c]
    |some y=>rw[q]at c;obtain⟨a,b⟩:=y;simp[rF]at c;simp[g485,k2,c]
   .rw[Vm j k2]
    have L:=abS (ds:=ds) l h1 (N:=N) (by omega) (fun i x hx=>by
     have:=Ex.QR (aM hx);have hl:=xJ (bX e i);have u:=ot l (i:=i);have q:=n x (aM hx) (h1.c x (aM hx)) (N++gO (bX e i)) (by rw[zat];omega);rw[Zh]at q;exact q) _ 0 rfl (by omega)
    have g:=c414 l;simp at g;unfold EA Zi at L;rw[g485L0e]at L;simp[Ex.w7]at L;generalize RI ds (·∈N) e 0=R at*;by_cases f:e.kind=8
    .have c:=c407 hS m (as:=e.aF);cases q:eS ds e.aF with
     |none=>rw[q]at c;simp[ja]at c;simp[g485,f,c]
     |some y=>
      rw[q]at c;simp[ja]at c;simp[f]at L g;rcases L with⟨rfl,L⟩|⟨rfl,T,L⟩
      .simp[g485,f,c,g,g485L0e,L]
      .simp[g485,f,c,g,g485L0e,L]
    .rcases L with⟨rfl,L⟩|⟨rfl,T,L⟩
     .simp[g485,j,k2,f,g,g485L0e,L]
     .simp[g485,j,k2,f,g,g485L0e,L]
def xK{env:List En}(h:(e.kind≠6/\e.kind≠7/\d.gen≠[])\/(e.kind≠1/\e.kind≠2/\e.kind≠8/\d.inst≠[])):aK ds home (n+1) env e d=none:=by
 rw[aK,zai h]
def dX(a:¬((e.kind≠6/\e.kind≠7/\d.gen≠[])\/(e.kind≠1/\e.kind≠2/\e.kind≠8/\d.inst≠[]))):(e.kind≠6->e.kind≠7->d.gen=[])/\(e.kind≠1->e.kind≠2->e.kind≠8->d.inst=[]):=by
 refine⟨fun h1 h2=>?_,fun h1 h2 h3=>?_⟩
 .by_cases q:d.gen=[]
  .exact q
  .exact absurd (.inl ⟨h1,h2,q⟩) a
 .by_cases q:d.inst=[]
  .exact q
  .exact absurd (.inr ⟨h1,h2,h3,q⟩) a
structure DtD(ds:List Dt):Prop where
 sm:Sm ds
 dy:∀d∈ds,Sm d.cons
 par:∀d∈ds,Sm d.params
 Wo:∀d∈ds,∀c∈d.cons,Sm c.fields/\(∀x∈c.fields,x.Ok)/\(∀x∈c.fields,x.Cw)
def BP.ym(h:BP u):T3 u:=⟨h.ok,h.wf,u.nodes,by have:=h.n;omega,pk h.ok,fun x hx=>oZ hx⟩
def iT(env:List En)(e:Ex)(t:Ty):List En:=if e.kind=7 then env++[⟨e.name,⟨0,t⟩⟩]else env
def l9(env:List En)(e:Ex)(d:Dv)(t:Ty):List En:=env++[⟨e.name,cG d.gen t (vars [t])⟩]
def zA{env:List En}{v:bF}(a:vs[j]?=some v)(ht:fs[j]?=some u):(vs.zip fs).drop j=(v,u)::(vs.zip fs).drop (j+1):=by
 have:(vs.zip fs)[j]?=some (v,u):=by rw[zb4];exact⟨a,ht⟩
 exact aZ this
noncomputable def xL(f:List En->Ex->Dv->Option (List Rd))(ds:List Dt)(D:Dt)(env:List En)(e b:Ex)(d a:Dv):Option (List Rd):=
 if d.inst.length=D.params.length/\a.ty=⟨4,D.name,0,0,d.inst⟩then
  match f env b a with
  |some l=>ic f ds env d e.aF 1 l
  |none=>none
 else none
def RK{aQ:aH}{v:AV}{p:PV}(h:jH (bz aQ ts (nG sh v)).1=some p):mh sh v=.pv p:=by
 cases v with
 |pv q=>
  have e:mh sh (.pv q)=.pv q:=rfl;have e2:nG sh (.pv q)=.pv q:=rfl;rw[e2]at h;simp only[bz,jH,zag]at h;rw[e,h]
 |dm l=>
  have e:mh sh (.dm l)=.pv (.ae l):=rfl;have e2:nG sh (.dm l)=.dm l:=rfl;rw[e2]at h;simp only[bz,jH,zag]at h;rw[e,h]
 |own l t=>
  have e:mh sh (.own l t)=.pv (.ae l):=rfl;have e2:nG sh (.own l t)=.own l t:=rfl;rw[e2]at h;simp only[bz]at h;split at h
  .simp only[jH,zag]at h;rw[e,h]
  .simp only[jH,zag]at h;rw[e,h]
 |agg cs=>
  have e2:nG sh (.agg cs)=.agg (cs.map (rY sh)):=rfl;rw[e2]at h;simp only[bz]at h;split at h<;>simp[jH]at h
 |_=>
  revert h
  simp only[nG];unfold mh;split
  .rename_i q a;intro h;simp only[bz,jH,zag]at h;rw[h]
  .intro h;simp[bz,jH]at h
def zB:∀{aQ ts:aH}{vs:List AV}{ps:List PV},fM (bo aQ ts (vs.map (nG sh))).1=some ps->vs.map (mh sh)=ps.map .pv
 |_,_,[],ps,h=>by simp[bo,fM]at h;subst h;rfl
 |aQ,ts,v::vs,ps,h=>by
  simp only[zan,bo,fM]at h;split at h
  .rename_i p a h1 h2;cases h;rw[zan,zan,RK h1,zB h2]
  .cases h
theorem J9{aQ:aH}:∀{ps:List PV},(bo aQ ts (ps.map AV.pv)).1=ps.map AV.pv
 |[]=>rfl
 |p::ps=>by simp only[zan,bo,bz,J9 (ps:=ps)]
theorem zE:∀{ps:List PV},gi (ps.map AV.pv)=some ps
 |[]=>rfl
 |p::ps=>by simp only[zan,gi,zE (ps:=ps),zaZ]
def Zj{af:aw}{x:List PV}(c:AP n=some af)(h1:x.length=af.nparams)(h2:af.nparams<=af.ntmps)(hp:af.rX=none)(f:af.ks=false){rs:List AV}{ps:List PV}(h:(aE AP).i n (x.map .pv) [] []=some (rs,sh,ts))(hf:fM rs=some ps):(aE AP).p n x=some ps:=by
 rw[fF c (by rw[zaD];omega)]at h;rw[m9 c h1 h2 hp];cases d:cl AP af.body ⟨bY 0 (x.map .pv),[],[],[]⟩with
 |none=>rw[d]at h;simp[fin]at h
 |some q=>
  obtain⟨e,st⟩:=q;rw[d]at h
  have key:∀o:Option (List AV),lT true af.ks [] st.sh st.aa o=some (rs,sh,ts)->kx (lT false af.ks [] st.sh st.aa o)=some ps:=by
   intro o b;cases o with
   |none=>cases b
   |some vs=>
    simp only[lT,f,cI,za4,zaV,zbr]at b⊢;split at b
    .simp only[cL,zag,zaw]at b;have h3:=zB (b.1 ▸ hf);rw[h3];have a:(ps.map AV.pv).all bQ=true:=by rw[zas];intro y hy;obtain⟨p,_,rfl⟩:=zak.1 hy;rfl
     rw[zai a];simp only[kx,cL,J9,zE]
    .cases b
  cases e with
  |ret=>exact key _ h
  |normal=>exact key _ h
  |exit _=>simp[fin]at h
def Fk(g:Nat)(args:List PV)(fit:Option (List Rd))(N:Nat):Prop:=∃(b:Bool)(a:List Rd),(aE AP).i g (args.map .pv) [] []=some ([.own (a.map Rd.pv) 0,.pv (.bool b)],[],[a.length])/\(∀l,fit=some l->b=true/\a=l)/\(fit=none->b=false)/\a.length<=N
def mK(ds:List Dt)(home:Int):PV:=.agg [.ae (ds.map Dt.pv),vI home]
def c505g:(aE AP).p 505 []=some [a8.pv]:=Fc.Ya (k:=100) (n:=40) (by kernel_rfl)
def iu(ds:List Dt)(home:Int)(env:List En)(e:Ex)(d:Dv):List PV:=[mK ds home,.ae (env.map En.pv),e.pv,d.pv]
def l_{env:List En}(h:(e.kind≠6/\e.kind≠7/\d.gen≠[])\/(e.kind≠1/\e.kind≠2/\e.kind≠8/\d.inst≠[])):Fk 487 (iu ds home env e d) (aK ds home (n+1) env e d) 1:=by
 refine⟨false,[],?_,?_,fun _=>rfl,by simp⟩
 .rw[aC g487];rcases h with⟨h1,h2,h3⟩|⟨h1,h2,h3,h4⟩
  .have hl:0<d.gen.length:=za5.2 h3;simp[g487,iu,mK,h1,h2,h3,hl]
  .have hl:0<d.inst.length:=za5.2 h4;by_cases q:e.kind=6\/e.kind=7
   .rcases q with q|q<;>simp[g487,iu,mK,q,h4,hl]
   .have f:¬e.kind=6:=fun z=>q (.inl z);have c:¬e.kind=7:=fun z=>q (.inr z)
    by_cases b:d.gen=[]
    .simp[g487,iu,mK,f,c,h1,h2,h3,h4,hl,b]
    .have a:0<d.gen.length:=za5.2 b;simp[g487,iu,mK,f,c,b,a]
 .rw[xK h];intro l q;cases q
def fk1{env:List En}(i:e.kind=1)(p:Sm env)(hd:d.Sd){c:Sc}(j:jr env e.name=some c)(o:c.ty.Ok)(m:c.ty.Wb)(k:(c.ty.d7 d.inst).Ok):Fk 487 (iu ds home env e d) (aK ds home (n+1) env e d) 1:=by
 by_cases g:(e.kind≠6/\e.kind≠7/\d.gen≠[])\/(e.kind≠1/\e.kind≠2/\e.kind≠8/\d.inst≠[])
 .exact l_ g
 .obtain⟨a,_⟩:=dX g;have a:=a (by omega) (by omega);have f:=c180 p (s:=e.name);have k2:=c504 o m hd k
  have r:aK ds home (n+1) env e d=if jj c d=true then some []else none:=by
   rw[aK,zad g,zai i,j]
  rw[j]at f;rw[r];refine⟨jj c d,[],?_,?_,?_,by simp⟩
  .generalize jj c d=b at*;simp[uU,a]at f k2;rw[aC g487];simp[g487,iu,mK,i,a,f,k2]
  .intro l q;split at q
   .rename_i h;cases q;exact⟨h,rfl⟩
   .cases q
  .intro q;split at q
   .cases q
   .rename_i h;simpa using h
def fk2(D:DtD ds){env:List En}(j:e.kind=2)(hd:d.Sd){c:Sc}(a:dH ds e.name=some c)(o:c.ty.Ok)(m:c.ty.Wb)(k:(c.ty.d7 d.inst).Ok):Fk 487 (iu ds home env e d) (aK ds home (n+1) env e d) 1:=by
 by_cases i:(e.kind≠6/\e.kind≠7/\d.gen≠[])\/(e.kind≠1/\e.kind≠2/\e.kind≠8/\d.inst≠[])
 .exact l_ i
 .obtain⟨f,_⟩:=dX i;have f:=f (by omega) (by omega);have g:=c192 D.sm D.dy D.par (fun d hd c a=>⟨(D.Wo d hd c a).1,(D.Wo d hd c a).2.1⟩) (s:=e.name);have k2:=c504 o m hd k
  have p:aK ds home (n+1) env e d=if jj c d=true then some []else none:=by
   rw[aK,zad i,zad (by omega),zai j,a]
  rw[a]at g;rw[p];refine⟨jj c d,[],?_,?_,?_,by simp⟩
  .generalize jj c d=b at*;simp[uU,f]at g k2;rw[aC g487];simp[g487,iu,mK,j,f,g,k2]
  .intro l q;split at q
   .rename_i h;cases q;exact⟨h,rfl⟩
   .cases q
  .intro q;split at q
   .cases q
   .rename_i h;simpa using h
def fk3{env:List En}(i:e.kind=3)(hd:d.Sd):Fk 487 (iu ds home env e d) (aK ds home (n+1) env e d) 1:=by
 by_cases f:(e.kind≠6/\e.kind≠7/\d.gen≠[])\/(e.kind≠1/\e.kind≠2/\e.kind≠8/\d.inst≠[])
 .exact l_ f
 .obtain⟨c,hi⟩:=dX f;have c:=c (by omega) (by omega);have hi:=hi (by omega) (by omega) (by omega);have g:=c505g;have k2:=c33 (a:=d.ty) (b:=a8) hd.t.ok;rw[wS]at k2
  have j:aK ds home (n+1) env e d=if d.ty=a8 then some []else none:=by
   rw[aK,zad f,zad (by omega),zad (by omega),zai i]
  rw[j];refine⟨decide (d.ty=a8),[],?_,?_,?_,by simp⟩
  .generalize decide (d.ty=a8)=b at*;simp[a8]at g k2;rw[aC g487];simp[g487,iu,mK,i,c,hi,g,k2]
  .intro l q;split at q
   .rename_i h;cases q;simp[h]
   .cases q
  .intro q;split at q
   .cases q
   .rename_i h;simp[h]
def acF{env:List En}(b:e.kind=10)(g:Sm env):Fk 487 (iu ds home env e d) (aK ds home (n+1) env e d) 1:=by
 by_cases c:(e.kind≠6/\e.kind≠7/\d.gen≠[])\/(e.kind≠1/\e.kind≠2/\e.kind≠8/\d.inst≠[])
 .exact l_ c
 .obtain⟨a,hi⟩:=dX c;have a:=a (by omega) (by omega);have hi:=hi (by omega) (by omega) (by omega);have f:=c506g (ds:=ds) (home:=home) g (e:=e) (d:=d)
  have h:aK ds home (n+1) env e d=some [⟨uA home env e d,false⟩]:=by
   rw[aK,zad c];simp[b]
  rw[h];refine⟨true,[⟨uA home env e d,false⟩],?_,?_,?_,by simp⟩
  .generalize uA home env e d=H at*;simp[b,a,hi]at f;rw[aC g487];simp[g487,iu,mK,b,a,hi,f]
  .intro l q;cases q;simp
  .intro q;cases q
def Fk.p{env:List En}(h:Fk 487 (iu ds home env e d) fit N):∃(b:Bool)(a:List Rd),(aE AP).p 487 (iu ds home env e d)=some [.ae (a.map Rd.pv),.bool b]/\(∀l,fit=some l->b=true/\a=l)/\(fit=none->b=false)/\a.length<=N:=by
 obtain⟨b,a,h1,h2,h3,h4⟩:=h;exact⟨b,a,Zj (af:=g487) rfl rfl (by decide) rfl rfl h1 rfl,h2,h3,h4⟩
def Fk.yes{g:Nat}{x:List PV}(h:fit=none->q=false)(a:q=true):∃l,fit=some l:=by
 cases fit with
 |none=>rw[h rfl]at a;cases a
 |some l=>exact⟨l,rfl⟩
def EB:Bool->Ty->List AV
 |true,t=>[.pv (vI t.kind),.pv (.str t.name),.pv (vI t.id),.pv (vI t.home),.pv (.ae (t.args.map Ty.pv))]
 |false,_=>[.pv (vI 0),.pv (.str []),.pv (vI 0),.pv (vI 0),.own [] 1]
def zF:Bool->aH
 |true=>[]
 |false=>[0]
def pB(ds:List Dt)(home:Int):List AV:=[.pv (.ae (ds.map Dt.pv)),.pv (vI home)]
def lD(ds:List Dt)(home:Int)(env envF:List En)(e:Ex)(d:Dv)(q:Bool)(t:Ty)(acc:List Rd)(i:Nat):St:=
 ⟨[(1,.pv (.ae (env.map En.pv))),(4,.au 4 0),(6,.au 6 0),(7,.au 7 0),(12,.pv (.ae (envF.map En.pv))),(18,.au 18 0),(20,.own (acc.map Rd.pv) 0),(164,.pv (.ae (e.kids.map Ex.pv))),(165,.pv (vI e.kids.length)),(166,.pv (vI i))],
   [(4,pB ds home),(6,e.cl),(7,iS d),(18,EB q t)],[],acc.length::zF q⟩
def W8{env:List En}{t:Ty}:cl AP g487L0 (lD ds home env envF e d q t acc e.kids.length)=
   some (.exit 8,⟨[(1,.pv (.ae (env.map En.pv))),(4,.au 4 0),(6,.au 6 0),(7,.au 7 0),(12,.pv (.ae (envF.map En.pv))),(18,.au 18 0),(20,.own (acc.map Rd.pv) 0),(164,.pv (.ae (e.kids.map Ex.pv))),(165,.pv (vI e.kids.length)),(166,.pv (vI e.kids.length)),(167,.pv (.bool false))],[(4,pB ds home),(6,e.cl),(7,iS d),(18,EB q t)],[],acc.length::zF q⟩):=by
 rw[g487L0e];cases q<;>simp[lD,g487B0,pB,iS,EB,zF]
variable{m:List Rd}
def RL{Y:List En}(b:e.kids.length<=1000)(hx:e.kids[n]?=some x)(hy:d.kids[n]?=some y)(h:(aE AP).p 487 (iu ds home envF x y)=some [.ae (m.map Rd.pv),.bool false]):
   cl AP g487L0 (lD ds home Y envF e d q u acc n)=some (.ret,⟨[(8,.dm []),(9,.pv (.bool false))],[],[],acc.length::zF q⟩):=by
 have hi:=(zaa.1 hx).1;have a:=(zaa.1 hy).1;rw[g487L0e];simp[iu,mK]at h;cases q<;>simp(disch:=omega)[-getElem?_pos,lD,g487B0,pB,iS,EB,zF,hx,hy,hi,a,h,aq]
def RM{env:List En}{t:Ty}{i:Nat}(f:e.kids.length<=1000)(g:acc.length<=1000000)(hx:e.kids[i]?=some x)(hy:d.kids[i]?=some y)(hm:m.length<=1000000)(h:(aE AP).p 487 (iu ds home envF x y)=some [.ae (m.map Rd.pv),.bool true]):
   cl AP g487L0 (lD ds home env envF e d q t acc i)=cl AP g487L0 (lD ds home env envF e d q t (acc++m) (i+1)):=by
 have hi:=(zaa.1 hx).1;have a:=(zaa.1 hy).1;have c:(acc.length+m.length)*112<=140737488355328:=by omega
 generalize b:cl AP g487L0 (lD ds home env envF e d q t (acc++m) (i+1))=R;rw[g487L0e]at b⊢;simp[iu,mK]at h;cases q
 .simp[lD,pB,iS,EB,zF]at b;simp(disch:=omega)[-getElem?_pos,lD,g487B0,pB,iS,EB,zF,hx,hy,hi,a,h,c,aq];rw[g487L0e];simp[b]
 .simp[lD,pB,iS,EB,zF]at b;simp(disch:=omega)[-getElem?_pos,lD,g487B0,pB,iS,EB,zF,hx,hy,hi,a,h,c,aq];rw[g487L0e];simp[b]
end Go.Ab.Lw
