import Derived.Test.YtnpbcnjoljebfaaGreatLibC
/- What functions of the given program answer, told of their slim code on the abstract machine. -/
set_option linter.unusedVariables false
set_option linter.defProp false
set_option linter.unusedSimpArgs false
set_option linter.unnecessarySimpa false
set_option maxRecDepth 100000
set_option maxHeartbeats 8000000
namespace Go.Ab
def zcS:=@Int.le_refl
end Go.Ab
namespace Go.Ab.Lw
open Ev
theorem S7{m:Mc}{n:Nat}(I:p8 n m.s)(hn:n<=1000000){e:Ex}{d:Dv}(g:d.inst.length<=200)(hf:∀t∈d.inst,dM n t):∀(k i:Nat),d.inst.length-i=k->i<=d.inst.length->∀b:Bool,∃h:Bool,
   cl AP g467L0 ⟨[(0,.aI 0 0),(4,.au 4 0),(5,.au 5 0),(8,.pv (.bool b)),(9,.pv (vI i))],[(4,e.cl),(5,d.cells.map .pv)],[some (m.cx 0)],[m.rc.length,m.hd.length]⟩=
     some (.exit 0,⟨[(0,.aI 0 0),(4,.au 4 0),(5,.au 5 0),(8,.pv (.bool h)),(9,.pv (vI d.inst.length)),(26,.pv (.bool false))],[(4,e.cl),(5,d.cells.map .pv)],[some (m.cx 0)],[m.rc.length,m.hd.length]⟩)
 |0,i,l,hi,b=>by
  have:i=d.inst.length:=by omega
  subst this;have c:=Ex.aE e;have f:=Dv.aE d;refine⟨b,?_⟩;rw[g467L0e];simp[g467B0,Mc.cx,c,f,Ex.cl]
 |k+1,i,l,hi,b=>by
  have hi:i<d.inst.length:=(by omega);obtain⟨t,hx⟩:=aP hi;have c:=Ex.aE e;have f:=Dv.aE d;obtain⟨r,j,_,_,_⟩:=c355 (by unfold Sm;rw[I.len];omega) I.ok (m:=4000) (by omega) (hf t (aN hx)).ok;obtain⟨h,a⟩:=S7 I hn (e:=e) g hf k (i+1) (by omega) (by omega) (b || decide ((4000:Int)<r));refine⟨h,?_⟩;rw[g467L0e]at a⊢;simp[Mc.cx,c,f,Ex.cl]at a;simp at j;cases b with
  |true=>
   simp at a;simp(disch:=omega)[-getElem?_pos,g467B0,Mc.cx,c,f,Ex.cl,hi,hx,ah];rw[g467L0e];simp[a]
  |false=>
   simp at a;simp(disch:=omega)[-getElem?_pos,g467B0,Mc.cx,c,f,Ex.cl,hi,hx,j,ah];rw[g467L0e];simp[a]
theorem S8{m:Mc}{c:List Ex}(l:c.length<=2000){d:Dv}(hd:d.kids.length<=100000)(f:∀(i:Nat)(x:Ex)(y:Dv),c[i]?=some x->d.kids[i]?=some y->∃(p:Int)(b:Bool),jj 467 [.pv x.pv,.pv y.pv] m [.pv (vI p),.pv (.bool b)] m):∀(k i:Nat),c.length-i=k->i<=c.length->
   (∃p:Int,cl AP g467L1 ⟨[(0,.aI 0 0),(5,.au 5 0),(10,.pv (.aq (c.map Ex.pv))),(11,.pv (vI i))],[(5,d.cells.map .pv)],[some (m.cx 0)],[m.rc.length,m.hd.length]⟩=some (.ret,⟨[(6,.pv (vI p)),(7,.pv (.bool true))],[],[some (m.cx 2)],[m.rc.length+1,m.hd.length+1,m.rc.length,m.hd.length]⟩))∨
   ∃j:Int,cl AP g467L1 ⟨[(0,.aI 0 0),(5,.au 5 0),(10,.pv (.aq (c.map Ex.pv))),(11,.pv (vI i))],[(5,d.cells.map .pv)],[some (m.cx 0)],[m.rc.length,m.hd.length]⟩=some (.exit 2,⟨[(0,.aI 0 0),(5,.au 5 0),(10,.pv (.aq (c.map Ex.pv))),(11,.pv (vI j)),(58,.pv (.bool false))],[(5,d.cells.map .pv)],[some (m.cx 0)],[m.rc.length,m.hd.length]⟩)
 |0,i,h,hi=>by
  have:i=c.length:=by omega
  subst this;have a:=Dv.aE d;refine .inr ⟨c.length,?_⟩;rw[g467L1e];simp[g467B1,Mc.cx,a]
 |k+1,i,h,hi=>by
  have hi:i<c.length:=(by omega);obtain⟨x,hx⟩:=aP hi;have a:=Dv.aE d;by_cases hj:i<d.kids.length
  ·obtain⟨y,hy⟩:=aP hj;obtain⟨p,b,e⟩:=f i x y hx hy;unfold jj at e;simp[Mc.sh,Mc.tk,Mc.cells]at e;cases b with
   |true=>
    refine .inl ⟨p,?_⟩;rw[g467L1e];simp(disch:=omega)[-getElem?_pos,g467B1,Mc.cx,a,hi,hj,hx,hy,e,ah]
   |false=>
    have g:=S8 l hd f k (i+1) (by omega) (by omega)
    have e1:cl AP g467L1 ⟨[(0,.aI 0 0),(5,.au 5 0),(10,.pv (.aq (c.map Ex.pv))),(11,.pv (vI i))],[(5,d.cells.map .pv)],[some (m.cx 0)],[m.rc.length,m.hd.length]⟩=cl AP g467L1 ⟨[(0,.aI 0 0),(5,.au 5 0),(10,.pv (.aq (c.map Ex.pv))),(11,.pv (vI (i+1:Nat)))],[(5,d.cells.map .pv)],[some (m.cx 0)],[m.rc.length,m.hd.length]⟩:=by
     conv=>lhs;rw[g467L1e]
     simp (disch:=omega) [-getElem?_pos,g467B1,Mc.cx,a,hi,hj,hx,hy,e,ah];conv=>lhs;rw[g467L1e]
     conv=>rhs;rw[g467L1e]
     simp
    rw[e1];exact g
  ·refine .inr ⟨i,?_⟩;rw[g467L1e];simp(disch:=omega)[-getElem?_pos,g467B1,Mc.cx,a,hi,hj]
theorem c467{m:Mc}{n:Nat}(I:p8 n m.s)(hn:n<=1000000)(e:Ex):e.Ok->∀{d:Dv},d.Fi n->d.jM<=100000->∃(p:Int)(b:Bool),jj 467 [.pv e.pv,.pv d.pv] m [.pv (vI p),.pv (.bool b)] m:=by
 refine Ex.recC (p:=fun e=>e.Ok->∀{d:Dv},d.Fi n->d.jM<=100000->∃(p:Int)(b:Bool),jj 467 [.pv e.pv,.pv d.pv] m [.pv (vI p),.pv (.bool b)] m) ?_ e;intro e v ok d fi w;have o:=Ex.aE e;have g:=Dv.aE d;have z:=Dv.iT d
 have u:d.kids.length<=100000:=by
  have h1:d.kids.length<=(d.kids.map Dv.jM).sum:=by
   generalize d.kids=l;induction l with
   |nil=>simp
   |cons a r v=>have:=Dv.iT a;simp;omega
  omega
 obtain⟨r,h,_,_,_⟩:=c355 (by unfold Sm;rw[I.len];omega) I.ok (m:=4000) (by omega) fi.t.ok;have q:=c145 ok;obtain⟨b,A⟩:=S7 I hn (e:=e) fi.il fi.i _ 0 rfl (by omega) (decide ((4000:Int)<r))
 have B:=S8 (m:=m) (c:=e.ch) (by rw[Ex.gZ];have:=ok.k;have:=ok.a;omega) (d:=d) u (fun i x y hx hy=>v x (aN hx) (ok.c x (aN hx)) (fi.k y (aN hy)) (by
  have h1:=kr (f:=Dv.jM) (aN hy);omega)) _ 0 rfl (by omega)
 unfold jj;rw[g467L0e]at A;rw[g467L1e]at B;simp[Mc.cx,o,g,Ex.cl]at A;simp[Mc.cx,g]at B;simp at h q;cases b with
 |true=>
  refine⟨e.pos,true,?_⟩;rw[aA g467];simp[g467,Mc.sh,Mc.tk,Mc.cells,h,g467L0e,A,o,g]
 |false=>
  rcases B with⟨p,B⟩|⟨j,B⟩
  ·refine⟨p,true,?_⟩;rw[aA g467];simp[g467,Mc.sh,Mc.tk,Mc.cells,h,g467L0e,A,q,g467L1e,B,o,g]
  ·refine⟨0,false,?_⟩;rw[aA g467];simp[g467,Mc.sh,Mc.tk,Mc.cells,h,g467L0e,A,q,g467L1e,B,o,g]
mutual
def Dv.kB:Dv->List Ty
 |⟨t,i,_,ks⟩=>t::i++Dv.O0 ks
def Dv.O0:List Dv->List Ty
 |[]=>[]
 |d::r=>Dv.kB d++Dv.O0 r
end
theorem Dv.HS:∀l:List Dv,Dv.O0 l=l.flatMap Dv.kB
 |[]=>by simp[Dv.O0]
 |d::r=>by simp[Dv.O0,Dv.HS r]
theorem Dv.O1(d:Dv):d.kB=(d.ty::d.inst)++d.kids.flatMap Dv.kB:=by
 cases d;simp only[Dv.kB,Dv.HS]
theorem Dv.Fi.kB{n:Nat}{d:Dv}(h:d.Fi n):d.kB.length<=201*d.jM∧∀t∈d.kB,dM n t:=by
 induction h with
 | @mk d h1 h2 h3 _ _ e=>
  rw[Dv.O1,Dv.iT];constructor
  ·have key:∀l:List Dv,(∀x∈l,x.kB.length<=201*x.jM)->(l.flatMap Dv.kB).length<=201*(l.map Dv.jM).sum:=by
    intro l;induction l with
    |nil=>simp
    |cons a r c=>
     intro h;have g:=h a (by simp);have f:=c fun x hx=>h x (by simp[hx])
     simp only[zas,zan,zao,zbI];omega
   have:=key d.kids fun x hx=>(e x hx).1;simp only[zan,zax];omega
  ·intro t b;simp only[zai,zah,zam]at b;rcases b with(rfl|b)|⟨x,hx,b⟩
   ·exact h1
   ·exact h2 t b
   ·exact(e x hx).2 t b
theorem Dv.nV{d x:Dv}(hx:x∈d.kids):x.jM<d.jM:=by
 have:=kr (f:=Dv.jM) hx;rw[Dv.iT d];omega
theorem Dv.HT(d:Dv):d.kids.length<d.jM:=by
 rw[Dv.iT d]
 have:d.kids.length<=(d.kids.map Dv.jM).sum:=by
  generalize d.kids=l;induction l with
  |nil=>simp
  |cons a r b=>have:=Dv.iT a;simp;omega
 omega
theorem X9{d:Dv}(g:d.kids.length<=100000)(l:∀x∈d.kids,x.kB.length<=30000000)(hT:d.kB.length<=30000000)(f:∀x∈d.kids,(aC AP).p 469 [x.pv]=some [.aq (x.kB.map Ty.pv)]):∀(k i:Nat),d.kids.length-i=k->i<=d.kids.length->∀acc:List Ty,acc++(d.kids.drop i).flatMap Dv.kB=d.kB->
   cl AP g469L0 ⟨[(1,.au 1 0),(3,.own (acc.map Ty.pv) 0),(4,.pv (vI i))],[(1,d.cells.map .pv)],[],[acc.length]⟩=
     some (.exit 0,⟨[(1,.au 1 0),(3,.own (d.kB.map Ty.pv) 0),(4,.pv (vI d.kids.length)),(15,.pv (.bool false))],[(1,d.cells.map .pv)],[],[d.kB.length]⟩)
 |0,i,hn,hi,acc,a=>by
  have:i=d.kids.length:=by omega
  subst this;have b:=Dv.aE d;rw[za1]at a;simp at a;rw[g469L0e];simp[g469B0,a,b]
 |k+1,i,hn,hi,acc,a=>by
  have hi:i<d.kids.length:=(by omega);obtain⟨x,hx⟩:=aP hi;have b:=Dv.aE d;have e:=f x (aN hx);rw[aV hx,zas,<-zaQ]at a;have c:=X9 g l hT f k (i+1) (by omega) (by omega) (acc++x.kB) a
  have m:acc.length+x.kB.length<=30000000:=by
   have:=zcn List.length a;simp at this;omega
  have j:(acc.length+x.kB.length)*64<=140737488355328:=(by omega);have h:=jw.head x.kB;rw[g469L0e]at c⊢;simp[b]at c;simp at e;simp(disch:=omega)[-getElem?_pos,g469B0,hx,hi,ah,j,e,b,h];rw[g469L0e];simp[c]
theorem c469{n:Nat}{d:Dv}(h:d.Fi n):d.jM<=100000->(aC AP).p 469 [d.pv]=some [.aq (d.kB.map Ty.pv)]:=by
 induction h with
 | @mk d h1 h2 h3 h4 h5 c=>
  intro e;have fi:=Dv.Fi.mk h1 h2 h3 h4 h5;have i:=fi.kB.1;have b:=Dv.aE d;have j:=d.HT;have L:=X9 (d:=d) (by omega) (fun x hx=>by have:=(h5 x hx).kB.1;have:=Dv.nV hx;omega) (by omega) (fun x hx=>c x hx (by have:=Dv.nV hx;omega)) _ 0 rfl (by omega) (d.ty::d.inst) (by rw[zar,Dv.O1]);have g:(1+d.inst.length)*64<=140737488355328:=by omega
  have a:(d.inst.length+1)*64<=140737488355328:=(by omega);have f:=jw.head d.inst;rw[g469L0e]at L;simp[b]at L;rw[az g469];by_cases z:d.inst=[]
  ·simp[z]at L;simp[g469,b,z,g469L0e,L]
  ·simp[g469,b,z,g,a,f,g469L0e,L]
def wz(l:List As):Prop:=∀a∈l,∃k:Int,a.ty=aQ k
theorem O2{l:List Int}{i:Nat}:wz (dv i l):=by
 induction l generalizing i with
 |nil=>intro a h;simp[dv]at h
 |cons v r c=>
  intro a b;simp only[dv,zah]at b;rcases b with rfl|b
  ·exact⟨i,rfl⟩
  ·exact c a b
theorem S9{m:Mc}{v:List Int}{N:List As}(hN:N.length<=2000000){i:Nat}{w:Int}(hw:v[i]?=some w):∀(n k:Nat),N.length-k=n->k<=N.length->∀b:Bool,∃e:Bool,
   cl AP g468L1 ⟨[(7,.pv (.aq (v.map vI))),(8,.own (N.map As.pv) 0),(9,.pv (vI i)),(10,.pv (.bool b)),(11,.pv (vI k))],[],[some (m.cx 1)],[N.length,m.rc.length,m.hd.length]⟩=
     some (.exit 2,⟨[(7,.pv (.aq (v.map vI))),(8,.own (N.map As.pv) 0),(9,.pv (vI i)),(10,.pv (.bool e)),(11,.pv (vI N.length)),(29,.pv (.bool false))],[],[some (m.cx 1)],[N.length,m.rc.length,m.hd.length]⟩)
 |0,k,hn,d,b=>by
  have:k=N.length:=by omega
  subst this;refine⟨b,?_⟩;rw[g468L1e];simp[g468B1,Mc.cx]
 |n+1,k,hn,d,b=>by
  have d:k<N.length:=(by omega);obtain⟨a,f⟩:=aP d;have hi:=(zaa.1 hw).1;obtain⟨e,c⟩:=S9 (m:=m) hN hw n (k+1) (by omega) (by omega) (b || (a.id == w));refine⟨e,?_⟩;rw[g468L1e]at c⊢;cases b with
  |true=>
   simp[Mc.cx]at c;simp(disch:=omega)[-getElem?_pos,g468B1,Mc.cx,d,f,hi,hw,ah];rw[g468L1e];simp[c]
  |false=>
   simp[Mc.cx]at c;simp(disch:=omega)[-getElem?_pos,g468B1,Mc.cx,d,f,hi,hw,ah];rw[g468L1e];simp[c]
theorem O3{m:Mc}{v:List Int}(j:v.length<=1000000):∀(n i:Nat),v.length-i=n->i<=v.length->∀N:List As,N.length<=1000000+i->wz N->∃N':List As,N'.length<=2000000∧wz N' ∧
   cl AP g468L0 ⟨[(7,.pv (.aq (v.map vI))),(8,.own (N.map As.pv) 0),(9,.pv (vI i))],[],[some (m.cx 1)],[N.length,m.rc.length,m.hd.length]⟩=
     some (.exit 0,⟨[(7,.pv (.aq (v.map vI))),(8,.own (N'.map As.pv) 0),(9,.pv (vI v.length)),(23,.pv (.bool false))],[],[some (m.cx 1)],[N'.length,m.rc.length,m.hd.length]⟩)
 |0,i,hn,hi,N,hN,e=>by
  have:i=v.length:=by omega
  subst this;refine⟨N,by omega,e,?_⟩;rw[g468L0e];simp[g468B0,Mc.cx]
 |n+1,i,hn,hi,N,hN,e=>by
  have hi:i<v.length:=(by omega);obtain⟨w,hw⟩:=aP hi;obtain⟨b,L⟩:=S9 (m:=m) (N:=N) (by omega) hw _ 0 rfl (by omega) false;have k:(N.length+1)*72<=140737488355328:=(by omega);have h:=c63 (n:=(N.length:Int));cases b with
  |true=>
   obtain⟨N',g,f,c⟩:=O3 (m:=m) j n (i+1) (by omega) (by omega) N (by omega) e;refine⟨N',g,f,?_⟩;rw[g468L0e]at c⊢;rw[g468L1e]at L;simp[Mc.cx]at c L;simp(disch:=omega)[-getElem?_pos,g468B0,Mc.cx,hi,hw,ah];rw[g468L1e];simp(disch:=omega)[L,ah];rw[g468L0e];simp[c]
  |false=>
   obtain⟨N',g,f,c⟩:=O3 (m:=m) j n (i+1) (by omega) (by omega) (N++[⟨w,aQ N.length⟩]) (by simp;omega) (by
    intro a d;simp only[zai,zaJ]at d;rcases d with d|rfl
    ·exact e a d
    ·exact⟨_,rfl⟩)
   refine⟨N',g,f,?_⟩;rw[g468L0e]at c⊢;rw[g468L1e]at L;simp[Mc.cx,aQ]at c L;simp at h;simp(disch:=omega)[-getElem?_pos,g468B0,Mc.cx,hi,hw,ah];rw[g468L1e];simp(disch:=omega)[-getElem?_pos,L,hi,hw,h,k,ah];rw[g468L0e];simp[c]
theorem c468{m:Mc}{n:Nat}(I:p8 n m.s)(hn:n<=1000000){N:List As}(hN:N.length<=1000000)(h:wz N){l:List Ty}(hl:l.length<=30000000)(hf:∀t∈l,dM n t):
   ∃N':List As,N'.length<=2000000∧wz N'∧(aC AP).i 468 [.aI 0 0,.pv (.aq (N.map As.pv)),.pv (.aq (l.map Ty.pv))] m.sh m.tk=some ([.own (N'.map As.pv) 0],[some (m.cx 1)],[N'.length,m.rc.length,m.hd.length]):=by
 obtain⟨v,a,vC,_⟩:=c372 (s:=m.s) (S:=(oe n).ids) (by rw[I.len];exact hn) I.xj I.ok I.ig (N5 hn).vT (l:=l) (by unfold Sm;omega) (fun t c=>(hf t c).ok) (fun t c=>(hf t c).ig)
 have b:v.length<=1000000:=by
  have:=gv vC.nodup vC.sub;simp[oe,eg]at this;omega
 obtain⟨N',e,d,L⟩:=O3 (m:=m) b _ 0 rfl (by omega) N (by omega) h;refine⟨N',e,d,?_⟩;have g:N.length*72<=140737488355328:=by omega
 have f:=Wm.head N;rw[g468L0e]at L;simp[Mc.cx]at L;simp at a;rw[aA g468];by_cases z:N=[]
 ·subst z;simp at L;simp[g468,Mc.sh,Mc.tk,Mc.cells,Mc.cx,a,g468L0e,L]
 ·simp[g468,Mc.sh,Mc.tk,Mc.cells,Mc.cx,a,g,f,z,g468L0e,L]
theorem X_{N:List As}(hN:N.length<=2000000)(l:wz N){g:List Int}(j:g.length<=1000):∀(n i:Nat),g.length-i=n->i<=g.length->∀acc:List Int,acc.length=i->∃a:List Int,a.length=g.length ∧
   cl AP g480L0 ⟨[(0,.pv (.aq (g.map vI))),(1,.pv (.aq (N.map As.pv))),(5,.own (acc.map vI) 0),(6,.pv (vI i))],[],[],[acc.length]⟩=
     some (.exit 0,⟨[(0,.pv (.aq (g.map vI))),(1,.pv (.aq (N.map As.pv))),(5,.own (a.map vI) 0),(6,.pv (vI g.length)),(10,.pv (.bool false))],[],[],[a.length]⟩)
 |0,i,hn,hi,acc,e=>by
  have:i=g.length:=by omega
  subst this;refine⟨acc,e,?_⟩;rw[g480L0e];simp[g480B0]
 |n+1,i,hn,hi,acc,e=>by
  have hi:i<g.length:=(by omega);obtain⟨w,hw⟩:=aP hi;have d:=c63 (n:=w);have c:=c46 (s:=N) (by unfold Sm;omega) (t:=Ty.mk 1 [] w 0 []) (bQ rfl);obtain⟨a,f,b⟩:=X_ hN l j n (i+1) (by omega) (by omega) (acc++[((Ty.mk 1 [] w 0 []).sub N).id]) (by simp;omega);refine⟨a,f,?_⟩;have k:(acc.length+1)*8<=140737488355328:=(by omega);have h:a7 1 (acc.map vI)=true:=eV.head acc;generalize (Ty.mk 1 [] w 0 []).sub N=u at*;rw[g480L0e]at b⊢;simp at b;simp at d c;simp(disch:=omega)[-getElem?_pos,g480B0,hi,hw,d,c,k,h,ah];rw[g480L0e];simp[b]
theorem c480{N:List As}(hN:N.length<=2000000)(d:wz N){g:List Int}(c:g.length<=1000):∃a:List Int,a.length=g.length∧(aC AP).p 480 [.aq (g.map vI),.aq (N.map As.pv)]=some [.aq (a.map vI)]:=by
 obtain⟨a,b,L⟩:=X_ hN d c _ 0 rfl (by omega) [] rfl;refine⟨a,b,?_⟩;rw[g480L0e]at L;simp at L;rw[az g480];simp[g480,g480L0e,L]
structure Ya(t:Ty):Prop where
 ok:t.Ok
 kn:t.Kn KS
 n:t.nodes.length<=4000
inductive Dv.Fo:Dv->Prop
 |mk {d:Dv}:Ya d.ty->(∀t∈d.inst,Ya t)->d.inst.length<=200->d.gen.length<=1000->d.kids.length<=1000->(∀x∈d.kids,x.Fo)->d.Fo
theorem c333x{m:Mc}{n:Nat}(I:p8 n m.s)(hn:n<=1000000){N:List As}(hN:N.length<=2000000)(l:wz N){t:Ty}(o:dM n t):∃u:Ty,jj 333 [.pv t.pv,.pv (.aq (N.map As.pv))] m [Hu u] m∧Ya u:=by
 have d:Sm m.s.sl:=by unfold Sm;rw[I.len];omega
 obtain⟨u,b,h,hu,c⟩:=c358k d I.ok I.wf ⟨o.ok,o.wf⟩;have g:=c46 (s:=N) (by unfold Sm;omega) hu.1
 have j:∀i x,iH N i=some x->∃k,x=aQ k:=by
  intro i x hx;obtain⟨a,f,rfl⟩:=fJ hx;exact l a f
 refine⟨u.sub N,?_,⟨uW (fun a f=>by obtain⟨k,e⟩:=l a f;rw[e];exact bQ rfl) hu.1,?_,?_⟩⟩
 ·unfold jj;generalize u.sub N=w at*;simp at h g;rw[aA g333];simp[g333,Mc.sh,Mc.tk,Mc.cells,h,g,Hu]
 ·refine qQ (K:=KS) hu.2 (fun k q _=>q) ?_ (.inl (by simp));intro i x hx;obtain⟨k,rfl⟩:=j i x hx;exact qb
 ·refine zaR (zx (fun i x hx=>?_) u) c;obtain⟨k,rfl⟩:=j i x hx;rw[Ty.aM];simp[aQ]
def f7(u:Ty)(us:List Ty)(g:List Int)(ks:List Dv):List AV:=[.pv (vI u.kind),.pv (.str u.name),.pv (vI u.id),.pv (vI u.home),.pv (.aq (u.args.map Ty.pv)),.own (us.map Ty.pv) 4,.pv (.aq (g.map vI)),.own (ks.map Dv.pv) 5]
theorem S_{m:Mc}{n:Nat}(I:p8 n m.s)(hn:n<=1000000){N:List As}(hN:N.length<=2000000)(h:wz N){d:Dv}(e:d.inst.length<=200)(hf:∀t∈d.inst,dM n t){u:Ty}{g:List Int}:∀(k i:Nat),d.inst.length-i=k->i<=d.inst.length->∀acc:List Ty,acc.length=i->(∀t∈acc,Ya t)->∃us:List Ty,us.length=d.inst.length∧(∀t∈us,Ya t)∧
   cl AP g470L0 ⟨[(0,.aI 0 0),(2,.pv (.aq (N.map As.pv))),(4,.au 4 0),(6,.au 6 0),(7,.au 7 0),(8,.pv (vI i))],[(4,d.cells.map .pv),(6,zD 0),(7,f7 u acc g [])],[some (m.cx 6)],[0,0,0,0,acc.length,0,m.rc.length,m.hd.length]⟩=
     some (.exit 0,⟨[(0,.aI 0 0),(2,.pv (.aq (N.map As.pv))),(4,.au 4 0),(6,.au 6 0),(7,.au 7 0),(8,.pv (vI d.inst.length)),(24,.pv (.bool false))],[(4,d.cells.map .pv),(6,zD 0),(7,f7 u us g [])],[some (m.cx 6)],[0,0,0,0,us.length,0,m.rc.length,m.hd.length]⟩)
 |0,i,o,hi,acc,f,hu=>by
  have:i=d.inst.length:=by omega
  subst this;have a:=Dv.aE d;refine⟨acc,f,hu,?_⟩;rw[g470L0e];simp[g470B0,zD,f7,Mc.cx,a]
 |k+1,i,o,hi,acc,f,hu=>by
  have hi:i<d.inst.length:=(by omega);obtain⟨t,hx⟩:=aP hi;have a:=Dv.aE d;obtain⟨w,b,hw⟩:=c333x I hn hN h (hf t (aN hx))
  obtain⟨us,l,j,c⟩:=S_ I hn hN h e hf (u:=u) (g:=g) k (i+1) (by omega) (by omega) (acc++[w]) (by simp;omega) (by
   intro y hy;simp only[zai,zaJ]at hy;rcases hy with hy|rfl
   ·exact hu y hy
   ·exact hw)
  refine⟨us,l,j,?_⟩;have p:(acc.length+1)*64<=140737488355328:=by omega
  unfold jj at b;rw[g470L0e]at c⊢;simp[zD,f7,Mc.cx,a]at c;simp[Mc.sh,Mc.tk,Mc.cells,Hu]at b;simp(disch:=omega)[-getElem?_pos,g470B0,zD,f7,Mc.cx,a,hi,hx,b,p,ah,aS];rw[g470L0e];simp[c]
theorem Ta{m:Mc}{N:List As}{d:Dv}(s:d.kids.length<=1000)(w:∀x∈d.kids,∃(y:Dv)(a b c k:Bool),jj 470 [.pv x.pv,.pv (.aq (N.map As.pv))] m [.agg (iA a b c k y)] m∧y.Fo∧y.jM<=x.jM){u:Ty}{us:List Ty}{g:List Int}:∀(k i:Nat),d.kids.length-i=k->i<=d.kids.length->∀acc:List Dv,acc.length=i->(∀y∈acc,y.Fo)->∃ks:List Dv,ks.length=d.kids.length∧(∀y∈ks,y.Fo)∧(ks.map Dv.jM).sum<=(acc.map Dv.jM).sum+((d.kids.drop i).map Dv.jM).sum ∧
   cl AP g470L1 ⟨[(0,.aI 0 0),(2,.pv (.aq (N.map As.pv))),(4,.au 4 0),(6,.au 6 0),(7,.au 7 0),(9,.pv (vI i))],[(4,d.cells.map .pv),(6,zD 0),(7,f7 u us g acc)],[some (m.cx 6)],[0,0,0,0,us.length,acc.length,m.rc.length,m.hd.length]⟩=
     some (.exit 2,⟨[(0,.aI 0 0),(2,.pv (.aq (N.map As.pv))),(4,.au 4 0),(6,.au 6 0),(7,.au 7 0),(9,.pv (vI d.kids.length)),(44,.pv (.bool false))],[(4,d.cells.map .pv),(6,zD 0),(7,f7 u us g ks)],[some (m.cx 6)],[0,0,0,0,us.length,ks.length,m.rc.length,m.hd.length]⟩)
 |0,i,H,hi,acc,t,hu=>by
  have:i=d.kids.length:=by omega
  subst this;have p:=Dv.aE d;refine⟨acc,t,hu,by omega,?_⟩;rw[g470L1e];simp[g470B1,zD,f7,Mc.cx,p]
 |k+1,i,H,hi,acc,t,hu=>by
  have hi:i<d.kids.length:=(by omega);obtain⟨x,hx⟩:=aP hi;have p:=Dv.aE d;obtain⟨y,f1,f2,f3,v,q,hy,G⟩:=w x (aN hx)
  obtain⟨ks,F,E,B,r⟩:=Ta (m:=m) s w (u:=u) (us:=us) (g:=g) k (i+1) (by omega) (by omega) (acc++[y]) (by simp;omega) (by
   intro z o;simp only[zai,zaJ]at o;rcases o with o|rfl
   ·exact hu z o
   ·exact hy)
  refine⟨ks,F,E,by rw[aV hx];simp at B⊢;omega,?_⟩;have I:(acc.length+1)*136<=140737488355328:=by omega
  have D:=eW f1 f2 f3 v y;generalize iA f1 f2 f3 v y=C at*;have A:=Dv.aE y;have j:=D.len;have e:=D.leaf;have l:=D.ej;have h:=D.flat;have n:=D.oB;have f:=D.kill;unfold jj at q;rw[g470L1e]at r⊢;simp[zD,f7,Mc.cx,p]at r;simp[Mc.sh,Mc.tk,Mc.cells]at q;simp(disch:=omega)[-getElem?_pos,g470B1,zD,f7,Mc.cx,p,hi,hx,q,I,ah,aS,j,e,l,h,n,f,A];rw[g470L1e];simp[r]
theorem c470t{m:Mc}{n:Nat}(I:p8 n m.s)(hn:n<=1000000){N:List As}(hN:N.length<=2000000)(f:wz N){d:Dv}(h:d.Fi n):d.jM<=1000->∃(j:Dv)(a b c k:Bool),jj 470 [.pv d.pv,.pv (.aq (N.map As.pv))] m [.agg (iA a b c k j)] m∧j.Fo∧j.jM<=d.jM:=by
 induction h with
 | @mk d h1 h2 h3 h4 h5 q=>
  intro r;obtain⟨u,e,hu⟩:=c333x I hn hN f h1;obtain⟨i,v,l⟩:=c480 hN f h4;have o:=Dv.aE d;unfold jj at e;simp[Mc.sh,Mc.tk,Mc.cells,Hu]at e
  try simp at l
  have t:=d.HT;obtain⟨us,w,p,A⟩:=S_ I hn hN f h3 h2 (u:=u) (g:=i) _ 0 rfl (by omega) [] rfl (by simp);obtain⟨ks,r1,r2,r3,B⟩:=Ta (m:=m) (N:=N) (d:=d) (by omega) (fun x hx=>q x hx (by have:=Dv.nV hx;omega)) (u:=u) (us:=us) (g:=i) _ 0 rfl (by omega) [] rfl (by simp);refine⟨⟨u,us,i,ks⟩,false,false,false,false,?_,.mk hu p (by simp only;omega) (by simp only;omega) (by simp only;omega) r2,by rw[Dv.iT,Dv.iT d];simpa using r3⟩;rw[g470L0e]at A;rw[g470L1e]at B;simp[zD,f7,Mc.cx,o]at A B;unfold jj;rw[aA g470];simp[g470,Mc.sh,Mc.tk,Mc.cells,e,l,o,g470L0e,A,g470L1e,B,iA,eI]
def YB:Dv:=⟨ca,[],[],[]⟩
theorem c450{ds:List Dt}(hD:ni ds){home:Int}{n:Nat}{env:List En}{e:Ex}(Q:IQ n env e):
   ∃(d:Dv)(F:Int×Int),(aC AP).p 450 [.aq (ds.map Dt.pv),.aq (env.map En.pv),vI home,e.pv]=some [d.pv,.agg [vI F.1,vI F.2]]∧(F.1=0->d.Fo∧d.jM<=1000):=by
 obtain⟨s,h,t,F,K,hF⟩:=c457t hD (home:=home) Q;have V:=c466 (ds:=ds) (home:=home) Q.er Q.fr;have ec:=Ex.aE e;by_cases h0:F.1=0
 ·have h1:=hF h0;have a2:=d6 env;have hl:=Q.er.len;have R:Room ds (m0 ds home) 0 (201*e.sz) e.sz (20*e.sz) (a8 env):=⟨p_ 0,by have:=Q.sz;omega,by have:=Q.sz;simp[m0];omega,by have:=Q.sz;simp[m0];omega,by simp[m0],fun x hx=>Q.si x (cS env x hx),by have:=Q.sz;omega,rfl⟩;obtain⟨d,f1,f2,f3,f4,m,n',P,st,A⟩:=HC hD (H:=False) Q.tx Q.sc.ok (OB Q.hl h1) (fun h=>h.elim) _ _ _ R;have D:=eW f1 f2 f3 f4 d;generalize iA f1 f2 f3 f4 d=C at*;have w:=D.len;have c:=D.leaf;have y:=D.ej;have j:=D.flat;have z:=D.oB;have g:=D.kill;have dc:=Dv.aE d;have hf:∀S:Sh,ej S (.au 17 0)=none:=fun _=>rfl
  have R1:=R.step st (A':=0) (R':=0) (E':=0) (by omega) (by omega) (by omega);have a:=R1.n';have a3:=R1.rc;have a4:=R1.hd;have a5:=A.n;have hZ:=Q.sz;obtain⟨p,b,O⟩:=c467 R1.st a e Q.sc.ok A.f (by omega);have kB:=mJ.kB R1.lI;have W:=mr (l:=m.rc) (fun h M=>(R1.lI h M).len);have a1:(aU m.rc).length<=100000*1000001:=zaR W (zaH _ (by omega))
  obtain⟨v,k6,vC,vV⟩:=c372 (s:=m.s) (S:=(oe n').ids) (by rw[R1.st.len];exact a) R1.st.xj R1.st.ok R1.st.ig (N5 a).vT (l:=d.ty::aU m.rc) (by unfold Sm;simp;omega) (by
   intro t k;simp only[zah]at k;rcases k with rfl|k
   ·exact A.t.ok
   ·exact(kB t k).1) (by
   intro t k;simp only[zah]at k;rcases k with rfl|k
   ·exact A.t.ig
   ·exact(kB t k).2)
  have L:v.length<=1000000:=by
   have:=gv vC.nodup vC.sub;simp[oe,eg]at this;omega
  have k7:=c356 (l:=m.rc) (by omega) fun h M=>(R1.lI h M).len;have U:=c357 (m:=m) L k6
  have k9:=c469 A.f (by omega);obtain⟨N,hN,hA,J⟩:=c468 R1.st a (N:=dv 0 v) (by rw[jg];exact L) O2 (l:=d.kB) (by have:=A.f.kB.1;omega) A.f.kB.2;obtain⟨T,g1,g2,g3,g4,B,X,ab⟩:=c470t R1.st a hN hA A.f (by omega);have D':=eW g1 g2 g3 g4 T;generalize iA g1 g2 g3 g4 T=C' at*;have E:=D'.len;have o:=D'.leaf;have G:=D'.ej;have u:=D'.flat;have I:=D'.oB;have r:=D'.kill;have Y:=Dv.aE T;have tC:C'.take 8=C':=zaw (by omega);unfold jj at P O B;simp[Mc.sh,Mc.tk,Mc.cells,m0,qk]at P;simp[m0,Mc.cx,qk]at V;simp[Mc.sh,Mc.tk,Mc.cells]at O k7 U B;simp[Mc.sh,Mc.tk,Mc.cells,Mc.cx]at U J;simp[h0]at K;simp at k9;have bb:(1+(aU m.rc).length)*64<=140737488355328:=(by omega);have M:=jw.head (aU m.rc);have Z:=jg (i:=0) (l:=v);generalize dv 0 v=N0 at*;cases b with
  |true=>
   refine⟨YB,(15,p),?_,fun q=>by simp at q⟩;rw[az g450];simp[g450,K,h0,V,P,w,c,y,j,z,g,dc,hf,O,YB,ca]
  |false=>
   refine⟨T,(0,0),?_,fun _=>⟨X,by omega⟩⟩;rw[az g450];simp[g450,K,h0,V,P,w,c,y,j,z,g,dc,hf,O];rw[g450L0e];simp[g450B0,k7,bb,M,U,k9,Z,J,B,E,o,G,u,I,r,Y,tC]
 ·refine⟨YB,F,?_,fun q=>absurd q h0⟩;simp at K;rw[az g450];simp[g450,K,h0,YB,ca]
structure wA(B:Nat)(t:Ty):Prop where
 ok:t.Ok
 nm:t.Nm
 n:t.nodes.length<=B
inductive Dv.Ds (B I:Nat):Dv->Prop
 |mk {d:Dv}:wA B d.ty->(∀t∈d.inst,wA B t)->d.inst.length<=I->d.gen.length<=I+1000->d.kids.length<=1000->(∀x∈d.kids,x.Ds B I)->d.Ds B I
theorem Dv.Ds.t{B I:Nat}{d:Dv}(h:d.Ds B I):wA B d.ty:=by cases h;assumption
theorem Dv.Ds.i{B I:Nat}{d:Dv}(h:d.Ds B I):∀t∈d.inst,wA B t:=by cases h;assumption
theorem Dv.Ds.il{B I:Nat}{d:Dv}(h:d.Ds B I):d.inst.length<=I:=by cases h;assumption
theorem Dv.Ds.gl{B I:Nat}{d:Dv}(h:d.Ds B I):d.gen.length<=I+1000:=by cases h;assumption
theorem Dv.Ds.kl{B I:Nat}{d:Dv}(h:d.Ds B I):d.kids.length<=1000:=by cases h;assumption
theorem Dv.Ds.k{B I:Nat}{d:Dv}(h:d.Ds B I):∀x∈d.kids,x.Ds B I:=by cases h;assumption
theorem wA.up{B C:Nat}{t:Ty}(h:wA B t)(a:B<=C):wA C t:=⟨h.ok,h.nm,zaR h.n a⟩
theorem Dv.Ds.up{B C I J:Nat}{d:Dv}(h:d.Ds B I)(a:B<=C)(e:I<=J):d.Ds C J:=by
 induction h with
 |mk h1 h2 h3 h4 h5 _ b=>exact .mk (h1.up a) (fun t c=>(h2 t c).up a) (by omega) (by omega) h5 b
theorem O4{K:Int->Prop}{t:Ty}(h:t.Kn K):t.Nm:=by
 induction h with
 |mk _ hn _ a=>exact .mk (by unfold mE;omega) a
theorem Dv.Fo.ds{d:Dv}(h:d.Fo):d.Ds 4000 200:=by
 induction h with
 |mk h1 h2 h3 h4 h5 _ b=>exact .mk ⟨h1.ok,O4 h1.kn,h1.n⟩ (fun t a=>⟨(h2 t a).ok,O4 (h2 t a).kn,(h2 t a).n⟩) h3 (by omega) h5 b
theorem Dv.Ds.sd{B I:Nat}{d:Dv}(h:d.Ds B I)(c:B<=50000)(e:I<=1000):d.Sd∧d.Bd:=by
 induction h with
 |mk h1 h2 h3 h4 h5 _ b=>exact⟨.mk ⟨h1.ok,h1.nm⟩ (fun t a=>⟨(h2 t a).ok,(h2 t a).nm⟩) (by omega) (by omega) h5 fun x hx=>(b x hx).1,.mk (zaR h1.n c) (fun t a=>zaR (h2 t a).n c) fun x hx=>(b x hx).2⟩
mutual
def Dv.sS:Dv->List Int
 |⟨_,_,g,ks⟩=>g++Dv.O5 ks
def Dv.O5:List Dv->List Int
 |[]=>[]
 |d::r=>Dv.sS d++Dv.O5 r
end
theorem Dv.HU:∀l:List Dv,Dv.O5 l=l.flatMap Dv.sS
 |[]=>by simp[Dv.O5]
 |d::r=>by simp[Dv.O5,Dv.HU r]
theorem Dv.Gn(d:Dv):d.sS=d.gen++d.kids.flatMap Dv.sS:=by
 cases d;simp only[Dv.sS,Dv.HU]
theorem Dv.Ds.sS{B I:Nat}{d:Dv}(h:d.Ds B I):d.sS.length<=(I+1000)*d.jM:=by
 induction h with
 | @mk d _ _ _ h4 _ _ c=>
  rw[Dv.Gn,Dv.iT]
  have key:∀l:List Dv,(∀x∈l,x.sS.length<=(I+1000)*x.jM)->(l.flatMap Dv.sS).length<=(I+1000)*(l.map Dv.jM).sum:=by
   intro l;induction l with
   |nil=>simp
   |cons a r b=>
    intro h;have f:=h a (by simp);have e:=b fun x hx=>h x (by simp[hx])
    simp only[zas,zan,zao,zbI,zbX];omega
  have:=key d.kids c;rw[zan,zbX];omega
theorem Yb{d:Dv}(h:d.kids.length<=100000)(hT:d.sS.length<=30000000)(g:∀x∈d.kids,(aC AP).p 471 [x.pv]=some [.aq (x.sS.map vI)]):∀(k i:Nat),d.kids.length-i=k->i<=d.kids.length->∀acc:List Int,acc++(d.kids.drop i).flatMap Dv.sS=d.sS->
   cl AP g471L0 ⟨[(1,.au 1 0),(3,.own (acc.map vI) 0),(4,.pv (vI i))],[(1,d.cells.map .pv)],[],[acc.length]⟩=
     some (.exit 0,⟨[(1,.au 1 0),(3,.own (d.sS.map vI) 0),(4,.pv (vI d.kids.length)),(12,.pv (.bool false))],[(1,d.cells.map .pv)],[],[d.sS.length]⟩)
 |0,i,hn,hi,acc,a=>by
  have:i=d.kids.length:=by omega
  subst this;have b:=Dv.aE d;rw[za1]at a;simp at a;rw[g471L0e];simp[g471B0,a,b]
 |k+1,i,hn,hi,acc,a=>by
  have hi:i<d.kids.length:=(by omega);obtain⟨x,hx⟩:=aP hi;have b:=Dv.aE d;have f:=g x (aN hx);rw[aV hx,zas,<-zaQ]at a;have c:=Yb h hT g k (i+1) (by omega) (by omega) (acc++x.sS) a
  have m:acc.length+x.sS.length<=30000000:=by
   have:=zcn List.length a;simp at this;omega
  have l:(acc.length+x.sS.length)*8<=140737488355328:=(by omega);have j:a7 1 (x.sS.map vI)=true:=eV.head x.sS;have e:a7 1 (acc.map vI)=true:=eV.head acc;rw[g471L0e]at c⊢;simp[b]at c
  try simp at f
  simp (disch:=omega) [-getElem?_pos,g471B0,hx,hi,ah,l,f,b,j,e];rw[g471L0e];simp[c]
theorem c471{B I:Nat}{d:Dv}(h:d.Ds B I):(I+1000)*d.jM<=20000000->d.jM<=100000->(aC AP).p 471 [d.pv]=some [.aq (d.sS.map vI)]:=by
 induction h with
 | @mk d h1 h2 h3 h4 h5 h6 b=>
  intro i c;have ds:=Dv.Ds.mk h1 h2 h3 h4 h5 h6;have j:=ds.sS;have a:=Dv.aE d
  have L:=Yb (d:=d) (by omega) (by omega) (fun x hx=>b x hx (by
   have:=Dv.nV hx;exact zaR (Nat.mul_le_mul_left _ (by omega)) i) (by have:=Dv.nV hx;omega)) _ 0 rfl (by omega) d.gen (by rw[zar,Dv.Gn])
  have f:d.gen.length<=d.sS.length:=(by rw[Dv.Gn];simp);have g:d.gen.length*8<=140737488355328:=(by omega);have e:a7 1 (d.gen.map vI)=true:=eV.head d.gen;rw[g471L0e]at L;simp[a]at L;rw[az g471];by_cases z:d.gen=[]
  ·simp[z]at L;simp[g471,a,z,g471L0e,L]
  ·simp[g471,a,z,g,e,g471L0e,L]
theorem Yc{s:List As}{b B:Nat}(l:1<=b)(hs:∀a∈s,wA b a.ty){t:Ty}(h:wA B t):wA (B*b) (t.sub s):=by
 have hf:∀i x,iH s i=some x->wA b x:=by
  intro i x hx;obtain⟨a,c,rfl⟩:=fJ hx;exact hs a c
 obtain⟨k,d,hn⟩:=h;refine⟨uW (fun a c=>(hs a c).ok) k,?_,?_⟩
 ·clear k hn
  revert d
  refine Ty.cB (p:=fun t=>t.Nm->(t.sub s).Nm) ?_ t;intro t j d;rw[Ty.sub_eq];split
  ·cases e:iH s t.id with
   |some x=>exact(hf _ x e).nm
   |none=>exact d
  ·refine .mk d.sm ?_;intro x hx;simp only[zat]at hx;obtain⟨a,c,rfl⟩:=hx;exact j a c (d.cY a c)
 ·clear k d;refine zaR ?_ (zaH b hn);refine Ty.cB (p:=fun t=>(t.sub s).nodes.length<=t.nodes.length*b) ?_ t;intro t j;have f:1<=t.nodes.length:=by rw[Ty.aM];simp
  have h2:=zaH b f;rw[Ty.sub_eq];split
  ·cases e:iH s t.id with
   |some x=>
    have:=(hf _ x e).n;rw[zbi];omega
   |none=>
    rw[zbj];exact Nat.le_mul_of_pos_right _ l
  ·rw[Ty.aM,Ty.aM t];simp only[zax,zaZ,zb0]
   have key:∀as:List Ty,(∀x∈as,x∈t.args)->(as.map ((fun y:Ty=>y.nodes.length) ∘ Ty.sub s)).sum<=(as.map fun y:Ty=>y.nodes.length).sum*b:=by
    intro as;induction as with
    |nil=>intro _;simp
    |cons x r g=>
     intro hx;have h1:=j x (hx x (by simp));have h2:=g fun y hy=>hx y (by simp[hy])
     simp only[zao,zbI,Function.comp];rw[zaD];have h3:(r.map fun y=>(Ty.sub s y).nodes.length).sum<=(r.map fun y:Ty=>y.nodes.length).sum*b:=h2;omega
   have h1:=key t.args fun _ h=>h;rw[zaD];have h3:(List.map (fun y=>(Ty.sub s y).nodes.length) t.args).sum<=(t.args.map fun y:Ty=>y.nodes.length).sum*b:=h1
   show (List.map (fun y=>(Ty.sub s y).nodes.length) t.args).sum+1<=_;omega
def f5(u:Ty)(us:List Ty)(g:List Int)(ks:List Dv):List AV:=[.pv (vI u.kind),.pv (.str u.name),.pv (vI u.id),.pv (vI u.home),.pv (.aq (u.args.map Ty.pv)),.own (us.map Ty.pv) 4,.own (g.map vI) 5,.own (ks.map Dv.pv) 6]
theorem Tb{s:List As}(hs:s.length<=1000){b B:Nat}(c:1<=b)(n:∀a∈s,wA b a.ty){d:Dv}(h:d.inst.length<=1000)(hf:∀t∈d.inst,wA B t){u:Ty}{g:List Int}:∀(k i:Nat),d.inst.length-i=k->i<=d.inst.length->∀acc:List Ty,acc.length=i->(∀t∈acc,wA (B*b) t)->∃us:List Ty,us.length=d.inst.length∧(∀t∈us,wA (B*b) t)∧
   cl AP g472L0 ⟨[(0,.pv (.aq (s.map As.pv))),(3,.au 3 0),(4,.au 4 0),(5,.au 5 0),(6,.pv (vI i))],[(3,d.cells.map .pv),(4,zD 0),(5,f5 u acc g [])],[],[0,0,0,0,acc.length,g.length,0]⟩=
     some (.exit 0,⟨[(0,.pv (.aq (s.map As.pv))),(3,.au 3 0),(4,.au 4 0),(5,.au 5 0),(6,.pv (vI d.inst.length)),(20,.pv (.bool false))],[(3,d.cells.map .pv),(4,zD 0),(5,f5 u us g [])],[],[0,0,0,0,us.length,g.length,0]⟩)
 |0,i,q,hi,acc,m,hu=>by
  have:i=d.inst.length:=by omega
  subst this;have e:=Dv.aE d;refine⟨acc,m,hu,?_⟩;rw[g472L0e];simp[g472B0,zD,f5,e]
 |k+1,i,q,hi,acc,m,hu=>by
  have hi:i<d.inst.length:=(by omega);obtain⟨t,hx⟩:=aP hi;have e:=Dv.aE d;have l:=hf t (aN hx);have j:=c46 (s:=s) (by unfold Sm;omega) l.ok
  obtain⟨us,p,o,f⟩:=Tb hs c n h hf (u:=u) (g:=g) k (i+1) (by omega) (by omega) (acc++[t.sub s]) (by simp;omega) (by
   intro y hy;simp only[zai,zaJ]at hy;rcases hy with hy|rfl
   ·exact hu y hy
   ·exact Yc c n l)
  refine⟨us,p,o,?_⟩;have r:(acc.length+1)*64<=140737488355328:=by omega
  generalize t.sub s=w at*;rw[g472L0e]at f⊢;simp[zD,f5,e]at f;simp at j;simp(disch:=omega)[-getElem?_pos,g472B0,zD,f5,e,hi,hx,j,r,ah,aS];rw[g472L0e];simp[f]
theorem Tc{s:List As}{C I:Nat}{d:Dv}(e:d.kids.length<=1000)(j:∀x∈d.kids,∃y:Dv,(aC AP).p 472 [.aq (s.map As.pv),x.pv]=some [y.pv]∧y.Ds C I∧y.jM<=x.jM){u:Ty}{us:List Ty}{g:List Int}:∀(k i:Nat),d.kids.length-i=k->i<=d.kids.length->∀acc:List Dv,acc.length=i->(∀y∈acc,y.Ds C I)->∃ks:List Dv,ks.length=d.kids.length∧(∀y∈ks,y.Ds C I)∧(ks.map Dv.jM).sum<=(acc.map Dv.jM).sum+((d.kids.drop i).map Dv.jM).sum ∧
   cl AP g472L1 ⟨[(0,.pv (.aq (s.map As.pv))),(3,.au 3 0),(4,.au 4 0),(5,.au 5 0),(7,.pv (vI i))],[(3,d.cells.map .pv),(4,zD 0),(5,f5 u us g acc)],[],[0,0,0,0,us.length,g.length,acc.length]⟩=
     some (.exit 2,⟨[(0,.pv (.aq (s.map As.pv))),(3,.au 3 0),(4,.au 4 0),(5,.au 5 0),(7,.pv (vI d.kids.length)),(39,.pv (.bool false))],[(3,d.cells.map .pv),(4,zD 0),(5,f5 u us g ks)],[],[0,0,0,0,us.length,g.length,ks.length]⟩)
 |0,i,q,hi,acc,h,hu=>by
  have:i=d.kids.length:=by omega
  subst this;have b:=Dv.aE d;refine⟨acc,h,hu,by omega,?_⟩;rw[g472L1e];simp[g472B1,zD,f5,b]
 |k+1,i,q,hi,acc,h,hu=>by
  have hi:i<d.kids.length:=(by omega);obtain⟨x,hx⟩:=aP hi;have b:=Dv.aE d;obtain⟨y,f,hy,o⟩:=j x (aN hx)
  obtain⟨ks,n,m,l,c⟩:=Tc (s:=s) e j (u:=u) (us:=us) (g:=g) k (i+1) (by omega) (by omega) (acc++[y]) (by simp;omega) (by
   intro z a;simp only[zai,zaJ]at a;rcases a with a|rfl
   ·exact hu z a
   ·exact hy)
  refine⟨ks,n,m,by rw[aV hx];simp at l⊢;omega,?_⟩;have r:(acc.length+1)*136<=140737488355328:=by omega
  rw[g472L1e]at c⊢;simp[zD,f5,b]at c;simp at f;simp(disch:=omega)[-getElem?_pos,g472B1,zD,f5,b,hi,hx,f,r,ah,aS];rw[g472L1e];simp[c]
theorem c472{s:List As}(hs:s.length<=1000){b B I:Nat}(c:1<=b)(q:I<=1000)(j:∀a∈s,wA b a.ty){d:Dv}(h:d.Ds B I):∃i:Dv,(aC AP).p 472 [.aq (s.map As.pv),d.pv]=some [i.pv]∧i.Ds (B*b) I∧i.jM<=d.jM:=by
 induction h with
 | @mk d h1 h2 h3 h4 h5 h6 l=>
  have f:=Dv.aE d;have e:=c46 (s:=s) (by unfold Sm;omega) h1.ok;have hu:=Yc c j h1;generalize d.ty.sub s=u at*;obtain⟨us,o,k,A⟩:=Tb hs c j (by omega) h2 (u:=u) (g:=d.gen) _ 0 rfl (by omega) [] rfl (by simp);obtain⟨ks,r1,r2,r3,B⟩:=Tc (s:=s) (d:=d) h5 l (u:=u) (us:=us) (g:=d.gen) _ 0 rfl (by omega) [] rfl (by simp);refine⟨⟨u,us,d.gen,ks⟩,?_,.mk hu k (by simp only;omega) h4 (by simp only;omega) r2,by rw[Dv.iT,Dv.iT d];simpa using r3⟩;have n:d.gen.length*8<=140737488355328:=(by omega);have m:a7 1 (d.gen.map vI)=true:=eV.head d.gen;rw[g472L0e]at A;rw[g472L1e]at B;simp[zD,f5,f]at A B;simp at e;rw[az g472];by_cases z:d.gen=[]
  ·simp[z]at A B;simp[g472,e,f,z,g472L0e,A,g472L1e,B]
  ·simp[g472,e,f,z,n,m,g472L0e,A,g472L1e,B]
theorem U4{s:List As}(hs:s.length<=1000){g:List Int}(j:Sm g){d:Dv}:∀(k i:Nat),s.length-i=k->i<=s.length->∀acc:List As,acc.length<=i->(∀a∈acc,a∈s)->∃l:List As,l.length<=s.length∧(∀a∈l,a∈s)∧
   cl AP g451L0 ⟨[(0,.pv (.aq (s.map As.pv))),(3,.au 3 0),(4,.au 4 0),(5,.pv (.aq (g.map vI))),(6,.own (acc.map As.pv) 0),(7,.pv (vI i))],[(3,d.cells.map .pv),(4,zD 1)],[],[acc.length,0,0,0,0]⟩=
     some (.exit 0,⟨[(0,.pv (.aq (s.map As.pv))),(3,.au 3 0),(4,.au 4 0),(5,.pv (.aq (g.map vI))),(6,.own (l.map As.pv) 0),(7,.pv (vI s.length)),(13,.pv (.bool false))],[(3,d.cells.map .pv),(4,zD 1)],[],[l.length,0,0,0,0]⟩)
 |0,i,o,hi,acc,n,hm=>by
  have:i=s.length:=by omega
  subst this;have e:=Dv.aE d;refine⟨acc,n,hm,?_⟩;rw[g451L0e];simp[g451B0,zD,e]
 |k+1,i,o,hi,acc,n,hm=>by
  have hi:i<s.length:=(by omega);obtain⟨a,hx⟩:=aP hi;have e:=Dv.aE d;have c:=c95 j (y:=a.id);have m:(acc.length+1)*72<=140737488355328:=(by omega);by_cases q:a.id∈g
  ·rw[zaG q]at c;obtain⟨l,h,f,b⟩:=U4 hs j (d:=d) k (i+1) (by omega) (by omega) acc (by omega) hm;refine⟨l,h,f,?_⟩;rw[g451L0e]at b⊢;simp[zD,e]at b
   try simp at c
   simp (disch:=omega) [-getElem?_pos,g451B0,zD,e,hi,hx,c,m,ah];rw[g451L0e];simp[b]
  ·rw[zaC q]at c
   obtain⟨l,h,f,b⟩:=U4 hs j (d:=d) k (i+1) (by omega) (by omega) (acc++[a]) (by simp;omega) (by
    intro y hy;simp only[zai,zaJ]at hy;rcases hy with hy|rfl
    ·exact hm y hy
    ·exact aN hx)
   refine⟨l,h,f,?_⟩;rw[g451L0e]at b⊢;simp[zD,e]at b
   try simp at c
   simp (disch:=omega) [-getElem?_pos,g451B0,zD,e,hi,hx,c,m,ah];rw[g451L0e];simp[b]
theorem c451{s:List As}(hs:s.length<=1000){b B I:Nat}(e:1<=b)(o:I<=1000)(q:∀a∈s,wA b a.ty){d:Dv}(h:d.Ds B I)(hn:d.jM<=1000):∃c:Dv,(aC AP).p 451 [.aq (s.map As.pv),d.pv]=some [c.pv]∧c.Ds (B*b) I∧c.jM<=1000:=by
 have j:=Dv.aE d;have hm:(I+1000)*d.jM<=2000*1000:=zcf (by omega) hn;have i:=c471 h (by omega) (by omega);have m:=h.sS;obtain⟨l,t,k,L⟩:=U4 hs (g:=d.sS) (by unfold Sm;omega) (d:=d) _ 0 rfl (by omega) [] (by simp) (by simp);obtain⟨c,f,r1,r2⟩:=c472 (s:=l) (by omega) e o (fun a n=>q a (k a n)) h;refine⟨c,?_,r1,by omega⟩;have r:=Dv.aE c;rw[g451L0e]at L;simp[zD,j]at L;simp at i f;rw[az g451];simp[g451,i,j,g451L0e,L,f]
theorem Rq(t:Ty):∀l:Int,0<l->0<o7 t l->(t.nodes.length:Int)+o7 t l<=l:=by
 refine Ty.cB (p:=fun t=>∀l:Int,0<l->0<o7 t l->(t.nodes.length:Int)+o7 t l<=l) ?_ t;intro t c l h0 hp
 have key:∀(as:List Ty),(∀x∈as,x∈t.args)->∀l:Int,0<=l->0<ve as l->((as.flatMap Ty.nodes).length:Int)+ve as l<=l:=by
  intro as;induction as with
  |nil=>intro _ l h hp;simp[ve]at hp⊢
  |cons a r b=>
   intro hx l h hp;simp only[ve]at hp⊢;split at hp
   ·rename_i q;rw[zak q];have h1:=qM a l q;have h3:0<o7 a l:=by have:=FX r (o7 a l) h1.1;omega
    have h4:=c a (hx a (by simp)) l q h3;have h5:=b (fun y hy=>hx y (by simp[hy])) (o7 a l) h1.1 hp;simp only[zas,zan];omega
   ·omega
 rw[yZ]at hp⊢;have h1:=key t.args (fun _ h=>h) (l-1) (by omega) (by omega);rw[Ty.aM];simp only[zax];omega
theorem Dv.Yd{p:Dv->Prop}(h:∀d,(∀x∈d.kids,p x)->p d)(d:Dv):p d:=by
 generalize hn:d.jM=n;induction n using Nat.strongRecOn generalizing d with
 |ind n a=>exact h d fun x hx=>a x.jM (by have:=Dv.nV hx;omega) x rfl
inductive Dv.Sk:Dv->Prop
 |mk {d:Dv}:d.ty.Ok∧d.ty.nodes.length<=1000->(∀t∈d.inst,t.Ok∧t.nodes.length<=1000)->d.inst.length<=1000->d.gen.length<=20->d.kids.length<=1000->(∀x∈d.kids,x.Sk)->d.Sk
theorem HV{t:Ty}{l:Int}(h0:0<l)(h1:l<=1000)(hp:0<o7 t l):t.Ok∧t.nodes.length<=1000:=⟨Ub t l h0 (by omega) hp,by have:=Rq t l h0 hp;omega⟩
theorem Td{d:Dv}:∀(k i:Nat),d.inst.length-i=k->i<=d.inst.length->∀l:Int,0<=l->l<=1000->i+l<=1000->∃(j l':Int),0<=l'∧l'<=l∧(0<l'->(∀t∈d.inst.drop i,t.Ok∧t.nodes.length<=1000)∧(d.inst.length:Int)+l'<=i+l)∧
   cl AP g465L0 ⟨[(1,.pv (vI l)),(2,.au 2 0),(5,.pv (vI i))],[(2,d.cells.map .pv)],[],[]⟩=some (.exit 0,⟨[(1,.pv (vI l')),(2,.au 2 0),(5,.pv (vI j)),(19,.pv (.bool false))],[(2,d.cells.map .pv)],[],[]⟩)
 |0,i,n,hi,l,h0,h1,h2=>by
  have:i=d.inst.length:=by omega
  subst this;have a:=Dv.aE d;refine⟨d.inst.length,l,h0,zcS _,fun _=>⟨by simp,by omega⟩,?_⟩;rw[g465L0e];simp[g465B0,a]
 |k+1,i,n,hi,l,h0,h1,h2=>by
  have hi:i<d.inst.length:=(by omega);obtain⟨t,hx⟩:=aP hi;have a:=Dv.aE d;by_cases hp:0<l
  ·have f:=c88 t l hp (by omega);have e:=qM t l hp;obtain⟨j,l',m,p,h,b⟩:=Td (d:=d) k (i+1) (by omega) (by omega) (o7 t l) e.1 (by omega) (by omega);refine⟨j,l',m,by omega,?_,?_⟩
   ·intro c;obtain⟨g,o⟩:=h c;refine⟨?_,by omega⟩;rw[aV hx];intro y hy;simp only[zah]at hy;rcases hy with rfl|hy
    ·exact HV hp h1 (by omega)
    ·exact g y hy
   ·rw[g465L0e]at b⊢;simp[a]at b;simp at f;simp(disch:=omega)[-getElem?_pos,g465B0,a,hi,hx,hp,f,ah];rw[g465L0e];simp[b]
  ·refine⟨i,l,h0,zcS _,fun q=>absurd q hp,?_⟩;rw[g465L0e];simp(disch:=omega)[-getElem?_pos,g465B0,a,hi,hp]
theorem Te{d:Dv}(f:∀x∈d.kids,∀l:Int,0<l->l<=1000->∃r:Int,0<=r∧r<=l-1∧(0<r->x.Sk)∧(aC AP).p 465 [x.pv,vI l]=some [vI r]):∀(k i:Nat),d.kids.length-i=k->i<=d.kids.length->∀l:Int,0<=l->l<=1000->i+l<=1000->∃(j l':Int),0<=l'∧l'<=l∧(0<l'->(∀x∈d.kids.drop i,x.Sk)∧(d.kids.length:Int)+l'<=i+l)∧
   cl AP g465L1 ⟨[(1,.pv (vI l)),(2,.au 2 0),(6,.pv (vI i))],[(2,d.cells.map .pv)],[],[]⟩=some (.exit 2,⟨[(1,.pv (vI l')),(2,.au 2 0),(6,.pv (vI j)),(41,.pv (.bool false))],[(2,d.cells.map .pv)],[],[]⟩)
 |0,i,n,hi,l,h0,h1,h2=>by
  have:i=d.kids.length:=by omega
  subst this;have a:=Dv.aE d;refine⟨d.kids.length,l,h0,zcS _,fun _=>⟨by simp,by omega⟩,?_⟩;rw[g465L1e];simp[g465B1,a]
 |k+1,i,n,hi,l,h0,h1,h2=>by
  have hi:i<d.kids.length:=(by omega);obtain⟨x,hx⟩:=aP hi;have a:=Dv.aE d;by_cases hp:0<l
  ·obtain⟨r,r0,r1,r2,e⟩:=f x (aN hx) l hp h1;obtain⟨j,l',m,s,h,b⟩:=Te f k (i+1) (by omega) (by omega) r r0 (by omega) (by omega);refine⟨j,l',m,by omega,?_,?_⟩
   ·intro c;obtain⟨g,o⟩:=h c;refine⟨?_,by omega⟩;rw[aV hx];intro y hy;simp only[zah]at hy;rcases hy with rfl|hy
    ·exact r2 (by omega)
    ·exact g y hy
   ·rw[g465L1e]at b⊢;simp[a]at b;simp at e;simp(disch:=omega)[-getElem?_pos,g465B1,a,hi,hx,hp,e,ah];rw[g465L1e];simp[b]
  ·refine⟨i,l,h0,zcS _,fun q=>absurd q hp,?_⟩;rw[g465L1e];simp(disch:=omega)[-getElem?_pos,g465B1,a,hi,hp]
theorem c465(d:Dv):∀l:Int,0<l->l<=1000->∃r:Int,0<=r∧r<=l-1∧(0<r->d.Sk)∧(aC AP).p 465 [d.pv,vI l]=some [vI r]:=by
 refine Dv.Yd (p:=fun d=>∀l:Int,0<l->l<=1000->∃r:Int,0<=r∧r<=l-1∧(0<r->d.Sk)∧(aC AP).p 465 [d.pv,vI l]=some [vI r]) ?_ d;intro d k l h0 h1;have g:=Dv.aE d;have c:=c88 d.ty l h0 (by omega);have f:=qM d.ty l h0;obtain⟨v,j,o,y,n,A⟩:=Td (d:=d) _ 0 rfl (by omega) (o7 d.ty l) f.1 (by omega) (by omega);obtain⟨u,b,b1,x,m,B⟩:=Te (d:=d) k _ 0 rfl (by omega) j o (by omega) (by omega);rw[g465L0e]at A;rw[g465L1e]at B;simp[g]at A B;simp at c;by_cases w:20<d.gen.length
 ·have a:(20:Int)<d.gen.length:=(by omega);refine⟨0,by omega,by omega,fun q=>absurd q (by omega),?_⟩;rw[az g465];simp[g465,c,g,g465L0e,A,a]
 ·have a:¬(20:Int)<d.gen.length:=(by omega);refine⟨b,b1,by omega,?_,?_⟩
  ·intro hp;obtain⟨h,s⟩:=m hp;obtain⟨i,t⟩:=n (by omega);rw[zar]at i h;exact .mk (HV h0 h1 (by omega)) i (by omega) (by omega) (by omega) h
  ·have e:max b 0=b:=(by omega);rw[az g465];simp[g465,c,g,g465L0e,A,a,g465L1e,B,e]
   try omega
theorem c449(d:Dv):∃b:Bool,(aC AP).p 449 [d.pv,vI 80]=some [.bool b]∧(b=true->d.Sk):=by
 obtain⟨r,r0,r1,r2,a⟩:=c465 d 81 (by omega) (by omega);have c:=Dv.aE d;refine⟨decide (0<r),?_,fun h=>r2 (by simpa using h)⟩;simp at a;rw[az g449];simp[g449,c,a,show IntKind.i64.wrap 81=81 from by decide]
theorem O6{D:Dt->Prop}(hN:∀d,D d->d.name.length<=100){lv:List Ty}(h:∀t∈lv,t.Nm){n:Nat}{t:Ty}(m:iz D lv n t):t.Nm:=by
 induction m with
 |leaf hl=>exact h _ hl
 |int=>exact .mk (by simp[bj,mE]) (by simp[bj])
 |dK hd _ _ c=>exact .mk (by have:=hN _ hd;unfold mE;simp only;omega) c
 |arrow _ _ b a=>exact .mk (by simp[mE]) (by intro x hx;simp at hx;rcases hx with rfl|rfl<;>assumption)
theorem zJ{ds:List Dt}(b:ni ds){lv:List Ty}(h:∀t∈lv,t.args=[]∧t.name=[]){n:Nat}{t:Ty}(m:iz (·∈ds) lv n t):wA (9 ^ n) t:=
 ⟨m.ok (fun d hd=>(bV d (b.all d hd)).1) (fun t a=>(h t a).1),O6 (fun d hd=>(qX d (b.all d hd)).1) (fun t a=>.mk (by rw[(h t a).2];simp[mE]) (by rw[(h t a).1];simp)) m,m.small (fun d hd=>(bV d (b.all d hd)).1) (fun t a=>(h t a).1)⟩
def CM:List Ty:=[aQ 0,aQ 1,aQ 2,aQ 3,s9 (-1) 0]
theorem Rr:∀t∈CM,t.args=[]∧t.name=[]:=by
 intro t a;simp[CM]at a;rcases a with rfl|rfl|rfl|rfl|rfl<;>exact⟨rfl,rfl⟩
theorem U5{L:List Int}{tm:Nat}{TP:Int->Sh}(hT:Tape L tm TP)(u:Sm L){ds:List Dt}(p:ni ds):∀(n k:Nat),3-k=n->k<=3->∀(acc:List As)(i:Nat),acc.length<=k->(∀a∈acc,wA 9 a.ty)->i<=L.length->
   ∃(s:List As)(j:Nat),cl AP g37L0 ⟨[(0,.aI tm 0),(1,.pv (.aq (ds.map Dt.pv))),(2,.pv (vI 3)),(7,.own (acc.map As.pv) 0),(8,.pv (vI k))],[],TP i,[acc.length]⟩=
     some (.exit 0,⟨[(0,.aI tm 0),(1,.pv (.aq (ds.map Dt.pv))),(2,.pv (vI 3)),(7,.own (s.map As.pv) 0),(8,.pv (vI 3)),(11,.pv (.bool false))],[],TP j,[s.length]⟩)∧
     s.length<=3∧(∀a∈s,wA 9 a.ty)∧j<=L.length
 |0,k,hn,y,acc,i,z,hm,hi=>by
  have c:=hT.norm;have:k=3:=(by omega);subst this;refine⟨acc,i,?_,z,hm,hi⟩;rw[g37L0e];simp[c,g37B0]
 |n+1,k,hn,y,acc,i,z,hm,hi=>by
  have c:=hT.norm;have b:=hT.shift;have f:=hT.take;have y:k<3:=(by omega);obtain⟨r,q,e1,r0,r3,o⟩:=vD hT u hi (n:=3) (by omega) (by omega);have l:(k:Int)<3:=(by omega);have D:(acc.length+1)*72<=140737488355328:=(by omega);have C:=p.len;by_cases hr:0<r
  ·obtain⟨t,B,e2,mt,w⟩:=Sy hT u (ds:=ds) (by omega) (fun d hd=>(bV d (p.all d hd)).1) (lv:=CM) (by simp[Sm,CM]) 1 (by omega) q o;have x:=c70_4 (sh:=TP q) (c q);have A:=c71 (n:=-1) (m:=0);have E:=zJ p Rr mt
   obtain⟨s,j,e,v,g,hj⟩:=U5 hT u p n (k+1) (by omega) (by omega) (acc++[⟨k,t⟩]) B (by simp;omega) (by
    intro a h;simp only[zai,zaJ]at h;rcases h with h|rfl
    ·exact hm a h
    ·simpa using E) w
   refine⟨s,j,?_,v,g,hj⟩;rw[g37L0e]at e⊢;simp[c,b,f]at e e1;simp[CM,aQ,s9,c,b,f,Ty.av]at e2 x A;simp(disch:=omega)[c,b,f,-getElem?_pos,g37B0,l,e1,hr,x,A,e2,D,ah];rw[g37L0e];simp[c,b,f,e]
  ·obtain⟨s,j,e,hs,g,hj⟩:=U5 hT u p n (k+1) (by omega) (by omega) acc q (by omega) hm o;refine⟨s,j,?_,hs,g,hj⟩;rw[g37L0e]at e⊢;simp[c,b,f]at e e1;simp(disch:=omega)[c,b,f,-getElem?_pos,g37B0,l,e1,hr,ah];rw[g37L0e];simp[c,b,f,e]
theorem t37{L:List Int}{tm:Nat}{TP:Int->Sh}(hT:Tape L tm TP)(f:Sm L){ds:List Dt}(g:ni ds){i:Nat}(hi:i<=L.length):
   ∃(s:List As)(j:Nat),(aC AP).i 37 [.aI tm 0,.pv (.aq (ds.map Dt.pv)),.pv (vI 3)] (TP i) []=some ([.own (s.map As.pv) 0],TP j,[s.length])∧
     s.length<=3∧(∀a∈s,wA 9 a.ty)∧j<=L.length:=by
 obtain⟨s,j,e,hs⟩:=U5 hT f g 3 0 rfl (by omega) [] i (by simp) (by intro a h;simp at h) hi;have c:=hT.norm;have b:=hT.shift;have d:=hT.take;rw[g37L0e]at e;simp[c,b,d]at e;refine⟨s,j,?_,hs⟩;rw[aA g37];simp[c,b,d,g37,g37L0e,e]
theorem mw:Row Dv.cells 8:=⟨by omega,fun d=>by rw[Dv.aE];rfl⟩
theorem O7{l:List Dv}:((eY (bR Dv.cells l)).bind (gG 8 true l.length)).map PV.aq=some (.aq (l.map Dv.pv)):=y8 mw
theorem U6{l:List Dv}:((l.map Dv.pv).flatMap a9).map AV.pv=bR Dv.cells l:=y9 mw
theorem Tape.more{L:List Int}{tm:Nat}{TP:Int->Sh}(h:Tape L tm TP){X:Sh}(a:aT X):Tape L tm (fun j=>TP j++X) where
 get:=fun i=>by
  have:=h.get i;have hl:=(zaa.1 this).1;rw[zal hl];exact this
 set:=fun i j=>by
  have hl:=(zaa.1 (h.get i)).1;rw[List.set_append_left _ _ hl,h.set]
 quiet:=fun i=>(h.quiet i).app a
theorem c70_2d:(aC AP).p 70 [vI 2]=some [.aq ([aQ 0,aQ 1].map Ty.pv)]:=by
 rw[az g70];have c0:=c63 (n:=0);have c1:=c63 (n:=1);simp at c0 c1;simp(disch:=omega)[-getElem?_pos,g70,g70L0e,g70B0,ah,c0,c1,aQ]
def vS:List Ty:=[aQ 0,aQ 1,aQ 2,s9 2 0]
theorem O8:∀t∈vS,t.args=[]∧t.name=[]:=by
 intro t a;simp[vS]at a;rcases a with rfl|rfl|rfl|rfl<;>exact⟨rfl,rfl⟩
theorem U7{L:List Int}(hL:Sm L){ds:List Dt}(hD:ni ds){B I:Nat}(hB:81<=B)(hI:I<=999)(d:Dv):d.Ds B I->∀{tm:Nat}{TP:Int->Sh},Tape L tm TP->∀{i:Nat},i<=L.length->∃(d':Dv)(a b c k:Bool)(j:Nat),(aC AP).i 452 [.pv d.pv,.aI tm 0,.pv (.aq (ds.map Dt.pv))] (TP i) []=some ([.agg (iA a b c k d')],TP j,[])∧d'.Ds B (I+1)∧j<=L.length:=by
 refine Dv.Yd (p:=fun d=>d.Ds B I->∀{tm:Nat}{TP:Int->Sh},Tape L tm TP->∀{i:Nat},i<=L.length->∃(d':Dv)(a b c k:Bool)(j:Nat),(aC AP).i 452 [.pv d.pv,.aI tm 0,.pv (.aq (ds.map Dt.pv))] (TP i) []=some ([.agg (iA a b c k d')],TP j,[])∧d'.Ds B (I+1)∧j<=L.length) ?_ d;intro d ih h tm TP hT i hi;have A:=hT.norm;have e:=hT.shift;have E:=hT.take;have K:=Dv.aE d;have hk:=h.kl;have cv:=hD.len;have hf:∀S:Sh,ej S (.au 3 0)=none:=fun _=>rfl
 rcases Classical.em (d.kids=[])with z|z
 rotate_left 1
 have b3:0<d.kids.length:=zaP.2 z;have b5:d.kids.length*136<=140737488355328:=by omega
 have hX:aT [some (bR Dv.cells d.kids)]:=aT.one fD;have N:=hT.more hX;have an:∀i aL ts,bl aL ts (TP i++[some (bR Dv.cells d.kids)])=(TP i++[some (bR Dv.cells d.kids)],aL,ts):=N.norm;have a1:∀i n,eP n (TP i++[some (bR Dv.cells d.kids)])=TP i++[some (bR Dv.cells d.kids)]:=N.shift;have ax:∀i j,(TP j++[some (bR Dv.cells d.kids)]).take (TP i++[some (bR Dv.cells d.kids)]).length=TP j++[some (bR Dv.cells d.kids)]:=N.take;have U:=hT.more (X:=[none]) (by intro cs h;simp at h);have ao:∀i aL ts,bl aL ts (TP i++[none])=(TP i++[none],aL,ts):=U.norm;have a2:∀i n,eP n (TP i++[none])=TP i++[none]:=U.shift;have ay:∀i j,(TP j++[none]).take (TP i++[none]).length=TP j++[none]:=U.take;have g:∀a b:Int,(TP a).length=(TP b).length:=fun a b=>by have:=hT.set a b;rw[<-this];simp
 have aO:∀a b:Int,(TP a++[none]).take (TP b).length=TP a:=fun a b=>by rw[g b a];simp
 have a3:=U6 (l:=d.kids);have a4:=O7 (l:=d.kids);have bc:(bR Dv.cells d.kids).length=d.kids.length*8:=gV mw;have be:dE (bR Dv.cells d.kids)=false:=d5 fD;have b7:=N4.head d.kids;obtain⟨r4,j0,e0,p0,p4,b6⟩:=vD N hL hi (n:=4) (by omega) (by omega);by_cases Zb:0<r4
 ·obtain⟨r5,j5,e5,p5,p6,c7⟩:=vD N hL b6 (n:=d.kids.length) (by omega) (by omega);obtain⟨k,rfl,b4⟩:=uT p5 p6;obtain⟨x,hx⟩:=aP b4;obtain⟨y,f1,f2,f3,f4,O,e6,hy,c6⟩:=ih x (aN hx) (h.k x (aN hx)) N c7;have D:=eW f1 f2 f3 f4 y;generalize iA f1 f2 f3 f4 y=C at*;have ac:=D.len;have ad:=D.leaf;have b9:=D.ej;have al:=D.flat;have ba:=D.oB;have ai:=D.kill;have yc:=Dv.aE y;have tC:C.take 8=C:=zaw (by omega);have T:∀j:Int,(TP j++[some (bR Dv.cells d.kids)])[(TP i).length]?=some (some (bR Dv.cells d.kids)):=fun j=>by rw[g i j];simp
  have ab:(TP O++[some (bR Dv.cells d.kids)]).set (TP i).length (some (bR Dv.cells (d.kids.set k y)))=TP O++[some (bR Dv.cells (d.kids.set k y))]:=(by rw[g i O];simp);have ak:(TP O++[some (bR Dv.cells (d.kids.set k y))])[(TP i).length]?=some (some (bR Dv.cells (d.kids.set k y))):=(by rw[g i O];simp);have a5:(TP O++[some (bR Dv.cells (d.kids.set k y))]).set (TP i).length none=TP O++[none]:=(by rw[g i O];simp);have bO:(TP O++[some (bR Dv.cells (d.kids.set k y))]).take (TP i).length=TP O:=(by rw[g i O];simp);have ce:=hT.more (X:=[some (bR Dv.cells (d.kids.set k y))]) (aT.one fD);have bv:∀i aL ts,bl aL ts (TP i++[some (bR Dv.cells (d.kids.set k y))])=(TP i++[some (bR Dv.cells (d.kids.set k y))],aL,ts):=ce.norm;have bb:(bR Dv.cells (d.kids.set k y)).length=d.kids.length*8:=(by rw[gV mw];simp);have R:=O7 (l:=d.kids.set k y)
  have H:=GZ mw hx (y:=y) (o:=0) (vs:=y.cells) (by rw[mw.len];omega) (by
   have h1:=mw.len x;have h2:=mw.len y;simp[h1,h2])
  have b8:=y7 mw hx (o:=0) (k:=8) (by omega);have c5:k*8+8<=d.kids.length*8:=by omega
  have Y:(⟨d.ty,d.inst,d.gen,d.kids.set k y⟩:Dv).Ds B (I+1):=.mk (h.t) h.i (by have:=h.il;simp only;omega) (by have:=h.gl;simp only;omega) (by simpa using hk) (fun w hw=>by
   rcases mem_set hw with rfl|hw
   ·exact hy
   ·exact(h.k w hw).up (zaj _) (by omega))
  refine⟨⟨d.ty,d.inst,d.gen,d.kids.set k y⟩,false,false,false,false,O,?_,Y,c6⟩;have xc:=Dv.aE x;simp at R;simp[xc]at b8;simp[yc]at H
  try simp at e0 e5 e6
  rw[aA g452];simp(disch:=omega)[-getElem?_pos,A,e,E,an,a1,ax,bv,bO,g452,K,z,b3,b5,a3,bc,be,b7,hf,T,e0,e5,e6,Zb,hx,b4,b8,c5,H,ab,a5,aO,ak,bb,R,ac,ad,b9,al,ba,ai,tC,yc,iA,eI]
 have b2:r4=0:=by omega
 subst b2;have T:(TP j0++[some (bR Dv.cells d.kids)])[(TP i).length]?=some (some (bR Dv.cells d.kids)):=by rw[g i j0];simp
 have H:(TP j0++[some (bR Dv.cells d.kids)]).set (TP i).length none=TP j0++[none]:=by rw[g i j0];simp
 obtain⟨r,Q,e1,r0,r7,u⟩:=vD U hL b6 (n:=7) (by omega) (by omega);have Z:=U;have P:=ao;have G:=a2;have V:=ay
 try simp[A,e,E]at e1 e0
 simp at a4;have F:=And.intro z (And.intro an (And.intro a1 (And.intro ax (And.intro ao (And.intro a2 (And.intro ay (And.intro aO (And.intro b3 (And.intro b5 (And.intro a3 (And.intro bc (And.intro be (And.intro b7 (And.intro T (And.intro H (And.intro a4 e0))))))))))))))))
 rotate_left 1
 obtain⟨r,Q,e1,r0,r7,u⟩:=vD hT hL hi (n:=7) (by omega) (by omega);obtain⟨TQ,rfl⟩:∃TQ:Int->Sh,TQ=TP:=⟨TP,rfl⟩;have Z:=hT;have P:=A;have G:=e;have V:=E
 try simp[A,e,E]at e1
 have F:=z
 all_goals (
   have hr:r=0∨r=1∨r=2∨r=3∨r=4∨r=5∨r=6:=(by omega);rcases hr with rfl|rfl|rfl|rfl|rfl|rfl|rfl
   ·obtain⟨t,j2,e2,mt,M⟩:=Sy Z hL (ds:=ds) (by omega) (fun d hd=>(bV d (hD.all d hd)).1) (lv:=vS) (by simp[Sm,vS]) 2 (by omega) Q u;have v:=c70_3 (P Q);have cr:=c71 (n:=2) (m:=0);have am:=zJ hD O8 mt;simp[vS,aQ,s9,P,G,V,Ty.av]at e2 v cr;refine⟨⟨t,d.inst,d.gen,d.kids⟩,false,false,false,false,j2,?_,.mk (am.up (by omega)) h.i (by have:=h.il;simp only;omega) (by have:=h.gl;simp only;omega) hk (fun x hx=>(h.k x hx).up (zaj _) (by omega)),M⟩;rw[aA g452];simp[A,e,E,g452,K,e1,hf,iA,eI,F,v,cr,e2]
   ·have ci:=c34;have bi:(d.inst.length+1)*64<=140737488355328:=by have:=h.il;omega
    have ck:d.inst.length*64<=140737488355328:=by have:=h.il;omega
    have aj:=jw.head d.inst
    refine⟨⟨d.ty,d.inst++[bj],d.gen,d.kids⟩,false,false,false,false,Q,?_,.mk h.t (by
     intro x hx;simp only[zai,zaJ]at hx;rcases hx with hx|rfl
     ·exact h.i x hx
     ·exact⟨bQ rfl,.mk (by simp[bj,mE]) (by simp[bj]),by rw[Ty.aM];simp[bj];omega⟩) (by have:=h.il;simp;omega) (by have:=h.gl;simp only;omega) hk (fun x hx=>(h.k x hx).up (zaj _) (by omega)),u⟩
    simp at ci;rw[aA g452];by_cases zi:d.inst=[]
    ·simp[A,e,E,g452,K,e1,hf,iA,eI,F,ci,zi,bj]
    ·simp[A,e,E,g452,K,e1,hf,iA,eI,F,ci,zi,bi,ck,aj,bj]
   ·by_cases zi:d.inst=[]
    ·refine⟨d,false,false,false,false,Q,?_,h.up (zaj _) (by omega),u⟩;rw[aA g452];simp[A,e,E,g452,K,e1,hf,iA,eI,F,zi]
    ·obtain⟨t,j2,e2,mt,M⟩:=Sy Z hL (ds:=ds) (by omega) (fun d hd=>(bV d (hD.all d hd)).1) (lv:=[aQ 0,aQ 1]) (by simp[Sm]) 1 (by omega) Q u;have v:=c70_2d;have am:=zJ hD (lv:=[aQ 0,aQ 1]) (by intro t ht;simp at ht;rcases ht with rfl|rfl<;>exact⟨rfl,rfl⟩) mt;have cu:=h.il;have J:0<d.inst.length:=zaP.2 zi;have f:(1:Int)<=d.inst.length:=by omega
     have bi:(1+(d.inst.length-1))*64<=140737488355328:=(by omega);have aj:=jw.head d.inst.tail;have W:(List.map Ty.pv d.inst).tail=d.inst.tail.map Ty.pv:=(by simp[List.map_tail]);have s:=NB (sz:=5) (l:=d.inst.map Ty.pv) (k:=.i64) (h:=(1:Int)) (by omega) (by simp;omega) (jw.head _);simp[aQ,P,G,V,Ty.av]at e2 v;simp at s;rw[W]at s
     have Y:(⟨d.ty,t::d.inst.tail,d.gen,d.kids⟩:Dv).Ds B (I+1):=.mk h.t (by
      intro x hx;simp only[zah]at hx;rcases hx with rfl|hx
      ·exact am.up (by omega)
      ·exact h.i x (List.mem_of_mem_tail hx)) (by simp;omega) (by have:=h.gl;simp only;omega) hk (fun x hx=>(h.k x hx).up (zaj _) (by omega))
     by_cases zt:d.inst.tail=[]
     ·refine⟨⟨d.ty,t::d.inst.tail,d.gen,d.kids⟩,false,true,false,false,j2,?_,Y,M⟩;rw[zt]at s;simp at s;rw[aA g452];simp[A,e,E,g452,K,e1,hf,iA,eI,F,zi,J,f,v,e2,s,zt]
     ·refine⟨⟨d.ty,t::d.inst.tail,d.gen,d.kids⟩,false,false,false,false,j2,?_,Y,M⟩;rw[aA g452];have c9:a7 5 (List.map Ty.pv d.inst).tail=true:=by rw[W];exact aj
      have c4:¬(List.map Ty.pv d.inst).tail=[]:=by intro q;rw[W]at q;exact zt (List.map_eq_nil_iff.1 q)
      simp[A,e,E,g452,K,e1,hf,iA,eI,F,zi,J,f,v,e2,bi,s,c9,c4]
   ·obtain⟨w,j2,e2,_,_,M⟩:=vD Z hL u (n:=6) (by omega) (by omega);have cc:=h.gl;have bg:(d.gen.length+1)*8<=140737488355328:=by omega
    have co:d.gen.length*8<=140737488355328:=(by omega);have c8:a7 1 (d.gen.map vI)=true:=eV.head d.gen
    try simp[P,G,V]at e2
    refine⟨⟨d.ty,d.inst,d.gen++[w],d.kids⟩,false,false,false,false,j2,?_,.mk h.t h.i (by have:=h.il;simp only;omega) (by simp;omega) hk (fun x hx=>(h.k x hx).up (zaj _) (by omega)),M⟩;rw[aA g452];by_cases zg:d.gen=[]
    ·simp[A,e,E,g452,K,e1,hf,iA,eI,F,e2,zg]
    ·simp[A,e,E,g452,K,e1,hf,iA,eI,F,e2,zg,bg,co,c8]
   ·by_cases zg:d.gen=[]
    ·refine⟨d,false,false,false,false,Q,?_,h.up (zaj _) (by omega),u⟩;rw[aA g452];simp[A,e,E,g452,K,e1,hf,iA,eI,F,zg]
    ·have cc:=h.gl;have J:0<d.gen.length:=zaP.2 zg;have f:(1:Int)<=d.gen.length:=(by omega);have s:=NB (sz:=1) (l:=d.gen.map vI) (k:=.i64) (h:=(1:Int)) (by omega) (by simp;omega) (eV.head d.gen);simp at s;refine⟨⟨d.ty,d.inst,d.gen.drop 1,d.kids⟩,false,false,false,false,Q,?_,.mk h.t h.i (by have:=h.il;simp only;omega) (by simp;omega) hk (fun x hx=>(h.k x hx).up (zaj _) (by omega)),u⟩;rw[aA g452];simp[A,e,E,g452,K,e1,hf,iA,eI,F,zg,J,f,s]
   ·have cb:=c72 (n:=0);refine⟨⟨aX 0,d.inst,d.gen,d.kids⟩,false,false,false,false,Q,?_,.mk ⟨bQ rfl,.mk (by simp[aX,mE]) (by simp[aX]),by rw[Ty.aM];simp[aX];omega⟩ h.i (by have:=h.il;simp only;omega) (by have:=h.gl;simp only;omega) hk (fun x hx=>(h.k x hx).up (zaj _) (by omega)),u⟩;simp[aX]at cb;rw[aA g452];simp[A,e,E,g452,K,e1,hf,iA,eI,F,cb,aX]
   ·by_cases y:d.kids=[]
    ·refine⟨d,false,false,false,false,Q,?_,h.up (zaj _) (by omega),u⟩;rw[aA g452]
     first|exact absurd y z|simp[A,e,E,g452,K,z,e1,hf,iA,eI]
    ·try exact absurd z y
     all_goals (
       have f:(1:Int)<=d.kids.length:=(by omega);have s:=NB (sz:=8) (l:=d.kids.map Dv.pv) (k:=.i64) (h:=(1:Int)) (by omega) (by simp;omega) (N4.head _);have W:(List.map Dv.pv d.kids).tail=d.kids.tail.map Dv.pv:=(by simp[List.map_tail]);simp at s;refine⟨⟨d.ty,d.inst,d.gen,d.kids.tail⟩,false,false,false,false,Q,?_,.mk h.t h.i (by have:=h.il;simp only;omega) (by have:=h.gl;simp only;omega) (by simp;omega) (fun x hx=>(h.k x (List.mem_of_mem_tail hx)).up (zaj _) (by omega)),u⟩;rw[aA g452];simp[A,e,E,g452,K,e1,hf,iA,eI,F,f,s]))
theorem nW:ca.Nm:=.mk (by simp[ca,mE]) (by simp[ca])
theorem K7{e:Ex}{nm:Bool}{kd:Nat}(h:e.zQ nm kd=true):(nm=true∨e.name=[])∧(e.kind=9∨e.ty=ca):=by
 unfold Ex.zQ at h;simp only[zaf,zbh,zaW]at h;exact⟨h.2.2.2.2.2.2.1,h.2.2.2.2.2.2.2.2.2.2⟩
theorem Ye{e:Ex}(tx:vE e):e.wv=true->e.CV:=by
 have key:∀{e:Ex},e.wv=true->(e.kind=9∨e.ty=ca)∧(e.name=[]∨∃kd,cM e.kind=some (true,kd))∧(∀x∈e.ch,x.wv=true):=by
  intro e h;rw[zq]at h;simp only[zaf,zaq]at h;obtain⟨h1,_,h3⟩:=h;unfold zo at h1;cases g:cM e.kind with
  |none=>rw[g]at h1;cases h1
  |some q=>
   obtain⟨nm,kd⟩:=q;rw[g]at h1;obtain⟨a,b⟩:=K7 h1;refine⟨b,?_,h3⟩;rcases a with a|a
   ·exact .inr ⟨kd,by rw[a]⟩
   ·exact .inl a
 induction tx with
 | @leaf e g h1 h2=>
  intro i;obtain⟨j,c,d⟩:=key i;have m:e.ch=[]:=by rw[Ex.ch,h1,h2];rfl
  have f:mE e.name:=by
   rcases c with c|⟨kd,c⟩
   ·rw[c];simp[mE]
   ·rcases g with⟨_,q⟩|⟨q,_⟩|⟨q,_⟩
    ·unfold mE;omega
    ·rw[q]at c;simp[cM]at c
    ·rw[q]at c;simp[cM]at c
  have o:e.ty=ca:=j.resolve_left (by omega);exact .mk f (by rw[o];exact nW) (by rw[h2];simp) (by rw[m];simp)
 | @lam e a g hn h1 h2 _ n=>
  intro i;obtain⟨j,c,d⟩:=key i;have m:e.ch=[a]:=by rw[Ex.ch,h1,h2];rfl
  exact .mk (by unfold mE;omega) (by rw[j.resolve_left (by omega)];exact nW) (by rw[h2];simp) (by rw[m]at d⊢;intro x hx;simp at hx;subst hx;exact n (d x (by simp)))
 | @app e a b g h1 h2 _ _ l k=>
  intro i;obtain⟨j,c,d⟩:=key i;have m:e.ch=[a,b]:=by rw[Ex.ch,h1,h2];rfl
  have f:e.name=[]:=by
   rcases c with c|⟨kd,c⟩
   ·exact c
   ·rw[g]at c;simp[cM]at c
  exact .mk (by rw[f];simp[mE]) (by rw[j.resolve_left (by omega)];exact nW) (by rw[h2];simp) (by rw[m]at d⊢;intro x hx;simp at hx;rcases hx with rfl|rfl;exact l (d _ (by simp));exact k (d _ (by simp)))
 | @Q0 e a b g hn h1 h2 _ _ l k=>
  intro i;obtain⟨j,c,d⟩:=key i;have m:e.ch=[a,b]:=by rw[Ex.ch,h1,h2];rfl
  exact .mk (by unfold mE;omega) (by rw[j.resolve_left (by omega)];exact nW) (by rw[h2];simp) (by rw[m]at d⊢;intro x hx;simp at hx;rcases hx with rfl|rfl;exact l (d _ (by simp));exact k (d _ (by simp)))
 | @Hq e a g h1 _ _ p _ l k=>
  intro i;obtain⟨j,c,d⟩:=key i
  have f:e.name=[]:=by
   rcases c with c|⟨kd,c⟩
   ·exact c
   ·rw[g]at c;simp[cM]at c
  refine .mk (by rw[f];simp[mE]) (by rw[j.resolve_left (by omega)];exact nW) (fun x hx=>?_) (fun x hx=>?_)
  ·obtain⟨u,t,r⟩:=p x hx;exact⟨by unfold mE;omega,by omega,fun s hs=>by have:=r s hs;unfold mE;omega⟩
  ·have:=d x hx;rw[Ex.ch,h1]at hx;simp at hx;rcases hx with rfl|⟨w,hw,rfl⟩
   ·exact l this
   ·exact k w hw this
 | @Yx e a g h1 h2 o _ _ n=>
  intro i;obtain⟨j,c,d⟩:=key i;have m:e.ch=[a]:=by rw[Ex.ch,h1,h2];rfl
  have f:e.name=[]:=by
   rcases c with c|⟨kd,c⟩
   ·exact c
   ·rw[g]at c;simp[cM]at c
  exact .mk (by rw[f];simp[mE]) (O4 o) (by rw[h2];simp) (by rw[m]at d⊢;intro x hx;simp at hx;subst hx;exact n (d x (by simp)))
 | @held e a g h1 h2 _ n=>
  intro i;obtain⟨j,c,d⟩:=key i;have m:e.ch=[a]:=by rw[Ex.ch,h1,h2];rfl
  have f:e.name=[]:=by
   rcases c with c|⟨kd,c⟩
   ·exact c
   ·rw[g]at c;simp[cM]at c
  exact .mk (by rw[f];simp[mE]) (by rw[j.resolve_left (by omega)];exact nW) (by rw[h2];simp) (by rw[m]at d⊢;intro x hx;simp at hx;subst hx;exact n (d x (by simp)))
theorem Yf:wN 16=625:=by decide
theorem vU.dq{e:Ex}(h:vU 16 e){env:List En}(b:oh env)(hl:env.length<=10){d:Dv}(hs:d.Sd)(a:d.Bd):DQ 16 env e d:=
 ⟨h.tx,h.sc.ok,h.sc.one,Ye h.tx h.vl,h.vl,h.h,by have:=h.w;rw[Yf]at this;omega,hs,a,b,by omega⟩
def js:List En:=[⟨[102],⟨0,ek bj bj⟩⟩,⟨[105,100],⟨1,ek (aX 0) (aX 0)⟩⟩]
theorem qi:∀x∈js,lF x.sc:=by
 intro x hx;simp[js]at hx;rcases hx with rfl|rfl
 ·exact nR (K:=0) rfl (by omega) (by decide +kernel)
 ·exact nR (K:=1) rfl (by omega) (by decide +kernel)
theorem Rs:∀x∈js,x.sc.ty.Vn:=by decide +kernel
theorem Rt:∀x∈js,tD false x.name:=by decide +kernel
theorem U8:∀x∈js,x.sc.ty.nodes.length<=3:=by decide +kernel
theorem Ru:dt js=[]:=by decide +kernel
theorem O9:oh js:=fun x hx=>⟨(qi x hx).ok,(qi x hx).kn.imp NW,by have:=U8 x hx;omega⟩
theorem vU.iq{e:Ex}(h:vU 16 e):IQ 16 js e:=
 ⟨h.tx,h.sc,h.h,by have:=h.w;rw[Yf]at this;omega,by omega,O9.r (by simp[js]),Ru,fun x hx=>(qi x hx).YA⟩
theorem O_{n:Nat}(h:2<=n):Ctx n js:=⟨by simpa[js]using h,qi,Rt,Rs⟩
theorem c448:(aC AP).p 448 []=some [.bool true]:=Fc.T5 (k:=100) (n:=40) (by kernel_rfl)
inductive Dv.VA:Dv->Prop
 |mk {d:Dv}:d.ty.Nm->(∀t∈d.inst,t.Nm)->(∀x∈d.kids,x.VA)->d.VA
theorem Dv.Sk.ds{d:Dv}(h:d.Sk)(hn:d.VA):d.Ds 1000 1000:=by
 induction h with
 |mk h1 h2 h3 h4 h5 _ f=>
  cases hn with
  |mk e c b=>exact .mk ⟨h1.1,e,h1.2⟩ (fun t a=>⟨(h2 t a).1,c t a,(h2 t a).2⟩) h3 (by omega) h5 fun x hx=>f x hx (b x hx)
theorem Pa(f1 f2 f3:Bool)(e:Ex):(jr f1 f2 f3 e).flatMap rV=[]:=by cases f1<;>cases f2<;>cases f3<;>rfl
theorem HW:js.map En.pv=[.agg [.str [102],.int .i64 0,.int .i64 4,.str [45,62],.int .i64 0,.int .i64 0,.aq [.agg [.int .i64 4,.str [73,110,116],.int .i64 0,.int .i64 0,.aq []],.agg [.int .i64 4,.str [73,110,116],.int .i64 0,.int .i64 0,.aq []]]],
   .agg [.str [105,100],.int .i64 1,.int .i64 4,.str [45,62],.int .i64 0,.int .i64 0,.aq [.agg [.int .i64 2,.str [],.int .i64 0,.int .i64 0,.aq []],.agg [.int .i64 2,.str [],.int .i64 0,.int .i64 0,.aq []]]]]:=by
 simp[js,ek,bj,aX]
def Gp(L M:List Int)(a b:Int):Sh:=[some [.pv (.aq (L.map vI)),.pv (vI a)],some [.pv (.aq (M.map vI)),.pv (vI b)]]
theorem U9{L M:List Int}{a b:Int}{ds:List Dt}(f:ni ds){e:Ex}(s:vU 16 e){raw:Dv}{l:List Dv}(hl:l.length<=10)(hs:∀d∈l,d.Sd∧d.Bd):∀(k i:Nat),l.length-i=k->i<=l.length->
   cl AP g443L0 ⟨[(7,.au 7 0),(11,.pv (.aq (ds.map Dt.pv))),(12,.own (js.map En.pv) 0),(13,.au 13 0),(16,.own (l.map Dv.pv) 1),(17,.pv (vI i))],[(7,raw.cells.map .pv),(13,e.cl)],Gp L M a b,[2,l.length]⟩=
     some (.exit 0,⟨[(7,.au 7 0),(11,.pv (.aq (ds.map Dt.pv))),(12,.own (js.map En.pv) 0),(13,.au 13 0),(16,.own (l.map Dv.pv) 1),(17,.pv (vI l.length)),(102,.pv (.bool false))],[(7,raw.cells.map .pv),(13,e.cl)],Gp L M a b,[2,l.length]⟩)
 |0,i,t,hi=>by
  have:i=l.length:=by omega
  subst this;have rc:=Dv.aE raw;have g:=Ex.aE e;have c:(js.map En.pv).length=2:=rfl;generalize js.map En.pv=X at*;rw[g443L0e];simp[g443B0,Gp,rc,g,Ex.cl,c]
 |k+1,i,t,hi=>by
  have hi:i<l.length:=(by omega);obtain⟨d,hx⟩:=aP hi;have rc:=Dv.aE raw;have g:=Ex.aE e;have u:=Dv.aE d;have Q:=s.dq O9 (by simp[js]) (hs d (aN hx)).1 (hs d (aN hx)).2;have p:=c453 f (home:=1) Q;have o:=c454 f (home:=1) Q;have hr:=OZ f (home:=1) Q
  have n:=c455 (l:=(CJ ds 1 16 js e d).1.map Rd.h) (by have:=hr.1;simp;omega) (by
   intro h q;simp only[zat]at q;obtain⟨r,m,rfl⟩:=q;exact hr.2 r m)
  have j:=U9 (L:=L) (M:=M) (a:=a) (b:=b) f s (raw:=raw) hl hs k (i+1) (by omega) (by omega);have c:(js.map En.pv).length=2:=rfl;generalize ((CJ ds 1 16 js e d).1.map Rd.h).map Ho.pv=R at*;generalize (CJ ds 1 16 js e d).2=er at*;generalize js.map En.pv=X at*;rw[g443L0e]at j⊢;simp[Gp,rc,g,Ex.cl,c]at j;simp at p o n;simp(disch:=omega)[-getElem?_pos,g443B0,Gp,rc,g,u,Ex.cl,c,hi,hx,p,o,n,ah];rw[g443L0e];simp[j,c]
theorem U_(bits:Int)(L M:List Int)(raw:Dv)(G:raw.VA):(aC AP).p 443 [vI bits,.aq (L.map vI),.aq (M.map vI),raw.pv]=some [.bool true]:=by
 have m:=c448;have j:=c15 (l:=L);have u:=c15 (l:=M);obtain⟨b,D,hb⟩:=c449 raw;have rc:=Dv.aE raw;rw[az g443];by_cases T:L.length<=60
 ·by_cases hM:M.length<=60
  ·cases b with
   |false=>
    simp[T,hM]at m j u D;simp[g443,m,j,u,D,rc]
   |true=>
    obtain⟨ds,k5,ax,ao⟩:=c32 bits;have c:ni ds:=⟨ax,ao⟩;have C:Sm L:=by unfold Sm;omega
    have z:Sm M:=(by unfold Sm;omega);let TL:Int->Sh:=fun i=>[]++[some [.pv (.aq (L.map vI)),.pv (vI i)]]++[some [.pv (.aq (M.map vI)),.pv (vI 0)]]
    have hT:Tape L 0 TL:=Hn (A:=[]) (by intro cs h;simp at h) (aT.one (by intro v E;simp at E;rcases E with rfl|rfl<;>exact⟨_,rfl⟩));obtain⟨g,j1,e1,mg,ak⟩:=Sy hT C (ds:=ds) (by omega) (fun d hd=>(bV d (c.all d hd)).1) (lv:=[]) (by simp[Sm]) 2 (by omega) 0 (by omega);have gg:bH g:=mq (fun d hd=>(bV d (c.all d hd)).1) (fun d hd=>zu d (c.all d hd)) (fun d hd=>(qX d (c.all d hd)).1) (by simp) mg;have gn:=mg.small (fun d hd=>(bV d (c.all d hd)).1) (by simp);obtain⟨e,f1,f2,f3,j2,e2,R,aj⟩:=c326 hT C c 3 (by omega) j1 js g ak (O_ (by omega)) gg (by omega);obtain⟨d,F,k6,hF⟩:=c450 c (home:=1) R.iq;have f:=kq f1 f2 f3 e;have w:=Pa f1 f2 f3 e;generalize jr f1 f2 f3 e=A at e2 f w;have U:=Ex.aE e;have dc:=Dv.aE d;have tA:A.take 11=A:=zaw (by rw[f.len];omega);have c1:=c34;have c2:=c69 (a:=bj) (b:=bj);have c3:=c176 (t:=ek bj bj);have c4:=c72 (n:=0);have c5:=c69 (a:=aX 0) (b:=aX 0);have hf:∀S:Sh,ej S (.au 13 0)=none:=fun _=>rfl
    simp[T,hM]at m j u D k5;simp[TL,Ty.av]at e1 e2;simp[js,ek,bj,aX]at k6 e2 c2 c3 c5;have o:=((hb rfl).ds G).sd (by omega) (by omega);have Qn:=R.dq (env:=[]) (by intro x hx;simp at hx) (by simp) o.1 o.2;have Z:=c453 c (home:=1) Qn;have Y:=c454 c (home:=1) Qn;generalize ((CJ ds 1 16 [] e raw).1.map Rd.h).map Ho.pv=R0 at*;generalize (CJ ds 1 16 [] e raw).2=b7 at*;simp at Z Y;by_cases h0:F.1=0
    ·obtain⟨an,ai⟩:=hF h0;have q:=an.ds;obtain⟨σ,j3,e3,aO,ad,b5⟩:=t37 hT C c aj;obtain⟨d',k7,ay,_⟩:=c451 (s:=σ) (by omega) (b:=9) (by omega) (by omega) ad q ai;let TM:Int->Sh:=fun k=>[some [.pv (.aq (L.map vI)),.pv (vI j3)]]++[some [.pv (.aq (M.map vI)),.pv (vI k)]]++[]
     have y:Tape M 1 TM:=Hn (A:=[some [.pv (.aq (L.map vI)),.pv (vI j3)]]) (aT.one (by intro v E;simp at E;rcases E with rfl|rfl<;>exact⟨_,rfl⟩)) (by intro cs h;simp at h);obtain⟨Q,a1,a2,a3,a4,i1,u1,ac,am⟩:=U7 z c (B:=4000) (I:=200) (by omega) (by omega) d q y (i:=0) (by omega);obtain⟨P,b1,b2,b3,b4,i2,u2,ab,al⟩:=U7 z c (B:=4000) (I:=200) (by omega) (by omega) d q y am;obtain⟨O,N,K,J,H,i3,u3,a5,b6⟩:=U7 z c (B:=4000) (I:=201) (by omega) (by omega) P ab y al
     have r:=U9 (L:=L) (M:=M) (a:=(j3:Int)) (b:=(i3:Int)) c R (raw:=raw) (l:=[raw,d,d',Q,O]) (by simp) (by
      intro x hx;simp at hx;rcases hx with rfl|rfl|rfl|rfl|rfl
      ·exact o
      ·exact q.sd (by omega) (by omega)
      ·exact ay.sd (by omega) (by omega)
      ·exact ac.sd (by omega) (by omega)
      ·exact a5.sd (by omega) (by omega)) _ 0 rfl (by simp)
     have D1:=eW a1 a2 a3 a4 Q;generalize iA a1 a2 a3 a4 Q=C1 at*;have D2:=eW b1 b2 b3 b4 P;generalize iA b1 b2 b3 b4 P=C2 at*;have D3:=eW N K J H O;generalize iA N K J H O=C3 at*;have b8:=Dv.aE d';have X:=Dv.aE Q;have W:=Dv.aE P;have V:=Dv.aE O;have t1:C1.take 8=C1:=zaw (by rw[D1.len];omega);have t2:C2.take 8=C2:=zaw (by rw[D2.len];omega);have t3:C3.take 8=C3:=zaw (by rw[D3.len];omega);rw[HW]at r;rw[g443L0e]at r;simp[Gp,rc,U,Ex.cl]at r;simp[TL]at e3;simp[TM]at u1 u2 u3;simp at k7;simp[g443,m,j,u,D,k5,rc,c1,c2,c3,c4,c5,e1,e2,k6,h0,f.ej,f.flat,f.oB,f.len,f.leaf,tA,w,U,dc,hf,aS,e3,k7,u1,u2,u3,D1.len,D1.leaf,D1.ej,D1.flat,D1.oB,D1.kill,D2.len,D2.leaf,D2.ej,D2.flat,D2.oB,D2.kill,D3.len,D3.leaf,D3.ej,D3.flat,D3.oB,D3.kill,X,W,V,t1,t2,t3,g443L0e,r,Z,Y]
    ·have r:=U9 (L:=L) (M:=M) (a:=(j2:Int)) (b:=0) c R (raw:=raw) (l:=[raw]) (by simp) (by intro x hx;simp at hx;subst hx;exact o) _ 0 rfl (by simp);rw[HW]at r;rw[g443L0e]at r;simp[Gp,rc,U,Ex.cl]at r;simp[g443,m,j,u,D,k5,rc,c1,c2,c3,c4,c5,e1,e2,k6,h0,f.ej,f.flat,f.oB,f.len,f.leaf,tA,w,U,dc,hf,aS];simp[g443L0e,r,Z,Y]
  ·simp[T,hM]at m j u D;simp[g443,m,j,u]
 ·simp[T]at m j;simp[g443,m,j]
theorem HX{P:Program}{b ts m j a k c:TypeId}{J f1 f2 f3 I H G F E:Field}(hi:P.underlying b=some (.int .i64))(hs:P.underlying ts=some .string)(hl:P.underlying m=some (.slice j))
   (u:P.underlying j=some (.struct #[J,f1,f2,f3,I])) (f:P.underlying a=some (.slice b)) (i:P.underlying c=some (.slice k)) (hd:P.underlying k=some (.struct #[H,G,F,E]))
   (e0:J.type=b) (e1:f1.type=ts) (e2:f2.type=b) (e3:f3.type=b) (e4:I.type=m) (D:H.type=j) (C:G.type=m) (B:F.type=a) (A:E.type=c):
   ∀(n:Nat)(p:PV),m5 P n k p->∃x:Dv,p=x.pv∧x.VA
 |0,p,h=>by simp[m5]at h
 |n+1,p,h=>by
  simp only[m5,hd]at h;obtain⟨ps,rfl,h⟩:=h
  match ps,h with
  |[K,p1,p2,p3],⟨h0,h1,h2,h3,_⟩=>
   rw[D]at h0;rw[C]at h1;rw[B]at h2;rw[A]at h3;obtain⟨t,rfl,s⟩:=y4 hi hs hl u e0 e1 e2 e3 e4 n K h0;obtain⟨g,rfl⟩:=vf f hi h2;cases n with
   |zero=>simp[m5]at h3
   |succ n=>
    simp only[m5,hl]at h1;obtain⟨els,rfl,_,h1⟩:=h1;simp only[m5,i]at h3;obtain⟨e,rfl,_,h3⟩:=h3
    have key:∀els:List PV,(∀q∈els,m5 P n j q)->∃l:List Ty,els=l.map Ty.pv∧∀x∈l,x.Nm:=by
     intro els;induction els with
     |nil=>intro _;exact⟨[],rfl,by simp⟩
     |cons q r o=>
      intro h;obtain⟨x,rfl,hx⟩:=y4 hi hs hl u e0 e1 e2 e3 e4 n q (h q (by simp));obtain⟨l,rfl,hl⟩:=o (fun q v=>h q (by simp[v]));refine⟨x::l,rfl,?_⟩;intro y hy;simp at hy;rcases hy with rfl|hy
      ·exact hx
      ·exact hl y hy
    have d:∀els:List PV,(∀q∈els,m5 P n k q)->∃l:List Dv,els=l.map Dv.pv∧∀x∈l,x.VA:=by
     intro els;induction els with
     |nil=>intro _;exact⟨[],rfl,by simp⟩
     |cons q r o=>
      intro h;obtain⟨x,rfl,hx⟩:=HX hi hs hl u f i hd e0 e1 e2 e3 e4 D C B A n q (h q (by simp));obtain⟨l,rfl,hl⟩:=o (fun q v=>h q (by simp[v]));refine⟨x::l,rfl,?_⟩;intro y hy;simp at hy;rcases hy with rfl|hy
      ·exact hx
      ·exact hl y hy
    obtain⟨l,rfl,w⟩:=key els h1;obtain⟨ks,rfl,z⟩:=d e h3;exact⟨⟨t,l,g,ks⟩,by simp[a9],.mk s w z⟩
 termination_by n=>n
end Go.Ab.Lw
