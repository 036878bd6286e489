import Derived.Test.YtkiihoaaloiffaaGreatDoorLibB
/- What functions of the given program answer, told of their slim code on the abstract machine. -/
set_option linter.defProp false
set_option linter.unusedVariables false
set_option linter.unusedSimpArgs false
set_option linter.unnecessarySimpa false
set_option maxRecDepth 100000
set_option maxHeartbeats 8000000
namespace Go.Ab
def zaX:=@List.length_pos_iff
def zbE:=@Bool.or_eq_false_iff
def zbM:=@List.getElem?_set_self
def zcD:=@Function.comp_def
def zc0:=@Go.Lib.join_cons
end Go.Ab
namespace Go.Ab.Lw
open Ev
structure Tape(L:List Int)(tm:Nat)(TP:Int->Sh):Prop where
 get:∀i,(TP i)[tm]?=some (some [.pv (.aq (L.map vI)),.pv (vI i)])
 set:∀i j,(TP i).set tm (some [.pv (.aq (L.map vI)),.pv (vI j)])=TP j
 quiet:∀i,aG (TP i)
def Tape.norm{L:List Int}{tm:Nat}{TP:Int->Sh}(h:Tape L tm TP):∀i aH ts,bg aH ts (TP i)=(TP i,aH,ts):=fun i=>(h.quiet i).norm
def Tape.shift{L:List Int}{tm:Nat}{TP:Int->Sh}(h:Tape L tm TP):∀i n,dU n (TP i)=TP i:=fun i=>(h.quiet i).shift
def Tape.take{L:List Int}{tm:Nat}{TP:Int->Sh}(h:Tape L tm TP):∀i j,(TP j).take (TP i).length=TP j:=by
 intro i j;refine zaf ?_;rw[<-h.set i j,zaN];exact zas _
def IV{L:List Int}{A B:Sh}(hA:aG A)(a:aG B):Tape L A.length (fun i=>A++[some [.pv (.aq (L.map vI)),.pv (vI i)]]++B) where
 get:=fun i=>by simp
 set:=fun i j=>by simp[List.set_append]
 quiet:=fun i=>(hA.app (aG.one (by intro v hv;simp at hv;rcases hv with rfl|rfl<;>exact⟨_,rfl⟩))).app a
def pR{L:List Int}{tm:Nat}{TP:Int->Sh}(hT:Tape L tm TP)(f:Sm L){i:Nat}(hi:i<=L.length){n:Int}(h1:1<=n)(h2:n<4611686018427387904):
   ∃(r:Int)(j:Nat),(az AP).i 68 [.aV tm 0,.pv (vI n)] (TP i) []=some ([.pv (vI r)],TP j,[])/\0<=r/\r<n/\j<=L.length:=by
 unfold Sm at f;have tn:=hT.norm;have b:=hT.shift;have d:=hT.get;have a:=hT.set;have c:=hT.take;rw[aM g68];by_cases h:i<L.length
 .obtain⟨x,hx⟩:=aQ h;obtain⟨r,e,e1,e2⟩:=c26 (n:=x) h1 h2;refine⟨r,i+1,?_,e1,e2,h⟩;have h':¬L.length<=i:=by omega
  simp (disch:=omega) [-getElem?_pos,g68,h',ae,hx,e,tn,b,d,a,c]
 .have h':L.length<=i:=(by omega);refine⟨0,i,?_,by omega,by omega,hi⟩;simp[-getElem?_pos,g68,h',tn,b,d,a,c]
def MF{L:List Int}{tm:Nat}{TP:Int->Sh}(hT:Tape L tm TP)(d:Sm L){i:Nat}(hi:i<=L.length):∃(s:List UInt8)(j:Nat),(az AP).i 175 [.aV tm 0] (TP i) []=some ([.pv (.str s)],TP j,[])/\s∈varNames/\j<=L.length:=by
 have tn:=hT.norm;have a:=hT.shift;have b:=hT.take;obtain⟨k,j,e,k0,k8,hj⟩:=pR hT d hi (n:=8) (by omega) (by omega);obtain⟨m,rfl,hm⟩:=mY (n:=varNames.length) k0 (by simpa[varNames]using k8);obtain⟨s,hs⟩:=aQ hm;refine⟨s,j,?_,aK hs,hj⟩
 try simp[tn,a,b]at e
 rw[aM g175]
 have c:([PV.str [120],.str [121],.str [122],.str [102],.str [103],.str [118,49],.str [118,50],.str [105,100]]:List PV)[m]?=some (.str s):=by
  have:([PV.str [120],.str [121],.str [122],.str [102],.str [103],.str [118,49],.str [118,50],.str [105,100]]:List PV)=varNames.map PV.str:=rfl;rw[this];simp[tn,a,b,hs]
 simp[tn,a,b,-getElem?_pos,g175,e,c]
def qW(L:List Int)(tm:Nat)(TP:Int->Sh)(ds:List Dt)(lv:List Ty)(dep:Nat):Prop:=∀i:Nat,i<=L.length->∃(t:Ty)(j:Nat),
 (az AP).i 27 [.aV tm 0,.pv (.aq (ds.map Dt.pv)),.pv (.aq (lv.map Ty.pv)),.pv (vI dep)] (TP i) []=some ([t.av],TP j,[])/\gN (·∈ds) lv dep t/\j<=L.length
def ZY{L:List Int}{tm:Nat}{TP:Int->Sh}(hT:Tape L tm TP){ds:List Dt}{lv:List Ty}{dep:Nat}(c:dep<1000)(l:qW L tm TP ds lv dep){d:Dt}(hS:Sm d.params):∀(n k:Nat),d.params.length-k=n->k<=d.params.length->∀(acc:List Ty)(i:Nat),acc.length=k->(∀x∈acc,gN (·∈ds) lv dep x)->i<=L.length->
   ∃(r:List Ty)(j:Nat),cl AP g27L0 ⟨[(0,.aV tm 0),(1,.pv (.aq (ds.map Dt.pv))),(2,.pv (.aq (lv.map Ty.pv))),(3,.pv (vI (dep+1))),(8,.au 8 0),(10,.au 10 0),(11,.own (acc.map Ty.pv) 0),(12,.pv (vI k))],
     [(8,[.pv (vI 0),.pv (.str []),.pv (vI 0),.pv (vI 0),.own [] 1]),(10,[.pv (vI d.pos),.pv (.str d.name),.pv (.aq (d.params.map .str)),.pv (.aq (d.cons.map cd.pv))])],TP i,[acc.length,0]⟩=
     some (.exit 1,⟨[(0,.aV tm 0),(1,.pv (.aq (ds.map Dt.pv))),(2,.pv (.aq (lv.map Ty.pv))),(3,.pv (vI (dep+1))),(8,.au 8 0),(10,.au 10 0),(11,.own (r.map Ty.pv) 0),(12,.pv (vI d.params.length)),(65,.pv (.bool false))],
     [(8,[.pv (vI 0),.pv (.str []),.pv (vI 0),.pv (vI 0),.own [] 1]),(10,[.pv (vI d.pos),.pv (.str d.name),.pv (.aq (d.params.map .str)),.pv (.aq (d.cons.map cd.pv))])],TP j,[r.length,0]⟩)/\
     r.length=d.params.length/\(∀x∈r,gN (·∈ds) lv dep x)/\j<=L.length
 |0,k,hn,g,acc,i,m,hm,hi=>by
  have tn:=hT.norm;have a:=hT.shift;have b:=hT.take;have:k=d.params.length:=(by omega);subst this;refine⟨acc,i,?_,m,hm,hi⟩;rw[g27L0e];simp[tn,a,b,g27B0]
 |n+1,k,hn,g,acc,i,m,hm,hi=>by
  have tn:=hT.norm;have a:=hT.shift;have b:=hT.take;unfold Sm at hS;have g:k<d.params.length:=(by omega);have q:(acc.length+1)*64<=140737488355328:=(by omega);obtain⟨t,j,e,mt,hj⟩:=l i hi
  try simp[tn,a,b]at e
  obtain⟨r,p,o,hr,f,h⟩:=ZY hT c l hS n (k+1) (by omega) (by omega) (acc++[t]) j (by simp;omega) (by
   intro x hx;simp at hx;rcases hx with hx|rfl
   .exact hm x hx
   .exact mt) hj
  try simp[tn,a,b]at o
  refine⟨r,p,?_,hr,f,h⟩;rw[g27L0e];have h1:(dep:Int)+1-1=dep:=by omega
  simp (disch:=omega) [tn,a,b,-getElem?_pos,g27B0,g,ae,h1,e,q];rw[o]
def ZZ{L:List Int}{tm:Nat}{TP:Int->Sh}(hT:Tape L tm TP)(g:Sm L){ds:List Dt}{lv:List Ty}(e:Sm lv):qW L tm TP ds lv 0:=by
 have tn:=hT.norm;have a:=hT.shift;have b:=hT.take;intro i hi;obtain⟨k,j1,e1,k0,k7,d⟩:=pR hT g hi (n:=7) (by omega) (by omega)
 try simp[tn,a,b]at e1
 unfold Sm at e;by_cases h1:k<3
 .by_cases h2:lv=[]
  .subst h2;refine⟨bK,j1,?_,.int,d⟩;have c:=c34
   try simp[tn,a,b]at c
   rw[aM g27];simp[tn,a,b,-getElem?_pos,g27,e1,h1,c,bK]
  .have hp:0<lv.length:=zaX.2 h2;obtain⟨r,j2,e2,r0,r1,f⟩:=pR hT g d (n:=lv.length) (by omega) (by omega);obtain⟨m,rfl,hm⟩:=mY r0 r1;obtain⟨x,hx⟩:=aQ hm
   try simp[tn,a,b]at e2
   refine⟨x,j2,?_,.leaf (aK hx),f⟩;rw[aM g27];simp[tn,a,b,-getElem?_pos,g27,e1,h1,hp,e2,hx]
 .refine⟨bK,j1,?_,.int,d⟩;have c:=c34
  try simp[tn,a,b]at c
  rw[aM g27];simp[tn,a,b,-getElem?_pos,g27,e1,h1,c,bK]
def Z0{L:List Int}{tm:Nat}{TP:Int->Sh}(hT:Tape L tm TP)(F:Sm L){ds:List Dt}(J:ds.length<=20)(E:∀d∈ds,d.params.length<=8){lv:List Ty}(C:Sm lv){dep:Nat}(w:dep<1000)(D:qW L tm TP ds lv dep):qW L tm TP ds lv (dep+1):=by
 have tn:=hT.norm;have e:=hT.shift;have f:=hT.take;intro i hi;obtain⟨k,j1,e1,k0,k7,p⟩:=pR hT F hi (n:=7) (by omega) (by omega)
 try simp[tn,e,f]at e1
 unfold Sm at C;have nv:¬((dep:Int)+1<1):=by omega
 have xE:(dep:Int)+1-1=dep:=by omega
 have g:∀h1:k<3,∀h2:¬lv=[],∃(t:Ty)(j:Nat),(az AP).i 27 [.aV tm 0,.pv (.aq (ds.map Dt.pv)),.pv (.aq (lv.map Ty.pv)),.pv (vI ((dep+1:Nat):Int))] (TP i) []=some ([t.av],TP j,[])/\gN (·∈ds) lv (dep+1) t/\j<=L.length:=by
  intro h1 h2;have hp:0<lv.length:=zaX.2 h2;obtain⟨r,j2,e2,r0,r1,o⟩:=pR hT F p (n:=lv.length) (by omega) (by omega);obtain⟨m,rfl,hm⟩:=mY r0 r1;obtain⟨x,hx⟩:=aQ hm
  try simp[tn,e,f]at e2
  refine⟨x,j2,?_,.leaf (aK hx),o⟩;rw[aM g27];simp[tn,e,f,-getElem?_pos,g27,e1,h1,hp,e2,hx]
 by_cases h1:k<3/\¬lv=[]
 .exact g h1.1 h1.2
 .have G:¬k<3\/lv=[]:=by
   by_cases h:k<3
   .right;by_cases h':lv=[]
    .exact h'
    .exact absurd ⟨h,h'⟩ h1
   .exact .inl h
  by_cases h2:k<4
  .refine⟨bK,j1,?_,.int,p⟩;have c:=c34
   try simp[tn,e,f]at c
   rw[aM g27];rcases G with h|h
   .simp[tn,e,f,-getElem?_pos,g27,e1,h,h2,c,bK]
   .subst h;simp[tn,e,f,-getElem?_pos,g27,e1,h2,c,bK]
  .have h3:¬k<3:=(by omega);by_cases h4:(k=4\/k=5)/\¬ds=[]
   .obtain⟨h4,h5⟩:=h4;have hp:0<ds.length:=zaX.2 h5;obtain⟨r,j2,e2,r0,r1,o⟩:=pR hT F p (n:=ds.length) (by omega) (by omega);obtain⟨m,rfl,hm⟩:=mY r0 r1;obtain⟨d,hx⟩:=aQ hm
    try simp[tn,e,f]at e2
    have v:=aK hx
    have u:Sm d.params:=by
     unfold Sm;have:=E d v;omega
    obtain⟨as,j3,e3,K,B,q⟩:=ZY hT w D u d.params.length 0 rfl (by omega) [] j2 rfl (by simp) o;rw[g27L0e]at e3
    try simp[tn,e,f]at e3
    have A:Sm as:=(by unfold Sm at u⊢;omega);have c:=c62 (s:=d.name) (l:=as) A
    try simp[tn,e,f]at c
    refine⟨⟨4,d.name,0,0,as⟩,j3,?_,.cv v K B,q⟩;rw[aM g27];rcases h4 with rfl|rfl
    .simp[tn,e,f,-getElem?_pos,g27,e1,hp,nv,e2,hx,g27L0e,e3,c]
    .simp[tn,e,f,-getElem?_pos,g27,e1,hp,nv,e2,hx,g27L0e,e3,c]
   .obtain⟨a,j2,z,I,o⟩:=D j1 p;obtain⟨b,j3,y,H,q⟩:=D j2 o
    try simp[tn,e,f]at z y
    have c:=c69 (a:=a) (b:=b)
    try simp[tn,e,f]at c
    refine⟨⟨4,[45,62],0,0,[a,b]⟩,j3,?_,.arrow I H,q⟩;rw[aM g27];by_cases h5:ds=[]
    .subst h5
     try simp[tn,e,f]at z y
     simp (disch:=omega) [tn,e,f,-getElem?_pos,g27,e1,h2,h3,nv,xE,ae,z,y,c]
    .have h6:¬k=4/\¬k=5:=by
      constructor
      .intro h;exact h4 ⟨.inl h,h5⟩
      .intro h;exact h4 ⟨.inr h,h5⟩
     simp (disch:=omega) [tn,e,f,-getElem?_pos,g27,e1,h2,h3,h6.1,h6.2,nv,xE,ae,z,y,c]
def WT{L:List Int}{tm:Nat}{TP:Int->Sh}(hT:Tape L tm TP)(e:Sm L){ds:List Dt}(b:ds.length<=20)(c:∀d∈ds,d.params.length<=8){lv:List Ty}(a:Sm lv):∀dep:Nat,dep<1000->qW L tm TP ds lv dep
 |0,_=>ZZ hT e a
 |dep+1,h=>Z0 hT e b c a (by omega) (WT hT e b c a dep (by omega))
def uw(L:List Int)(tm:Nat)(TP:Int->Sh)(ds:List Dt)(dep:Nat):Prop:=∀i:Nat,i<=L.length->∃(e:Ex)(a fa b:Bool)(j:Nat),
 (az AP).i 247 [.aV tm 0,.pv (.aq (ds.map Dt.pv)),.pv (vI dep)] (TP i) []=some ([.agg (et a fa b e)],TP j,[])/\fC ds dep e/\j<=L.length
def yE{L:List Int}{tm:Nat}{TP:Int->Sh}(hT:Tape L tm TP)(o:Sm L){ds:List Dt}(D:ds.length<=8)(G:∀d∈ds,D8 d){dep:Nat}{i j1:Nat}{k:Int}(f:j1<=L.length)
   (e1:(az AP).i 68 [.aV tm 0,.pv (vI 14)] (TP i) []=some ([.pv (vI k)],TP j1,[])) (k0:0<=k) (y:if dep=0 then True else k<5):
   ∃(e:Ex)(w fa x:Bool)(j:Nat),(az AP).i 247 [.aV tm 0,.pv (.aq (ds.map Dt.pv)),.pv (vI dep)] (TP i) []=some ([.agg (et w fa x e)],TP j,[])/\fC ds dep e/\j<=L.length:=by
 have tn:=hT.norm;have a:=hT.shift;have b:=hT.take
 try simp[tn,a,b]at e1
 obtain⟨r,hr,C,B⟩:∃r:Int,(if dep=0 then k.tmod 5 else k)=r/\0<=r/\r<5:=by
  by_cases h:dep=0
  .refine⟨k.tmod 5,by simp[tn,a,b,h],?_,?_⟩
   .exact Int.tmod_nonneg 5 k0
   .exact Int.tmod_lt_of_pos k (by omega)
  .simp[tn,a,b,h]at y;exact⟨k,by simp[tn,a,b,h],k0,y⟩
 have l:r=0\/r=1\/r=2\/r=3\/r=4:=by omega
 have hd:dep=0/\k.tmod 5=r\/¬((dep:Int)<1)/\k=r:=by
  by_cases h:dep=0
  .simp[tn,a,b,h]at hr;exact .inl ⟨h,hr⟩
  .simp[tn,a,b,h]at hr;exact .inr ⟨by omega,hr⟩
 clear hr
 have g:r=0\/r=1->∃(e:Ex)(w fa x:Bool)(j:Nat),(az AP).i 247 [.aV tm 0,.pv (.aq (ds.map Dt.pv)),.pv (vI dep)] (TP i) []=some ([.agg (et w fa x e)],TP j,[])/\fC ds dep e/\j<=L.length:=by
  intro h;obtain⟨s,j,e2,hs,hj⟩:=MF hT o f
  try simp[tn,a,b]at e2
  refine⟨⟨1,0,s,0,[],[],bF⟩,true,true,true,j,?_,.var hs,hj⟩;rw[aM g247];rcases h with rfl|rfl<;>rcases hd with⟨rfl,h2⟩|⟨h1,rfl⟩
  .simp[tn,a,b,g247,e1,h2,e2,et,ic,bF]
  .simp[tn,a,b,g247,e1,h1,e2,et,ic,bF]
  .simp[tn,a,b,g247,e1,h2,e2,et,ic,bF]
  .simp[tn,a,b,g247,e1,h1,e2,et,ic,bF]
 rcases l with rfl|rfl|rfl|rfl|rfl
 .exact g (.inl rfl)
 .exact g (.inr rfl)
 .obtain⟨m,j,e2,m0,A,hj⟩:=pR hT o f (n:=4) (by omega) (by omega)
  try simp[tn,a,b]at e2
  refine⟨⟨3,0,[],m,[],[],bF⟩,true,true,true,j,?_,.int m0 A,hj⟩;rw[aM g247];rcases hd with⟨rfl,h2⟩|⟨h1,rfl⟩
  .simp[tn,a,b,g247,e1,h2,e2,et,ic,bF]
  .simp[tn,a,b,g247,e1,h1,e2,et,ic,bF]
 .by_cases h0:ds=[]
  .subst h0;refine⟨⟨2,0,[71,111,110,101],0,[],[],bF⟩,true,true,true,j1,?_,.gone,f⟩;rw[aM g247];rcases hd with⟨rfl,h2⟩|⟨h1,rfl⟩
   .simp[tn,a,b,g247,e1,h2,et,ic,bF]
   .simp[tn,a,b,g247,e1,h1,et,ic,bF]
  .have hp:0<ds.length:=zaX.2 h0;obtain⟨n,j2,e2,n0,z,v⟩:=pR hT o f (n:=ds.length) (by omega) (by omega);obtain⟨m,rfl,hm⟩:=mY n0 z;obtain⟨d,hx⟩:=aQ hm;obtain⟨_,F,E,_⟩:=G d (aK hx);obtain⟨n',j3,e3,q,p,u⟩:=pR hT o v (n:=d.cons.length) (by omega) (by omega);obtain⟨m',rfl,t⟩:=mY q p;obtain⟨c,hy⟩:=aQ t
   try simp[tn,a,b]at e2 e3
   refine⟨⟨2,0,c.name,0,[],[],bF⟩,true,true,true,j3,?_,.cv (aK hx) (aK hy),u⟩;rw[aM g247];rcases hd with⟨rfl,h2⟩|⟨h1,rfl⟩
   .simp[tn,a,b,-getElem?_pos,g247,e1,h2,e2,e3,hp,hx,hy,et,ic,bF]
   .simp[tn,a,b,-getElem?_pos,g247,e1,h1,e2,e3,hp,hx,hy,et,ic,bF]
 .refine⟨⟨10,0,[],0,[],[],bF⟩,true,true,true,j1,?_,.hole,f⟩;rw[aM g247];rcases hd with⟨rfl,h2⟩|⟨h1,rfl⟩
  .simp[tn,a,b,g247,e1,h2,et,ic,bF]
  .simp[tn,a,b,g247,e1,h1,et,ic,bF]
def MG{L:List Int}{tm:Nat}{TP:Int->Sh}(hT:Tape L tm TP)(E:Sm L){ds:List Dt}(O:ds.length<=8)(P:∀d∈ds,D8 d){dep:Nat}(K:dep<1000)(w:uw L tm TP ds dep){i j1:Nat}{k:Int}(o:j1<=L.length)
   (e1:(az AP).i 68 [.aV tm 0,.pv (vI 14)] (TP i) []=some ([.pv (vI k)],TP j1,[])) (k5:5<=k) (M:k<=12):
   ∃(e:Ex)(x fa y:Bool)(j:Nat),(az AP).i 247 [.aV tm 0,.pv (.aq (ds.map Dt.pv)),.pv (vI (dep+1:Nat))] (TP i) []=some ([.agg (et x fa y e)],TP j,[])/\fC ds (dep+1) e/\j<=L.length:=by
 have tn:=hT.norm;have c:=hT.shift;have m:=hT.take
 try simp[tn,c,m]at e1
 have h1:¬((dep:Int)+1<1):=by omega
 have h2:(dep:Int)+1-1=dep:=by omega
 have hc:k=5\/k=6\/k=7\/k=8\/k=9\/k=10\/k=11\/k=12:=by omega
 have v:k=5\/k=6->∃(e:Ex)(x fa y:Bool)(j:Nat),(az AP).i 247 [.aV tm 0,.pv (.aq (ds.map Dt.pv)),.pv (vI (dep+1:Nat))] (TP i) []=some ([.agg (et x fa y e)],TP j,[])/\fC ds (dep+1) e/\j<=L.length:=by
  intro h;obtain⟨s,j2,e2,hs,f⟩:=MF hT E o;obtain⟨a,f1,f2,f3,j3,e3,q,g⟩:=w j2 f;have hA:=d3 f1 f2 f3 a;generalize et f1 f2 f3 a=A at e3 hA
  try simp[tn,c,m]at e2 e3
  refine⟨⟨4,0,s,0,[a],[],bF⟩,true,true,true,j3,?_,.lam hs q,g⟩;rw[aM g247];have u:=Ex.aX a;rcases h with rfl|rfl<;>simp(disch:=omega)[tn,c,m,g247,e1,h1,h2,ae,e2,e3,hA.gr,hA.flat,hA.tV,hA.len,hA.leaf,u,et,ic,bF]
 have p:k=7\/k=8\/k=9->∃(e:Ex)(x fa y:Bool)(j:Nat),(az AP).i 247 [.aV tm 0,.pv (.aq (ds.map Dt.pv)),.pv (vI (dep+1:Nat))] (TP i) []=some ([.agg (et x fa y e)],TP j,[])/\fC ds (dep+1) e/\j<=L.length:=by
  intro h;obtain⟨a,f1,f2,f3,j2,e2,q,f⟩:=w j1 o;obtain⟨b,D,C,z,j3,e3,I,g⟩:=w j2 f;have hA:=d3 f1 f2 f3 a;generalize et f1 f2 f3 a=A at e2 hA;have l:=d3 D C z b;generalize et D C z b=B at e3 l
  try simp[tn,c,m]at e2 e3
  refine⟨⟨5,0,[],0,[a,b],[],bF⟩,true,true,true,j3,?_,.app q I,g⟩;rw[aM g247];have u:=Ex.aX a;have J:=Ex.aX b;have F:A.take 11=A:=zaf (by rw[hA.len];omega);rcases h with rfl|rfl|rfl<;>simp(disch:=omega)[tn,c,m,g247,e1,h1,h2,ae,e2,e3,hA.gr,hA.flat,hA.tV,hA.len,hA.leaf,l.gr,l.flat,l.tV,l.len,l.leaf,F,u,J,aU,et,ic,bF]
 rcases hc with h|h|h|h|h|rfl|rfl|rfl
 .exact v (.inl h)
 .exact v (.inr h)
 .exact p (.inl h)
 .exact p (.inr (.inl h))
 .exact p (.inr (.inr h))
 .obtain⟨r,j2,e2,r0,r1,f⟩:=pR hT E o (n:=2) (by omega) (by omega);obtain⟨s,j3,e3,hs,g⟩:=MF hT E f;obtain⟨a,f1,f2,f3,j4,e4,q,H⟩:=w j3 g;obtain⟨b,D,C,z,j5,e5,I,G⟩:=w j4 H;have hA:=d3 f1 f2 f3 a;generalize et f1 f2 f3 a=A at e4 hA;have l:=d3 D C z b;generalize et D C z b=B at e5 l
  try simp[tn,c,m]at e2 e3 e4 e5
  have u:=Ex.aX a;have J:=Ex.aX b;have F:A.take 11=A:=zaf (by rw[hA.len];omega);have N:6+r=6\/6+r=7:=(by omega);refine⟨⟨6+r,0,s,0,[a,b],[],bF⟩,true,true,true,j5,?_,.rY N hs q I,G⟩;rw[aM g247];simp(disch:=omega)[tn,c,m,g247,e1,h1,h2,ae,e2,e3,e4,e5,hA.gr,hA.flat,hA.tV,hA.len,hA.leaf,l.gr,l.flat,l.tV,l.len,l.leaf,F,u,J,aU,et,ic,bF]
 .obtain⟨a,f1,f2,f3,j2,e2,q,f⟩:=w j1 o;have hA:=d3 f1 f2 f3 a;generalize et f1 f2 f3 a=A at e2 hA;obtain⟨t,j3,e3,ht,g⟩:=WT hT E (ds:=ds) (by omega) (fun d hd=>(P d hd).1) (lv:=[]) (by simp[tn,c,m,Sm]) 2 (by omega) j2 f;simp[tn,c,m,Ty.av]at e2 e3;have u:=Ex.aX a;refine⟨⟨9,0,[],0,[a],[],t⟩,true,true,false,j3,?_,.Mp q ht,g⟩;rw[aM g247];simp(disch:=omega)[tn,c,m,g247,e1,h1,h2,ae,e2,e3,hA.gr,hA.flat,hA.tV,hA.len,hA.leaf,u,et,ic,bF]
 .obtain⟨a,f1,f2,f3,j2,e2,q,f⟩:=w j1 o;have hA:=d3 f1 f2 f3 a;generalize et f1 f2 f3 a=A at e2 hA
  try simp[tn,c,m]at e2
  have u:=Ex.aX a;refine⟨⟨11,0,[],0,[a],[],bF⟩,true,true,true,j2,?_,.held q,f⟩;rw[aM g247];simp(disch:=omega)[tn,c,m,g247,e1,h1,h2,ae,e2,hA.gr,hA.flat,hA.tV,hA.len,hA.leaf,u,et,ic,bF]
def Qb{L:List Int}{tm:Nat}{TP:Int->Sh}(hT:Tape L tm TP)(p:Sm L){ds:List Dt}{dep:Nat}{d:Dt}{a:Ex}{as:List Ar}{o:Nat}{c:cd}(hc:d.cons[o]?=some c)(h8:c.fields.length<=8):∀(n k:Nat),c.fields.length-k=n->k<=c.fields.length->∀(vs:List bj)(i:Nat),vs.length=k->(∀v∈vs,v∈pM)->i<=L.length->
   ∃(r:List bj)(j:Nat),cl AP g247L1 ⟨[(0,.aV tm 0),(1,.pv (.aq (ds.map Dt.pv))),(2,.pv (vI (dep+1))),(6,.au 6 0),(13,.au 13 0),(14,.au 14 0),(15,.pv (vI o)),(16,.au 16 0),(17,.pv (vI k))],
     [(6,m6),(13,uj d),(14,SB a as),(16,Zp c vs)],TP i,[0,0,0,1,as.length,0,vs.length,0,0,0]⟩=
     some (.exit 3,⟨[(0,.aV tm 0),(1,.pv (.aq (ds.map Dt.pv))),(2,.pv (vI (dep+1))),(6,.au 6 0),(13,.au 13 0),(14,.au 14 0),(15,.pv (vI o)),(16,.au 16 0),(17,.pv (vI c.fields.length)),(179,.pv (.bool false))],
     [(6,m6),(13,uj d),(14,SB a as),(16,Zp c r)],TP j,[0,0,0,1,as.length,0,r.length,0,0,0]⟩)/\
     r.length=c.fields.length/\(∀v∈r,v∈pM)/\j<=L.length
 |0,k,hn,l,vs,i,hv,hm,hi=>by
  have tn:=hT.norm;have b:=hT.shift;have g:=hT.take;have:k=c.fields.length:=(by omega);subst this;refine⟨vs,i,?_,hv,hm,hi⟩;have f:=(zaa.1 hc).1;rw[g247L1e];simp[tn,b,g,-getElem?_pos,g247B1,m6,uj,SB,Zp,hc,f]
 |n+1,k,hn,l,vs,i,hv,hm,hi=>by
  have tn:=hT.norm;have b:=hT.shift;have g:=hT.take;have l:k<c.fields.length:=(by omega);have f:=(zaa.1 hc).1;have u:(vs.length+1)*16<=140737488355328:=(by omega);obtain⟨s,j,e,hs,hj⟩:=MF hT p hi
  try simp[tn,b,g]at e
  obtain⟨r,t,q,hr,h,m⟩:=Qb hT p hc h8 (a:=a) (as:=as) (ds:=ds) (dep:=dep) n (k+1) (by omega) (by omega) (vs++[s]) j (by simp;omega) (by
   intro x hx;simp at hx;rcases hx with hx|rfl
   .exact hm x hx
   .exact hs) hj
  refine⟨r,t,?_,hr,h,m⟩;simp[tn,b,g,m6,uj,SB,Zp]at q ⊢;rw[g247L1e];simp(disch:=omega)[tn,b,g,-getElem?_pos,g247B1,hc,f,l,ae,e,u,aU];exact q
def Qc{L:List Int}{tm:Nat}{TP:Int->Sh}(hT:Tape L tm TP)(C:Sm L){ds:List Dt}{dep:Nat}(l:dep<1000)(z:uw L tm TP ds dep){d:Dt}(G:D8 d){a:Ex}:∀(n k:Nat),d.cons.length-k=n->k<=d.cons.length->∀(as:List Ar)(i:Nat),as.length=k->Ho ds dep d as->i<=L.length->
   ∃(r:List Ar)(j:Nat),cl AP g247L0 ⟨[(0,.aV tm 0),(1,.pv (.aq (ds.map Dt.pv))),(2,.pv (vI (dep+1))),(6,.au 6 0),(13,.au 13 0),(14,.au 14 0),(15,.pv (vI k))],
     [(6,m6),(13,uj d),(14,SB a as)],TP i,[0,0,0,1,as.length,0]⟩=
     some (.exit 1,⟨[(0,.aV tm 0),(1,.pv (.aq (ds.map Dt.pv))),(2,.pv (vI (dep+1))),(6,.au 6 0),(13,.au 13 0),(14,.au 14 0),(15,.pv (vI d.cons.length)),(161,.pv (.bool false))],
     [(6,m6),(13,uj d),(14,SB a r)],TP j,[0,0,0,1,r.length,0]⟩)/\
     r.length=d.cons.length/\Ho ds dep d r/\j<=L.length
 |0,k,hn,m,as,i,A,hm,hi=>by
  have tn:=hT.norm;have f:=hT.shift;have g:=hT.take;have:k=d.cons.length:=(by omega);subst this;refine⟨as,i,?_,A,hm,hi⟩;rw[g247L0e];simp[tn,f,g,g247B0,m6,uj,SB]
 |n+1,k,hn,m,as,i,A,hm,hi=>by
  have tn:=hT.norm;have f:=hT.shift;have g:=hT.take;have m:k<d.cons.length:=(by omega);obtain⟨c,hc⟩:=aQ m;obtain⟨_,_,h8,hf⟩:=G;obtain⟨vs,j,e,hv,o,hj⟩:=Qb hT C (ds:=ds) (dep:=dep) (a:=a) (as:=as) hc (hf c (aK hc)) _ 0 rfl (by omega) [] i rfl (by simp) hi;obtain⟨b,f1,f2,f3,j2,e2,F,t⟩:=z j hj;have h:=d3 f1 f2 f3 b;generalize et f1 f2 f3 b=B at e2 h;have H:=Ex.aX b;have D:B.take 11=B:=zaf (by rw[h.len];omega);have w:(as.length+1)*200<=140737488355328:=by omega
  have p:Ho ds dep d (as++[⟨0,c.name,vs,b⟩]):=by
   refine⟨?_,?_,?_⟩
   .intro x hx
    try simp[tn,f,g]at hx
    rcases hx with hx|rfl
    .exact hm.1 x hx
    .exact F
   .intro x hx
    try simp[tn,f,g]at hx
    rcases hx with hx|rfl
    .exact hm.2.1 x hx
    .exact⟨rfl,o⟩
   .intro i c' x h1 h2;by_cases s:i<as.length
    .rw[zar s]at h2;exact hm.2.2 i c' x h1 h2
    .rw[zaB (by omega)]at h2
     have:i-as.length=0:=by
      have:=(zaa.1 h2).1;simpa using this
     have v:i=k:=(by omega);subst v;rw[hc]at h1;cases h1;rw[this]at h2
     try simp[tn,f,g]at h2
     subst h2;exact⟨rfl,hv⟩
  obtain⟨r,E,y,hr,q,u⟩:=Qc hT C l z ⟨by assumption,by assumption,h8,hf⟩ (a:=a) n (k+1) (by omega) (by omega) (as++[⟨0,c.name,vs,b⟩]) j2 (by simp;omega) p t;refine⟨r,E,?_,hr,q,u⟩;have nv:(dep:Int)+1-1=dep:=by omega
  rw[g247L1e]at e;rw[g247L0e]at y;simp[tn,f,g,m6,uj,SB,Zp]at e y e2⊢;rw[g247L0e];simp(disch:=omega)[tn,f,g,-getElem?_pos,g247B0,hc,m,ae,nv,g247L1e,e,e2,w,aU,h.gr,h.flat,h.tV,h.len,h.leaf,D,H];rw[g247L0e];simp[tn,f,g,y]
def MH{L:List Int}{tm:Nat}{TP:Int->Sh}(hT:Tape L tm TP)(v:Sm L){ds:List Dt}(w:ds.length<=8)(x:∀d∈ds,D8 d){dep:Nat}(l:dep<1000)(s:uw L tm TP ds dep){i j1:Nat}{k:Int}(h:j1<=L.length)
   (e1:(az AP).i 68 [.aV tm 0,.pv (vI 14)] (TP i) []=some ([.pv (vI k)],TP j1,[])) (o:k=13):
   ∃(e:Ex)(y fa z:Bool)(j:Nat),(az AP).i 247 [.aV tm 0,.pv (.aq (ds.map Dt.pv)),.pv (vI (dep+1:Nat))] (TP i) []=some ([.agg (et y fa z e)],TP j,[])/\fC ds (dep+1) e/\j<=L.length:=by
 have tn:=hT.norm;have b:=hT.shift;have g:=hT.take;subst o
 try simp[tn,b,g]at e1
 have h1:¬((dep:Int)+1<1):=by omega
 have h2:(dep:Int)+1-1=dep:=by omega
 by_cases h0:ds=[]
 .subst h0;obtain⟨a,f1,f2,f3,j2,e2,t,c⟩:=s j1 h;refine⟨a,f1,f2,f3,j2,?_,.up t,c⟩;rw[aM g247];cases f1<;>cases f2<;>cases f3<;>simp[tn,b,g,et,ic]at e2<;>simp(disch:=omega)[tn,b,g,g247,e1,h1,h2,ae,e2,et,ic,aU]
 .have hp:0<ds.length:=zaX.2 h0;obtain⟨r,j2,e2,r0,r1,c⟩:=pR hT v h (n:=ds.length) (by omega) (by omega);obtain⟨m,rfl,hm⟩:=mY r0 r1;obtain⟨d,hx⟩:=aQ hm;have u:=x d (aK hx);obtain⟨a,f1,f2,f3,j3,e3,t,q⟩:=s j2 c;have hA:=d3 f1 f2 f3 a;generalize et f1 f2 f3 a=A at e3 hA;have B:=Ex.aX a;obtain⟨as,j4,e4,v7,f,p⟩:=Qc hT v l s u (a:=a) _ 0 rfl (by omega) [] j3 rfl ⟨by simp,by simp,by simp⟩ q
  try simp[tn,b,g]at e2 e3
  refine⟨⟨8,0,[],0,[a],as,bF⟩,false,false,false,j4,?_,.mT (aK hx) t v7 f.1 f.2.1 f.2.2,p⟩;rw[aM g247];rw[g247L0e]at e4;simp[tn,b,g,m6,uj,SB]at e4;simp(disch:=omega)[tn,b,g,-getElem?_pos,g247,e1,h1,h2,h0,ae,e2,e3,hp,hx,hA.gr,hA.flat,hA.tV,hA.len,hA.leaf,B,g247L0e,e4,aU,et,ic,bF]
def S6{L:List Int}{tm:Nat}{TP:Int->Sh}(hT:Tape L tm TP)(c:Sm L){ds:List Dt}(b:ds.length<=8)(e:∀d∈ds,D8 d):∀dep:Nat,dep<1000->uw L tm TP ds dep
 |0,_=>fun i hi=>by
  have tn:=hT.norm;have f:=hT.shift;have m:=hT.take;obtain⟨k,j1,e1,k0,g,a⟩:=pR hT c hi (n:=14) (by omega) (by omega);exact yE hT c b e a e1 k0 (by simp)
 |dep+1,h=>fun i hi=>by
  have tn:=hT.norm;have f:=hT.shift;have m:=hT.take;obtain⟨k,j1,e1,k0,g,a⟩:=pR hT c hi (n:=14) (by omega) (by omega);have l:=S6 hT c b e dep (by omega);by_cases h5:k<5
  .exact yE hT c b e a e1 k0 (by simpa using h5)
  .by_cases j:k<=12
   .exact MG hT c b e (by omega) l a e1 (by omega) j
   .exact MH hT c b e (by omega) l a e1 (by omega)
def AdT(t:Ty):Prop:=t.nodes.length<=100000000/\t.pd z0<=40/\∀w,¬gI t w
def HF:AdT bF:=⟨by rw[Ty.aL];simp[bF],by decide,fun w a=>by
 cases a with
 |var q=>simp[bF]at q
 |arg _ h _=>simp[bF]at h⟩
inductive Ex.Ad:Ex->Prop
 |mk {e:Ex}:AdT e.ty->(∀x∈e.ch,x.Ad)->e.Ad
def Ex.Ad.t{e:Ex}(h:e.Ad):AdT e.ty:=by cases h;assumption
def Ex.Ad.c{e:Ex}(h:e.Ad):∀x∈e.ch,x.Ad:=by cases h;assumption
structure yF(n:Nat)(e:Ex):Prop where
 sc:r_ e
 h:e.oZ n
 w:e.sz<=wN n
 tx:kH e
 vl:e.lH=true
 ad:e.Ad
def gH{n m:Nat}{e:Ex}(h:e.oZ n):n<=m->e.oZ m:=by
 induction h generalizing m with
 |mk _ a=>
  intro hm;obtain⟨k,rfl⟩:∃k,m=k+1:=⟨m-1,by omega⟩;exact .mk fun x hx=>a x hx (by omega)
def yF.up{n m:Nat}{e:Ex}(h:yF n e)(hm:n<=m):yF m e:=⟨h.sc,gH h.h hm,za9 h.w (Ze hm),h.tx,h.vl,h.ad⟩
def jo:bF.Cw:=⟨fun _=>rfl,by simp[bF]⟩
def DR{m:Nat}{l:List Ex}(hl:l.length<=4)(h:∀x∈l,x.sz<=5 ^ m):1+(l.map Ex.sz).sum<=5 ^ (m+1):=by
 have h1:=wt h;have h2:l.length*5 ^ m<=4*5 ^ m:=zaZ _ hl;have h3:1<=5 ^ m:=zcL m 5 (by decide);rw[zcj];generalize 5 ^ m=P at*;omega
noncomputable def A8(e:Ex):Bool:=match bV e.kind with|some (nm,kd)=>e.Ax nm kd|none=>false
theorem HG(e:Ex):e.lH=(A8 e && (e.aB.all Mr && e.ch.all Ex.lH)):=by
 rw[Ex.rZ];unfold A8;cases bV e.kind with
 |none=>rfl
 |some p=>rfl
def IW{s:bj}{x:Ex}(h:tE false s):A8 ⟨4,0,s,0,[x],[],bF⟩=true:=by
 have h1:tU s=true:=h.2;simp[A8,bV,Ex.Ax,h1]
def AO{x y:Ex}:A8 ⟨5,0,[],0,[x,y],[],bF⟩=true:=by simp[A8,bV,Ex.Ax]
def IX{k:Int}{s:bj}{x y:Ex}(a:k=6\/k=7)(h:tE false s):A8 ⟨k,0,s,0,[x,y],[],bF⟩=true:=by
 have h1:tU s=true:=h.2;rcases a with rfl|rfl<;>simp[A8,bV,Ex.Ax,h1]
def DS{x:Ex}:A8 ⟨11,0,[],0,[x],[],bF⟩=true:=by simp[A8,bV,Ex.Ax]
def IY{x:Ex}{t:Ty}(h1:ck t=true)(h2:t.wr=true):A8 ⟨9,0,[],0,[x],[],t⟩=true:=by simp[A8,bV,Ex.Ax,h1,h2]
def f_{n:Nat}{k:Int}{s:bj}{m:Int}{l:List Ex}{t:Ty}(hv:A8 ⟨k,0,s,m,l,[],t⟩=true)(a:k≠8)(hl:l.length<=4)(ht:t.Ok)(hc:t.Cw)(hx:∀x∈l,yF (4*n) x)(tx:kH ⟨k,0,s,m,l,[],t⟩)(had:AdT t:=by exact HF):yF (4*(n+1)) ⟨k,0,s,m,l,[],t⟩ where
 sc:=⟨.mk (by simp only;omega) (by simp) (by simp) ht (by simpa[Ex.ch]using fun x h=>(hx x h).sc.ok),.mk (fun h=>absurd h a) (by simpa[Ex.ch]using fun x h=>(hx x h).sc.one),.mk hc (by simpa[Ex.ch]using fun x h=>(hx x h).sc.cw)⟩
 h:=gH (n:=4*n+1) (.mk (by simpa[Ex.ch]using fun x h=>(hx x h).h)) (by omega)
 w:=by
  rw[Hk,Ex.jd];have e:(⟨k,0,s,m,l,[],t⟩:Ex).ch=l:=by simp[Ex.ch]
  rw[e];exact DR hl fun x h=>by have:=(hx x h).w;rwa [Hk]at this
 tx:=tx
 vl:=by
  have hc:(⟨k,0,s,m,l,[],t⟩:Ex).ch.all Ex.lH=true:=by simp[Ex.ch];exact fun x h=>(hx x h).vl
  rw[HG,hc,hv];rfl
 ad:=.mk had (by simpa[Ex.ch]using fun x h=>(hx x h).ad)
def eW{k:Int}{s:bj}{m:Int}(a:(k=1/\tE false s\/k=2/\tE true s)/\m=0\/k=3/\s=[]/\0<=m/\m<4\/k=10/\s=[]/\m=0):yF 4 ⟨k,0,s,m,[],[],bF⟩:=by
 refine f_ (n:=0) ?_ (by omega) (by simp) jn jo (by simp) (.leaf ?_ rfl rfl)
 .rcases a with⟨⟨rfl,h⟩|⟨rfl,h⟩,rfl⟩|⟨rfl,rfl,h1,h2⟩|⟨rfl,rfl,rfl⟩
  .have h1:tU s=true:=h.2;simp[A8,bV,Ex.Ax,h1]
  .have h1:Dh s=true:=h.2;simp[A8,bV,Ex.Ax,h1]
  .have c:¬m<0:=(by omega);have b:¬999999999<m:=(by omega);simp[A8,bV,Ex.Ax,c,b]
  .simp[A8,bV,Ex.Ax]
 .rcases a with⟨⟨h0,h⟩|⟨h0,h⟩,_⟩|⟨h0,_,h1,h2⟩|⟨h0,h1,h2⟩
  .exact .inl ⟨.inl h0,h.1⟩
  .exact .inl ⟨.inr h0,h.1⟩
  .exact .inr (.inl ⟨h0,h1,by show m<1000000000;omega⟩)
  .exact .inr (.inr ⟨h0,h1,h2,rfl⟩)
def S7{n r:Nat}(hn:0<n)(hr:r<3){k:Int}{s:bj}{m:Int}{ks:List Ex}{y:Ex}(hf:yF (4*n+r) ⟨k,0,s,m,ks,[],bF⟩)(hy:yF (4*n) y):yF (4*n+r+1) ⟨5,0,[],0,[⟨k,0,s,m,ks,[],bF⟩,y],[],bF⟩ where
 sc:=⟨.mk (by simp) (by simp) (by simp) jn (by simpa[Ex.ch]using⟨hf.sc.ok,hy.sc.ok⟩),.mk (fun h=>absurd (show(5:Int)=8 from h) (by decide)) (by simpa[Ex.ch]using⟨hf.sc.one,hy.sc.one⟩),.mk jo (by simpa[Ex.ch]using⟨hf.sc.cw,hy.sc.cw⟩)⟩
 h:=.mk (by simpa[Ex.ch]using⟨hf.h,gH hy.h (by omega)⟩)
 w:=by
  have h1:=hf.w;have h2:=hy.w;rw[Hk]at h2;have h3:1<=5 ^ n:=zcL n 5 (by decide);rw[Ex.jd];have e:(⟨5,0,[],0,[⟨k,0,s,m,ks,[],bF⟩,y],[],bF⟩:Ex).ch=[⟨k,0,s,m,ks,[],bF⟩,y]:=(by simp[Ex.ch]);rw[e];simp only[zal,zaJ,zbj,List.sum_nil];unfold wN at h1⊢;have e1:(4*n+r) / 4=n:=(by omega);have e2:(4*n+r) % 4=r:=(by omega);have e3:(4*n+r+1) / 4=n:=(by omega);have e4:(4*n+r+1) % 4=r+1:=(by omega);rw[e1,e2,zai (by omega)]at h1;rw[e3,e4,zai (by omega)];have e5:5 ^ n*(r+1+1)=5 ^ n*(r+1)+5 ^ n:=Nat.mul_add_one _ _;rw[e5];omega
 tx:=.app rfl rfl rfl hf.tx hy.tx
 vl:=by
  have hc:(⟨5,0,[],0,[⟨k,0,s,m,ks,[],bF⟩,y],[],bF⟩:Ex).ch.all Ex.lH=true:=(by simp[Ex.ch,hf.vl,hy.vl]);rw[HG,hc,AO];rfl
 ad:=.mk HF (by simpa[Ex.ch]using⟨hf.ad,hy.ad⟩)
def WU{L:List Int}{tm:Nat}{TP:Int->Sh}(hT:Tape L tm TP){I:Nat}{g:Ty}(h:bL g){E:List En}(q:E.length<=10000)(hc:∀x∈E,m5 x.sc)(d:∀x∈E,tE false x.name):∀(n i:Nat),E.length-i=n->i<=E.length->∀acc:List bj,acc.length<=i->(∀s∈acc,tE false s)->
   ∃fs:List bj,fs.length<=E.length/\(∀s∈fs,tE false s)/\cl AP g348L0 ⟨[(0,.aV tm 0),(7,.au 7 0),(8,.au 8 0),(9,.own (acc.map .str) 0),(10,.pv (.aq (E.map En.pv))),(11,.pv (vI i))],[(7,tC g),(8,qO 1)],TP I,[acc.length,0,0,0]⟩=
     some (.exit 0,⟨[(0,.aV tm 0),(7,.au 7 0),(8,.au 8 0),(9,.own (fs.map .str) 0),(10,.pv (.aq (E.map En.pv))),(11,.pv (vI E.length)),(19,.pv (.bool false))],[(7,tC g),(8,qO 1)],TP I,[fs.length,0,0,0]⟩)
 |0,i,hn,hi,acc,m,c=>by
  have tn:=hT.norm;have a:=hT.shift;have b:=hT.take;have:i=E.length:=(by omega);subst this;refine⟨acc,m,c,?_⟩;rw[g348L0e];simp[tn,a,b,g348B0,tC,qO]
 |n+1,i,hn,hi,acc,m,c=>by
  have tn:=hT.norm;have a:=hT.shift;have b:=hT.take;have hi:i<E.length:=(by omega);obtain⟨x,hx⟩:=aQ hi;obtain⟨K,j,u,r⟩:=(hc x (aK hx)).ZW;have k:=c238 (N:=K) (by omega) (p:=x.sc.ty) h.ok r;have t:(acc.length+1)*16<=140737488355328:=(by omega);cases o:P3 K x.sc.ty g with
  |none=>
   obtain⟨fs,h1,e,f⟩:=WU hT (L:=L) (I:=I) h q hc d n (i+1) (by omega) (by omega) acc (by omega) c;refine⟨fs,h1,e,?_⟩;rw[o]at k;rw[g348L0e]at f ⊢;simp[tn,a,b,tC,qO]at f;simp[tn,a,b,rI]at k;simp(disch:=omega)[tn,a,b,-getElem?_pos,g348B0,tC,qO,hx,hi,j,k,ae];rw[g348L0e];simp[tn,a,b,f]
  |some l=>
   obtain⟨fs,h1,e,f⟩:=WU hT (L:=L) (I:=I) h q hc d n (i+1) (by omega) (by omega) (acc++[x.name]) (by simp;omega) (by
    intro s hs;simp only[zaz,zb6]at hs;rcases hs with hs|rfl
    .exact c s hs
    .exact d x (aK hx))
   refine⟨fs,h1,e,?_⟩;rw[o]at k;rw[g348L0e]at f ⊢;simp[tn,a,b,tC,qO]at f;simp[tn,a,b,rI]at k;simp(disch:=omega)[tn,a,b,-getElem?_pos,g348B0,tC,qO,hx,hi,j,k,t,ae];rw[g348L0e];simp[tn,a,b,f]
def oK(L:List Int)(tm:Nat)(TP:Int->Sh)(n:Nat)(r:Option (List AV×Sh×aF)):Prop:=∃(e:Ex)(a fa b:Bool)(j:Nat),r=some ([.agg (et a fa b e)],TP j,[])/\yF n e/\j<=L.length
structure Ctx(n D:Nat)(l:List En):Prop where
 len:l.length<=n
 Z1:∀x∈l,m5 x.sc
 nm:∀x∈l,tE false x.name
 vn:∀x∈l,x.sc.ty.Vn
 hd:∀x∈l,x.sc.ty.pd z0<=D
def HH:Nat->Nat
 |0=>53
 |1=>25
 |2=>11
 |_=>4
def jF{d:Nat}(h:d<3):2*HH (d+1)+3<=HH d:=by
 have:d=0\/d=1\/d=2:=by omega
 rcases this with rfl|rfl|rfl<;>decide
def S8:∀d,4<=HH d
 |0=>by decide
 |1=>by decide
 |2=>by decide
 |_+3=>by simp[HH]
def UO:∀d,HH (d+1)<=25
 |0=>by decide
 |1=>by decide
 |_+2=>by simp[HH]
def c348{L:List Int}{tm:Nat}{TP:Int->Sh}(hT:Tape L tm TP)(p:Sm L){ds:List Dt}{l:List En}{D:Nat}(hl:Ctx 10000 D l){g:Ty}(w:bL g){i:Nat}(hi:i<=L.length):
   oK L tm TP 4 ((az AP).i 348 [.aV tm 0,.pv (.aq (ds.map Dt.pv)),.pv (.aq (l.map En.pv)),.pv g.pv] (TP i) []):=by
 have tn:=hT.norm;have c:=hT.shift;have d:=hT.take;have C:=wm l;have F:=hl.len;have k1:=c201 (l:=l) (by unfold Sm;omega);obtain⟨fs,hf,v,e⟩:=WU hT (L:=L) (I:=i) w (E:=dD l) (by omega) (fun x hx=>hl.Z1 x (ki l x hx)) (fun x hx=>hl.nm x (ki l x hx)) _ 0 rfl (by omega) [] (by simp) (by simp);generalize dD l=E at*;have k2:=c20 (a:=g) (b:=bK) w.ok;have k3:=c34;rw[g348L0e]at e;simp[tn,c,d,tC,qO]at e k1 k3
 have h:∀j,j<=L.length->(g=bK/\∃r j1,0<=r/\j1<=L.length/\(az AP).i 68 [.aV tm 0,.pv (vI 4)] (TP j) []=some ([.pv (vI r)],TP j1,[]))\/¬g=bK:=by
  intro j hj;by_cases q:g=bK
  .obtain⟨r,j1,e1,r0,_,f⟩:=pR hT p hj (n:=4) (by omega) (by omega);exact .inl ⟨q,r,j1,r0,f,e1⟩
  .exact .inr q
 by_cases YF:fs=[]
 .subst YF
  try simp[tn,c,d]at e
  rcases h i hi with⟨q,r,j1,r0,f,e1⟩|q
  .rw[za2 q]at k2;subst q
   try simp[tn,c,d]at k2 e1
   by_cases hr:0<r
   .obtain⟨m,j2,e2,m0,t,o⟩:=pR hT p f (n:=3) (by omega) (by omega);refine⟨⟨3,0,[],m,[],[],bF⟩,true,true,true,j2,?_,eW (.inr (.inl ⟨rfl,rfl,m0,by omega⟩)),o⟩
    try simp[tn,c,d]at e2
    simp[tn,c,d,bK]at k2 k3 e;rw[aM g348];simp[tn,c,d,g348,k1,g348L0e,e,k3,k2,e1,hr,e2,et,ic,bF,bK]
   .refine⟨⟨10,0,[],0,[],[],bF⟩,true,true,true,j1,?_,eW (.inr (.inr ⟨rfl,rfl,rfl⟩)),f⟩;simp[tn,c,d,bK]at k2 k3 e;rw[aM g348];simp[tn,c,d,g348,k1,g348L0e,e,k3,k2,e1,hr,et,ic,bF,bK]
  .rw[zaY q]at k2;refine⟨⟨10,0,[],0,[],[],bF⟩,true,true,true,i,?_,eW (.inr (.inr ⟨rfl,rfl,rfl⟩)),hi⟩;simp[tn,c,d,bK]at k2 k3;rw[aM g348];simp[tn,c,d,g348,k1,g348L0e,e,k3,k2,et,ic,bF,bK]
 .have hp:0<fs.length:=zaX.2 YF;obtain⟨A,j6,e6,z,_,k⟩:=pR hT p hi (n:=6) (by omega) (by omega)
  try simp[tn,c,d]at e6
  by_cases h6:0<A
  .obtain⟨m,B,y,m0,t,u⟩:=pR hT p k (n:=fs.length) (by omega) (by omega);obtain⟨m,rfl,hm⟩:=mY m0 t;obtain⟨s,hs⟩:=aQ hm;refine⟨⟨1,0,s,0,[],[],bF⟩,true,true,true,B,?_,eW (.inl ⟨.inl ⟨rfl,v s (aK hs)⟩,rfl⟩),u⟩
   try simp[tn,c,d]at y
   rw[aM g348];simp[tn,c,d,-getElem?_pos,g348,k1,g348L0e,e,hp,e6,h6,y,hs,et,ic,bF]
  .rcases h j6 k with⟨q,r,j1,r0,f,e1⟩|q
   .rw[za2 q]at k2;subst q
    try simp[tn,c,d]at k2 e1
    by_cases hr:0<r
    .obtain⟨m,j2,e2,m0,t,o⟩:=pR hT p f (n:=3) (by omega) (by omega);refine⟨⟨3,0,[],m,[],[],bF⟩,true,true,true,j2,?_,eW (.inr (.inl ⟨rfl,rfl,m0,by omega⟩)),o⟩
     try simp[tn,c,d]at e2
     simp[tn,c,d,bK]at k2 k3 e;rw[aM g348];simp[tn,c,d,g348,k1,g348L0e,e,hp,e6,h6,k3,k2,e1,hr,e2,et,ic,bF,bK]
    .refine⟨⟨10,0,[],0,[],[],bF⟩,true,true,true,j1,?_,eW (.inr (.inr ⟨rfl,rfl,rfl⟩)),f⟩;simp[tn,c,d,bK]at k2 k3 e;rw[aM g348];simp[tn,c,d,g348,k1,g348L0e,e,hp,e6,h6,k3,k2,e1,hr,et,ic,bF,bK]
   .rw[zaY q]at k2;refine⟨⟨10,0,[],0,[],[],bF⟩,true,true,true,j6,?_,eW (.inr (.inr ⟨rfl,rfl,rfl⟩)),k⟩;simp[tn,c,d,bK]at k2 k3;rw[aM g348];simp[tn,c,d,g348,k1,g348L0e,e,hp,e6,h6,k3,k2,et,ic,bF,bK]
def lC(L:List Int)(tm:Nat)(TP:Int->Sh)(ds:List Dt)(dep:Nat):Prop:=∀(i:Nat)(l:List En)(g:Ty),i<=L.length->Ctx (1000-20*dep) (HH dep) l->bL g->g.nodes.length<=6000-20*dep/\g.pd z0<=HH dep->
 oK L tm TP (4*(dep+1)) ((az AP).i 326 [.aV tm 0,.pv (.aq (ds.map Dt.pv)),.pv (.aq (l.map En.pv)),.pv g.pv,.pv (vI dep)] (TP i) [])
def Ctx.push{n m D a:Nat}{l:List En}(h:Ctx n D l){s:bj}{c:Sc}(hc:m5 c)(hs:tE false s)(hv:c.ty.Vn)(hp:c.ty.pd z0<=a)(hm:n+1<=m)(b:D<=a):Ctx m a (l++[⟨s,c⟩]):=⟨by have:=h.len;simp;omega,by
 intro x hx;simp at hx;rcases hx with hx|rfl
 .exact h.Z1 x hx
 .exact hc,by
 intro x hx;simp at hx;rcases hx with hx|rfl
 .exact h.nm x hx
 .exact hs,by
 intro x hx;simp at hx;rcases hx with hx|rfl
 .exact h.vn x hx
 .exact hv,by
 intro x hx;simp at hx;rcases hx with hx|rfl
 .exact za9 (h.hd x hx) b
 .exact hp⟩
def Ctx.iy{n m D a:Nat}{l:List En}(h:Ctx n D l)(hm:n<=m)(b:D<=a):Ctx m a l:=⟨by have:=h.len;omega,h.Z1,h.nm,h.vn,fun x hx=>za9 (h.hd x hx) b⟩
def jG{t:Ty}(h:t.args=[]):t.pd z0=0:=by
 rw[Ty.gm,h];split<;>rfl
def nU{D:Dt->Prop}{lv:List Ty}(h:∀t∈lv,t.args=[]){n:Nat}{t:Ty}(m:gN D lv n t):t.pd z0<=n:=by
 induction m with
 |leaf hl=>rw[jG (h _ hl)];exact zby _
 |int=>rw[jG rfl];exact zby _
 |cv hd hl _ c=>
  rw[Ty.gm,zai (by simp)];exact kA fun x hx=>by have:=c x hx;omega
 |arrow _ _ b a=>
  rw[Ty.gm,zai (by simp)];refine kA fun x hx=>?_;simp at hx;rcases hx with rfl|rfl<;>omega
def DT{D:Dt->Prop}(hV:∀d,D d->jD d.name d.params.length=true){lv:List Ty}(h:∀t∈lv,t.Vn){n:Nat}{t:Ty}(m:gN D lv n t):t.Vn:=by
 induction m with
 |leaf hl=>exact h _ hl
 |int=>exact nR
 |cv hd hl _ c=>exact DN (.inr (.inr (.inr (.inr ⟨rfl,rfl,rfl,by simp only[hl];exact hV _ hd⟩)))) c
 |arrow _ _ b a=>exact HE b a
def wG:∀d∈bf,jD d.name d.params.length=true:=by decide +kernel
def mK{D:Dt->Prop}(e:∀d,D d->d.params.length<=8)(hV:∀d,D d->jD d.name d.params.length=true)(hN:∀d,D d->d.name.length<=100){lv:List Ty}(h:∀t∈lv,t.args=[]/\t.kind=3/\t.name=[]){n:Nat}{t:Ty}(m:gN D lv n t):bL t:=by
 refine⟨m.ok e (fun t ht=>(h t ht).1),?_,DT hV (fun t ht=>mJ (h t ht).1 (.inr (.inr (.inl (h t ht).2.1)))) m⟩;induction m with
 |leaf hl=>exact .bare (h _ hl).1 (fun _=>by rw[(h _ hl).2.1];simp) (by rw[(h _ hl).2.2];simp)
 |int=>exact .bare rfl (by simp[bK]) (by simp[bK])
 |cv hd _ _ c=>exact .mk (by simp) (hN _ hd) c
 |arrow _ _ b a=>exact .mk (by simp) (by simp) (by intro x hx;simp at hx;rcases hx with rfl|rfl<;>assumption)
def qY{g:Ty}(e:bL g)(h:g.ee 3=false):ck g=true/\g.wr=true:=by
 obtain⟨f,c,hv⟩:=e;clear f;induction c with
 | @mk t d hn _ b=>
  rw[Ty.mG,zbE,zbw]at h;have a:∀x∈t.args,ck x=true/\x.wr=true:=fun x hx=>b x hx (by simpa using h.2 x hx) (hv.d6 x hx)
  have hd:=hv.hd;have k3:t.kind≠3:=by have:=h.1;simp at this;exact this
  have k4:t.kind=4:=by
   rcases Decidable.em (t.kind=4)with q|q
   .exact q
   .have:=(d q).1;unfold Hv at hd;simp at this;omega
  obtain⟨h1,h2,h3⟩:t.id=0/\t.home=0/\jD t.name t.args.length=true:=by
   unfold Hv at hd;rcases hd with q|q|q|q|⟨_,q⟩
   .omega
   .omega
   .omega
   .omega
   .exact q
  rw[gh,Ty.IC];have j:t.args.all ck=true:=zaq.2 fun x hx=>(a x hx).1
  have i:t.args.all Ty.wr=true:=zaq.2 fun x hx=>(a x hx).2;simp[k4,h1,h2,h3,j,i]
def bL.arrow{a b:Ty}(d:bL a)(c:bL b):bL ⟨4,[45,62],0,0,[a,b]⟩:=⟨⟨by simp[Sm],by intro x hx;simp at hx;rcases hx with rfl|rfl;exact d.ok;exact c.ok⟩,.mk (by simp) (by simp) (by intro x hx;simp at hx;rcases hx with rfl|rfl;exact d.kn;exact c.kn),HE d.vn c.vn⟩
def cH:∀s∈varNames,tE false s:=by decide +kernel
def Z2{g:Ty}(c:bL g)(h:g.ee 3=false):g.Kn KT:=by
 have e:=c.kn;clear c;induction e with
 | @mk t f hn _ d=>
  rw[Ty.mG,zbE,zbw]at h;refine .mk (fun q=>?_) hn fun x hx=>d x hx (by simpa using h.2 x hx);obtain⟨a,b⟩:=f q;refine⟨?_,b⟩;have:=h.1
  simp at a this⊢;omega
variable {L:List Int}  {tm:Nat} {TP:Int->Sh} {ds:List Dt} {dep:Nat} {l:List En} {g:Ty} {i:Nat}
def wH(L:List Int)(tm:Nat)(TP:Int->Sh)(ds:List Dt)(dep:Nat)(l:List En)(g:Ty)(i:Nat):Prop:=
 oK L tm TP (4*(dep+1)) ((az AP).i 326 [.aV tm 0,.pv (.aq (ds.map Dt.pv)),.pv (.aq (l.map En.pv)),.pv g.pv,.pv (vI dep)] (TP i) [])
def Qd(hT:Tape L tm TP)(d:Sm L){D:Nat}(hl:Ctx 10000 D l)(c:bL g)(hi:i<=L.length):wH L tm TP ds 0 l g i:=by
 have tn:=hT.norm;have a:=hT.shift;have b:=hT.take;obtain⟨e,f1,f2,f3,j,k,ht,hj⟩:=c348 hT d (ds:=ds) hl c hi;refine⟨e,f1,f2,f3,j,?_,ht.up (by omega),hj⟩;rw[aM g326];cases f1<;>cases f2<;>cases f3<;>simp[tn,a,b,et,ic]at k<;>simp[tn,a,b,g326,k,et,ic,aU]
def S9(hT:Tape L tm TP)(h:Sm L)(d:dep<100){D:Nat}(hl:Ctx 10000 D l)(f:bL g){j9:Nat}(c:j9<=L.length)(e9:(az AP).i 68 [.aV tm 0,.pv (vI 9)] (TP i) []=some ([.pv (vI 0)],TP j9,[])):wH L tm TP ds (dep+1) l g i:=by
 have tn:=hT.norm;have a:=hT.shift;have b:=hT.take;obtain⟨e,f1,f2,f3,j,k,ht,hj⟩:=c348 hT h (ds:=ds) hl f c;refine⟨e,f1,f2,f3,j,?_,ht.up (by omega),hj⟩;have h1:¬((dep:Int)+1<1):=by omega
 try simp[tn,a,b]at e9
 rw[aM g326];cases f1<;>cases f2<;>cases f3<;>simp[tn,a,b,et,ic]at k<;>simp[tn,a,b,g326,h1,e9,k,et,ic,aU]
structure Qe(L:List Int)(tm:Nat)(TP:Int->Sh)(g:Ty)(i:Nat)(a b:Ty)(ar:Bool)(k r9:Int)(j9 j:Nat):Prop where
 nz:¬r9=0
 e9:(az AP).i 68 [.aV tm 0,.pv (vI 9)] (TP i) []=some ([.pv (vI r9)],TP j9,[])
 arr:(az AP).p 194 [g.pv]=some [a.pv,b.pv,.bool ar]
 wI:(az AP).i 68 [.aV tm 0,.pv (vI 10)] (TP j9) []=some ([.pv (vI k)],TP j,[])
 hj:j<=L.length
def WV(hT:Tape L tm TP)(B:Sm L)(f:dep<3)(C:lC L tm TP ds dep)(hl:Ctx (1000-20*(dep+1)) (HH (dep+1)) l){a b:Ty}{k r9:Int}{j9 j:Nat}(P:Qe L tm TP g i a b true k r9 j9 j)(v:k<7)(r:bL a)(y:bL b)(o:b.nodes.length<=6000-20*dep)(z:a.pd z0<=HH (dep+1))(x:b.pd z0<=HH (dep+1)):wH L tm TP ds (dep+1) l g i:=by
 have tn:=hT.norm;have d:=hT.shift;have p:=hT.take;obtain⟨nz,e9,arr,wI,hj⟩:=P;obtain⟨s,j1,e1,hs,m⟩:=MF hT B hj;have u:=hl.len;have w:=jF f;have k1:=c176 (t:=a);have k2:=c179 (l:=l) (by unfold Sm;omega) (n:=s) (c:=⟨0,a⟩);obtain⟨e,f1,f2,f3,j2,e2,q,h⟩:=C j1 (l++[⟨s,⟨0,a⟩⟩]) b m (hl.push r.mono (cH _ hs) r.vn (by show a.pd z0<=_;omega) (by omega) (by omega)) y ⟨o,by omega⟩;have hA:=d3 f1 f2 f3 e;generalize et f1 f2 f3 e=A at e2 hA;have D:=Ex.aX e;refine⟨⟨4,0,s,0,[e],[],bF⟩,true,true,true,j2,?_,(f_ (IW (cH _ hs)) (by decide) (by simp) jn jo (by simpa using q) (.lam rfl (cH _ hs).1 rfl rfl q.tx)).up (by omega),h⟩;have h1:¬((dep:Int)+1<1):=by omega
 have h2:(dep:Int)+1-1=dep:=by omega
 try simp[tn,d,p]at e9 arr wI e1 k1 k2 e2
 rw[aM g326];simp(disch:=omega)[tn,d,p,g326,h1,h2,nz,e9,arr,wI,v,e1,k1,k2,e2,ae,hA.gr,hA.flat,hA.tV,hA.len,hA.leaf,D,et,ic,bF]
def WW(hT:Tape L tm TP)(M:Sm L)(n:dep<3)(u:ds.length<=20)(e:∀d∈ds,d.params.length<=8)(s:∀d∈ds,jD d.name d.params.length=true)(v:∀d∈ds,d.name.length<=100)(w:lC L tm TP ds dep)(hl:Ctx (1000-20*(dep+1)) (HH (dep+1)) l)(K:bL g)(m:g.nodes.length<=6000-20*(dep+1)/\g.pd z0<=HH (dep+1)){a b:Ty}{k r9:Int}{j9 j:Nat}(P:Qe L tm TP g i a b false k r9 j9 j)(H:k<2):wH L tm TP ds (dep+1) l g i:=by
 have tn:=hT.norm;have c:=hT.shift;have o:=hT.take;obtain⟨nz,e9,arr,wI,hj⟩:=P;obtain⟨t,j1,e1,mt,r⟩:=WT hT M u e (lv:=[]) (by simp[tn,c,o,Sm]) 1 (by omega) j hj;have z:bL t:=mK e s v (by simp) mt;have F:=mt.small e (by simp);have tp:=nU (by simp) mt;have I:=jF n;obtain⟨m,J⟩:=m;have k1:=c69 (a:=t) (b:=g);have h:Ctx (1000-20*dep) (HH dep) l:=hl.iy (by omega) (by omega)
 obtain⟨x,f1,f2,f3,j2,e2,hx,q⟩:=w j1 l _ r h (z.arrow K) ⟨by rw[Ty.aL];simp;omega,by
  rw[Ty.gm,zai (by simp)];refine kA fun x hx=>?_;simp at hx;rcases hx with rfl|rfl<;>omega⟩
 obtain⟨y,E,D,C,j3,e3,hy,p⟩:=w j2 l _ q h z ⟨by omega,by omega⟩;have hA:=d3 f1 f2 f3 x;generalize et f1 f2 f3 x=A at e2 hA;have f:=d3 E D C y;generalize et E D C y=B at e3 f;have O:=Ex.aX x;have N:=Ex.aX y;have G:A.take 11=A:=zaf (by rw[hA.len];omega);refine⟨⟨5,0,[],0,[x,y],[],bF⟩,true,true,true,j3,?_,(f_ AO (by decide) (by simp) jn jo (by simpa using⟨hx,hy⟩) (.app rfl rfl rfl hx.tx hy.tx)).up (by omega),p⟩;have h1:¬((dep:Int)+1<1):=by omega
 have h2:(dep:Int)+1-1=dep:=by omega
 simp[tn,c,o,Ty.av]at e9 arr wI e1 k1 e2 e3;rw[aM g326];simp(disch:=omega)[tn,c,o,g326,h1,h2,nz,e9,arr,wI,H,e1,k1,e2,e3,ae,hA.gr,hA.flat,hA.tV,hA.len,hA.leaf,f.gr,f.flat,f.tV,f.len,f.leaf,G,O,N,aU,et,ic,bF]
def WX(hT:Tape L tm TP)(t:Sm L)(f:dep<3)(r:lC L tm TP ds dep)(hl:Ctx (1000-20*(dep+1)) (HH (dep+1)) l)(c:bL g)(e:g.nodes.length<=6000-20*(dep+1)/\g.pd z0<=HH (dep+1)){a b:Ty}{r9:Int}{j9 j:Nat}(P:Qe L tm TP g i a b false 4 r9 j9 j)(h3:g.ee 3=false)(h4:g.ee 1=false):wH L tm TP ds (dep+1) l g i:=by
 have tn:=hT.norm;have d:=hT.shift;have n:=hT.take;obtain⟨nz,e9,arr,wI,hj⟩:=P;have k1:=c351 (k:=3) c.ok;have k2:=c351 (k:=1) c.ok;rw[h3]at k1;rw[h4]at k2;have p:=jF f;obtain⟨e,q⟩:=e;have o:=UO dep;have h:Ctx (1000-20*dep) (HH dep) l:=hl.iy (by omega) (by omega);obtain⟨x,f1,f2,f3,j2,e2,hx,m⟩:=r j l _ hj h c ⟨by omega,by omega⟩;have hA:=d3 f1 f2 f3 x;generalize et f1 f2 f3 x=A at e2 hA;have s:=Ex.aX x;refine⟨⟨9,0,[],0,[x],[],g⟩,true,true,false,j2,?_,(f_ (IY (qY c h3).1 (qY c h3).2) (by decide) (by simp) c.ok c.kn.cw (by simpa using hx) (.Mp rfl rfl rfl (Z2 c h3) (by simp only;omega) hx.tx) (had:=⟨by omega,by omega,c.DP⟩)).up (by omega),m⟩;have h1:¬((dep:Int)+1<1):=by omega
 have h2:(dep:Int)+1-1=dep:=by omega
 try simp[tn,d,n]at e9 arr wI k1 k2 e2
 rw[aM g326];simp(disch:=omega)[tn,d,n,g326,h1,h2,nz,e9,arr,wI,k1,k2,e2,ae,hA.gr,hA.flat,hA.tV,hA.len,hA.leaf,s,et,ic,bF]
def S_(hT:Tape L tm TP)(s:Sm L)(e:dep<3)(q:lC L tm TP ds dep)(hl:Ctx (1000-20*(dep+1)) (HH (dep+1)) l)(p:bL g)(d:g.nodes.length<=6000-20*(dep+1)/\g.pd z0<=HH (dep+1)){a b:Ty}{r9:Int}{j9 j:Nat}(P:Qe L tm TP g i a b false 5 r9 j9 j):wH L tm TP ds (dep+1) l g i:=by
 have tn:=hT.norm;have c:=hT.shift;have k:=hT.take;obtain⟨nz,e9,arr,wI,hj⟩:=P;have n:=jF e;obtain⟨d,o⟩:=d;have m:=UO dep;have f:Ctx (1000-20*dep) (HH dep) l:=hl.iy (by omega) (by omega);obtain⟨x,f1,f2,f3,j2,e2,hx,h⟩:=q j l _ hj f p ⟨by omega,by omega⟩;have hA:=d3 f1 f2 f3 x;generalize et f1 f2 f3 x=A at e2 hA;have r:=Ex.aX x;refine⟨⟨11,0,[],0,[x],[],bF⟩,true,true,true,j2,?_,(f_ DS (by decide) (by simp) jn jo (by simpa using hx) (.held rfl rfl rfl hx.tx)).up (by omega),h⟩;have h1:¬((dep:Int)+1<1):=by omega
 have h2:(dep:Int)+1-1=dep:=by omega
 try simp[tn,c,k]at e9 arr wI e2
 rw[aM g326];simp(disch:=omega)[tn,c,k,g326,h1,h2,nz,e9,arr,wI,e2,ae,hA.gr,hA.flat,hA.tV,hA.len,hA.leaf,r,et,ic,bF]
end Go.Ab.Lw
namespace Go.Ab.Lw
open Ev
structure Thw(x u:Ty):Prop where
 ok:u.Ok
 kn:u.Kn KS
 vn:u.Vn
 vr:∀y∈u.nodes,y.kind=1->∃z∈x.nodes,z.kind=3/\z.home=99/\y.id=IntKind.i64.wrap (900+z.id)
 n:u.nodes.length<=x.nodes.length
 hp:u.pd z0<=x.pd z0
structure Z3(x u:Ty):Prop where
 ok:u.Ok
 kn:u.Kn KS
 vn:u.Vn
 vr:∀y∈u.nodes,y.kind=1->∃z∈x.nodes,z.kind=3/\z.home=99/\y.id=IntKind.i64.wrap (900+z.id)
 hp:1+u.pd z0<=Ty.MY z0 x.args
def UP{x:Ty}(hx:x.Ok)(j:∀a∈x.args,∃u:Ty,(az AP).p 375 [a.pv]=some [u.pv]/\Thw a u):∀(k i:Nat),x.args.length-i=k->i<=x.args.length->∀acc:List Ty,acc.length=i->(∀u∈acc,Z3 x u)->(acc.flatMap Ty.nodes).length<=((x.args.take i).flatMap Ty.nodes).length->∃c:List Ty,
   cl AP g375L0 ⟨[(1,.au 1 0),(2,.au 2 0),(3,.au 3 0),(4,.pv (vI i))],[(1,tC x),(2,zC 0),(3,uC x acc 1)],[],[0,acc.length]⟩=
     some (.exit 0,⟨[(1,.au 1 0),(2,.au 2 0),(3,.au 3 0),(4,.pv (vI x.args.length)),(23,.pv (.bool false))],[(1,tC x),(2,zC 0),(3,uC x c 1)],[],[0,c.length]⟩)/\c.length=x.args.length/\(∀u∈c,Z3 x u)/\(c.flatMap Ty.nodes).length<=(x.args.flatMap Ty.nodes).length
 |0,i,m,hi,acc,h,hu,hc=>by
  have:i=x.args.length:=by omega
  subst this;refine⟨acc,?_,h,hu,by simpa using hc⟩;rw[g375L0e];simp[g375B0,tC,zC,uC]
 |k+1,i,m,hi,acc,h,hu,hc=>by
  have hi:i<x.args.length:=(by omega);obtain⟨a,b⟩:=aQ hi;have f:=hx.sm;unfold Sm at f;obtain⟨u,e,d⟩:=j a (aK b);have l:=d.n
  obtain⟨c,g,h1,h2,h3⟩:=UP hx j k (i+1) (by omega) (by omega) (acc++[u]) (by simp;omega) (by
   intro y hy;simp at hy;rcases hy with hy|rfl
   .exact hu y hy
   .exact⟨d.ok,d.kn,d.vn,fun z hz q=>by obtain⟨w,hw,hr⟩:=d.vr z hz q;exact⟨w,MD a (aK b) w hw,hr⟩,by have:=d.hp;have:=AF (ht:=z0) (aK b);omega⟩) (by rw[zaU,b,zbL,zad,zbL,zad];simp only[zcA,zav,zc5,zax];omega)
  refine⟨c,?_,h1,h2,h3⟩;have o:(acc.length+1)*64<=140737488355328:=by omega
  rw[g375L0e]at g ⊢;simp at e;simp[tC,zC,uC]at g;simp(disch:=omega)[-getElem?_pos,g375B0,tC,zC,uC,hi,b,ae,e,o];rw[g375L0e];simp[g]
def c375x{t:Ty}(b:bL t):∃u:Ty,(az AP).p 375 [t.pv]=some [u.pv]/\Thw t u:=by
 revert b
 refine Ty.cD (p:=fun t=>bL t->∃u:Ty,(az AP).p 375 [t.pv]=some [u.pv]/\Thw t u) ?_ t;intro t m b;have c:t∈t.nodes:=by rw[Ty.aL];simp
 have d:1<=t.nodes.length:=by rw[Ty.aL];simp
 by_cases q:t.kind=3/\t.home=99
 .have k:=c63 (n:=IntKind.i64.wrap (900+t.id));refine⟨⟨1,[],IntKind.i64.wrap (900+t.id),0,[]⟩,?_,⟨cW rfl,.bare rfl (by simp) (by simp),mJ rfl (.inl rfl),?_,by rw[Ty.aL];simpa using d,by rw[jG rfl];exact zby _⟩⟩
  .simp at k;rw[aw g375];simp[g375,q.1,q.2,k]
  .intro y hy _;rw[Ty.aL]at hy;simp at hy;subst hy;exact⟨t,c,q.1,q.2,rfl⟩
 .obtain⟨i,e,h1,h2,h3⟩:=UP b.ok (fun a j=>m a j (b.d6 a j)) _ 0 rfl (by omega) [] rfl (by simp) (by simp);refine⟨⟨t.kind,t.name,t.id,t.home,i⟩,?_,⟨⟨by have:=b.ok.sm;unfold Sm at*;simp only;omega,fun y hy=>(h2 y hy).ok⟩,.mk (fun r=>?_) b.kn.nm fun y hy=>(h2 y hy).kn,AM b.vn h1 fun y hy=>(h2 y hy).vn,?_,by rw[Ty.aL,Ty.aL t];simp only[zae];omega,?_⟩⟩
  .rw[aw g375];rw[g375L0e]at e;simp[tC,zC,uC]at e;by_cases g:t.kind=3
   .have l:¬t.home=99:=fun h=>q ⟨g,h⟩;simp[g]at e;simp[g375,g,l,g375L0e,e]
   .simp[g375,g,g375L0e,e]
  .have:=b.kn.hd r;refine⟨Ud _ this.1,?_⟩;rw[this.2]at h1;exact zaR.1 h1
  .intro y hy f;rw[Ty.aL]at hy;simp only[zau,zaC]at hy;rcases hy with rfl|⟨u,hu,hy⟩
   .have:=(b.kn.hd (by change t.kind=1 at f;rw[f];decide)).1
    change t.kind=1 at f
    rw[f]at this;simp at this
   .exact(h2 u hu).vr y hy f
  .have k:¬t.kind=1:=fun k=>b.DP _ (.var k);rw[Ty.gm,zai (show ¬(⟨t.kind,t.name,t.id,t.home,i⟩:Ty).kind=1 from k),Ty.gm z0 t,zai k];exact kA fun u hu=>(h2 u hu).hp
def Qf{l:List Ty}:∀{out:List Ty}{y:Ty},y∈out\/y∈l->y∈l.foldl iw out:=by
 induction l with
 |nil=>intro out y h;simpa using h
 |cons a r b=>
  intro out y h;rw[zaS];refine b ?_;rcases h with h|h
  .left;unfold iw;split
   .exact h
   .simp[h]
  .simp only[zau]at h;rcases h with rfl|h
   .left;unfold iw;split
    .assumption
    .simp
   .exact .inr h
def c59x{u:Ty}(hu:u.Ok)(hn:u.nodes.length<=4000):∃r:List Ty,(az AP).p 59 [.aq [u.pv]]=some [.aq (r.map Ty.pv)]/\Sm r/\∀y∈u.fm 3,y∈r:=by
 have hl:=qP (k:=3) (t:=u);have c0:gM (u.fm 3) []:=⟨by simp,by simp,by omega,fun x hx=>cW (nN x hx)⟩;have a:∀x∈[u].flatMap (Ty.fm 3),x∈u.fm 3:=by simp
 have h:=L59 (S:=u.fm 3) (l:=[u]) (by simp[Sm]) (by simpa using hu) a _ 0 rfl (by omega) [] c0;have hc:=c0.fold a;refine⟨_,?_,hc.len,fun y hy=>Qf (.inr (by simpa using hy))⟩;rw[aw g59];rw[g59L0e]at h;simp at h;simp[g59,g59L0e,h]
def Qg{k:Int}{t:Ty}:∀y∈t.nodes,y.kind=k->y.args=[]->y∈t.fm k:=by
 refine Ty.cD (p:=fun t=>∀y∈t.nodes,y.kind=k->y.args=[]->y∈t.fm k) ?_ t;intro t e y hy c d;rw[Ty.aL]at hy;rw[Ty.nH];simp only[zau,zaC]at hy;rcases hy with rfl|⟨a,b,hy⟩
 .rw[zan ⟨c,by rw[d];rfl⟩];simp
 .have:¬(t.kind=k/\t.args.length=0):=by
   rintro⟨_,h⟩
   rw[zaR.1 h]at b;cases b
  rw[zai this];simp only[zaC];exact⟨a,b,e a b y hy c d⟩
def Qh{r:List Ty}(hr:Sm r){t:Ty}:∀(n i:Nat),r.length-i=n->i<=r.length->∀acc:List Int,acc.length<=i->∃ids:List Int,ids.length<=r.length/\(∀v∈acc,v∈ids)/\(∀z∈r.drop i,z.home=99->IntKind.i64.wrap (900+z.id)∈ids)/\
   cl AP g361L0 ⟨[(1,.au 1 0),(2,.au 2 0),(3,.own (acc.map vI) 0),(4,.pv (.aq (r.map Ty.pv))),(5,.pv (vI i))],[(1,tC t),(2,gz 1)],[],[acc.length,0]⟩=
     some (.exit 0,⟨[(1,.au 1 0),(2,.au 2 0),(3,.own (ids.map vI) 0),(4,.pv (.aq (r.map Ty.pv))),(5,.pv (vI r.length)),(12,.pv (.bool false))],[(1,tC t),(2,gz 1)],[],[ids.length,0]⟩)
 |0,i,hn,hi,acc,c=>by
  have:i=r.length:=by omega
  subst this;refine⟨acc,c,fun _ h=>h,by simp,?_⟩;rw[g361L0e];simp[g361B0,tC,gz]
 |n+1,i,hn,hi,acc,c=>by
  have hi:i<r.length:=(by omega);obtain⟨x,hx⟩:=aQ hi;have b:=hr;unfold Sm at hr;have d:(acc.length+1)*8<=140737488355328:=(by omega);have a:bl 1 (acc.map vI)=true:=lq.head acc;rw[aR hx];by_cases q:x.home=99
  .obtain⟨ids,h1,h2,h3,e⟩:=Qh (t:=t) b n (i+1) (by omega) (by omega) (acc++[IntKind.i64.wrap (900+x.id)]) (by simp;omega);refine⟨ids,h1,fun v hv=>h2 v (by simp[hv]),?_,?_⟩
   .intro z hz a;simp only[zau]at hz;rcases hz with rfl|hz
    .exact h2 _ (by simp)
    .exact h3 z hz a
   .rw[g361L0e]at e⊢;simp[tC,gz]at e;simp(disch:=omega)[-getElem?_pos,g361B0,tC,gz,hx,hi,q,d,a];rw[g361L0e];have w1:IntKind.i64.wrap ((i:Int)+1)=(i:Int)+1:=ae (by omega) (by omega);simp[w1,e]
  .obtain⟨ids,h1,h2,h3,e⟩:=Qh (t:=t) b n (i+1) (by omega) (by omega) acc (by omega);refine⟨ids,h1,h2,?_,?_⟩
   .intro z hz a;simp only[zau]at hz;rcases hz with rfl|hz
    .exact absurd a q
    .exact h3 z hz a
   .rw[g361L0e]at e⊢;simp[tC,gz]at e;simp(disch:=omega)[-getElem?_pos,g361B0,tC,gz,hx,hi,q,ae];rw[g361L0e];simp[e]
def pS{ids:List Int}:∀(vs:List Int)(acc:List As),(∀a∈acc,∃k:Nat,k<acc.length/\a.ty=cL k)->(∀a∈cZ ids vs acc,∃k:Nat,k<(cZ ids vs acc).length/\a.ty=cL k)/\(cZ ids vs acc).length<=acc.length+vs.length/\(∀v,(∃x,ll acc v=some x)->∃x,ll (cZ ids vs acc) v=some x)/\∀v∈vs,v∈ids->∃x,ll (cZ ids vs acc) v=some x
 |[],acc,h=>⟨h,by simp[cZ],fun _ h=>h,by simp⟩
 |v::r,acc,h=>by
  simp only[cZ];by_cases q:v∈ids
  .rw[zan q]
   obtain⟨h1,h2,h3,h4⟩:=pS (ids:=ids) r (acc++[⟨v,cL acc.length⟩]) (by
    intro a b;simp at b;rcases b with b|rfl
    .obtain⟨k,c,e⟩:=h a b;exact⟨k,by simp;omega,e⟩
    .exact⟨acc.length,by simp,rfl⟩)
   refine⟨h1,by simp at h2⊢;omega,?_,?_⟩
   .rintro w ⟨x,hx⟩
    exact h3 w ⟨x,by rw[Ag,hx];rfl⟩
   .intro w hw hi;simp only[zau]at hw;rcases hw with rfl|hw
    .refine h3 w ?_;rw[Ag];cases ll acc w with
     |some x=>exact⟨x,rfl⟩
     |none=>exact⟨cL acc.length,by simp[ll]⟩
    .exact h4 w hw hi
  .rw[zai q];obtain⟨h1,h2,h3,h4⟩:=pS (ids:=ids) r acc h;refine⟨h1,by simp;omega,h3,?_⟩;intro w hw hi;simp only[zau]at hw;rcases hw with rfl|hw
   .exact absurd hi q
   .exact h4 w hw hi
def MI{s:List As}{t:Ty}:∀y∈(t.sub s).nodes,(∃i x,ll s i=some x/\y∈x.nodes)\/∃z∈t.nodes,y.kind=z.kind:=by
 refine Ty.cD (p:=fun t=>∀y∈(t.sub s).nodes,(∃i x,ll s i=some x/\y∈x.nodes)\/∃z∈t.nodes,y.kind=z.kind) ?_ t;intro t f y hy
 have d6:∀a∈t.args,y∈(a.sub s).nodes->(∃i x,ll s i=some x/\y∈x.nodes)\/∃z∈t.nodes,y.kind=z.kind:=by
  intro a d h;rcases f a d y h with h|⟨z,hz,h⟩
  .exact .inl h
  .exact .inr ⟨z,MD a d z hz,h⟩
 have c:t∈t.nodes:=by rw[Ty.aL];simp
 rw[Ty.sub_eq]at hy;split at hy
 .cases e:ll s t.id with
  |some x=>rw[e]at hy;exact .inl ⟨_,x,e,hy⟩
  |none=>rw[e]at hy;exact .inr ⟨y,by simpa using hy,rfl⟩
 .rw[Ty.aL]at hy;simp only[zau,zaC,zat]at hy;rcases hy with rfl|⟨b,⟨a,d,rfl⟩,hy⟩
  .exact .inr ⟨t,c,rfl⟩
  .exact d6 a d hy
def yG:∀{l:List Ty}{out:List Int},(l.foldl eR out).length<=out.length+l.length
 |[],out=>by simp
 |a::r,out=>by
  have h:=yG (l:=r) (out:=eR out a);have:(eR out a).length<=out.length+1:=by unfold eR;split<;>simp
  simp only[zaS,zae];omega
def Ta{u:Ty}:(vars [u]).length<=u.nodes.length:=by
 have:=yG (l:=[u].flatMap Ty.nodes) (out:=[]);simpa[vars]using this
def yH{l:List Ty}:∀{out:List Int}{y:Ty},y∈l->y.kind=1->y.id∈l.foldl eR out:=by
 have aW:∀(l:List Ty)(out:List Int)(v:Int),v∈out->v∈l.foldl eR out:=by
  intro l;induction l with
  |nil=>intro out v h;exact h
  |cons a r b=>intro out v h;rw[zaS];refine b _ v ?_;unfold eR;split<;>simp[h]
 induction l with
 |nil=>intro out y h;simp at h
 |cons a r b=>
  intro out y h c;rw[zaS];simp only[zau]at h;rcases h with rfl|h
  .refine aW r _ _ ?_;unfold eR;by_cases q:y.id∈out<;>simp[q,c]
  .exact b h c
def c361x{x:Ty}(m:bL x)(hn:x.nodes.length<=90):∃c:Sc,(az AP).p 361 [x.pv]=some [c.pv]/\m5 c/\c.ty.Vn/\c.ty.pd z0<=x.pd z0:=by
 obtain⟨r,k1,hr,j⟩:=c59x m.ok (by omega);obtain⟨u,k2,T⟩:=c375x m;obtain⟨ids,hi,_,l,h⟩:=Qh (t:=x) hr _ 0 rfl (by omega) [] (by simp);have hl:=qP (k:=1) (t:=u);have q:=T.n;have k3:=c208 (t:=u) ⟨T.ok,T.kn.wf,u.fm 1,by omega,fun y hy=>cW (nN y hy),fun y hy=>hy⟩ (ids:=ids) (by unfold Sm at*;omega);have hv:=Ta (u:=u);obtain⟨c1,c2,_,c4⟩:=pS (ids:=ids) (vars [u]) [] (by simp)
 have f:∀y∈u.nodes,y.kind=1->∃z,ll (cZ ids (vars [u]) []) y.id=some z:=by
  intro y hy d;refine c4 _ (yH (by simpa using hy) d) ?_;obtain⟨z,hz,o,g,e⟩:=T.vr y hy d;rw[e]
  refine l z (by
   rw[zaj];refine j z ?_;have v:=(m.kn.nodes z hz (by rw[o];decide)).2;exact Qg z hz o v) g
 refine⟨qI ids u (vars [u]),?_,⟨Hf T.ok,?_,(cZ ids (vars [u]) []).length,rfl,by simp at c2;omega,?_⟩,IS.sub (fun i z hz=>by
  obtain⟨a,b,rfl⟩:=kT hz;obtain⟨k,_,e⟩:=c1 a b;rw[e];exact mJ rfl (.inr (.inl rfl))) _ T.vn,za9 (AI (fun i z hz=>by
  obtain⟨a,b,rfl⟩:=kT hz;obtain⟨k,_,e⟩:=c1 a b;rw[e];exact jG rfl) u) T.hp⟩
 .generalize qI ids u (vars [u])=c at*;rw[g361L0e]at h;simp[tC,gz]at h;simp at k1 k2 k3;rw[aw g361];simp[g361,k1,k2,k3,g361L0e,h]
 .refine Hj (K:=KS) T.kn (by simp only[KS,KC];omega) ?_ (.inr f);intro i z hz;obtain⟨a,b,rfl⟩:=kT hz;obtain⟨k,_,e⟩:=c1 a b;rw[e];exact .bare rfl (by simp[cL]) (by simp[cL])
 .intro y hy d;rcases MI y hy with⟨i,z,hz,hy⟩|⟨z,hz,e⟩
  .obtain⟨a,b,rfl⟩:=kT hz;obtain⟨k,s,e⟩:=c1 a b;rw[e,Ty.aL]at hy;simp[cL]at hy;subst hy;simp only;omega
  .have:=(T.kn.nodes z hz (by rw[<-e,d];decide)).1;rw[<-e,d]at this;simp at this
def Qi:List Ty:=[⟨3,[],0,99,[]⟩,⟨3,[],1,99,[]⟩]
def c349{L:List Int}{tm:Nat}{TP:Int->Sh}(hT:Tape L tm TP){ds:List Dt}{dep:Nat}{l:List En}{g:Ty}{i:Nat}(v:Sm L)(q:dep<3)(M:ds.length<=20)(h:∀d∈ds,d.params.length<=8)(K:∀d∈ds,jD d.name d.params.length=true)(N:∀d∈ds,d.name.length<=100)(T:lC L tm TP ds dep)(hl:Ctx (1000-20*(dep+1)) (HH (dep+1)) l)(hg:bL g)(o:g.nodes.length<=6000-20*(dep+1)/\g.pd z0<=HH (dep+1))(hi:i<=L.length):
   oK L tm TP (4*(dep+2)) ((az AP).i 349 [.aV tm 0,.pv (.aq (ds.map Dt.pv)),.pv (.aq (l.map En.pv)),.pv g.pv,.pv (vI (dep+1:Nat))] (TP i) []):=by
 have tn:=hT.norm;have e:=hT.shift;have j:=hT.take;obtain⟨r,j1,e1,r0,r1,J⟩:=pR hT v hi (n:=2) (by omega) (by omega);obtain⟨s,j2,e2,hs,I⟩:=MF hT v J;obtain⟨p,j3,e3,p0,p1,H⟩:=pR hT v I (n:=2) (by omega) (by omega)
 have f:∀t∈(if p=0 then Qi else[]),t.args=[]/\t.kind=3/\t.name=[]:=by
  intro t ht;split at ht
  .simp[tn,e,j,Qi]at ht;rcases ht with rfl|rfl<;>exact⟨rfl,rfl,rfl⟩
  .cases ht
 obtain⟨x,j4,e4,mx,G⟩:=WT hT v M h (lv:=if p=0 then Qi else[]) (by unfold Sm;split<;>simp[tn,e,j,Qi]) 2 (by omega) j3 H;have w:bL x:=mK h K N f mx;have a1:=mx.small h (fun t ht=>(f t ht).1);have a0:=nU (fun t ht=>(f t ht).1) mx;have a3:=jF q;have a4:=S8 (dep+1);obtain⟨o,a6⟩:=o;obtain⟨c,R,sc,Y,Z⟩:=c361x w (by omega);have a2:=hl.len;have k1:=c176 (t:=x);have k2:=c179 (l:=l) (by unfold Sm;omega) (n:=s) (c:=⟨0,x⟩);have D:Ctx (1000-20*dep) (HH dep) l:=hl.iy (by omega) (by omega)
 have C:Ctx (1000-20*dep) (HH dep) (if r=1 then l++[⟨s,⟨0,x⟩⟩]else l):=by
  split
  .exact hl.push w.mono (cH _ hs) w.vn (by show x.pd z0<=_;omega) (by omega) (by omega)
  .exact D
 obtain⟨a,f1,f2,f3,j5,e5,u,F⟩:=T j4 _ x G C w ⟨by omega,by omega⟩;obtain⟨b10,k3⟩:=c307 u.sc.ok 10;obtain⟨b11,k4⟩:=c307 u.sc.ok 11;have k5:=c34;have k6:=c176 (t:=bK)
 obtain⟨c',O,UQ,y,z⟩:∃c':Sc,c'=(if b10=true\/b11=true then⟨0,bK⟩else c)/\m5 c'/\c'.ty.Vn/\c'.ty.pd z0<=HH dep:=by
  refine⟨_,rfl,?_⟩;split
  .exact⟨uv.mono,nR,by rw[jG rfl];exact zby _⟩
  .exact⟨sc,Y,by omega⟩
 have k7:=c179 (l:=l) (by unfold Sm;omega) (n:=s) (c:=c');obtain⟨b,W,V,U,j6,e6,S,E⟩:=T j5 _ g F (hl.push (s:=s) UQ (cH _ hs) y z (by omega) (by omega)) hg ⟨by omega,by omega⟩;have hA:=d3 f1 f2 f3 a;generalize et f1 f2 f3 a=A at e5 hA;have k:=d3 W V U b;generalize et W V U b=B at e6 k;have ac:=Ex.aX a;have bc:=Ex.aX b;have X:A.take 11=A:=zaf (by rw[hA.len];omega);have hk:6+r≠8:=by omega
 refine⟨⟨6+r,0,s,0,[a,b],[],bF⟩,true,true,true,j6,?_,(f_ (IX (by omega) (cH _ hs)) hk (by simp) jn jo (by simpa using⟨u,S⟩) (.rY (by simp only;omega) (cH _ hs).1 rfl rfl u.tx S.tx)).up (by omega),E⟩;have h2:(dep:Int)+1-1=dep:=by omega
 have Q:=c71 (n:=99) (m:=0);have P:=c71 (n:=99) (m:=1);have hr:r=0\/r=1:=by omega
 simp[tn,e,j,Ty.av]at e1 e2 e3 e4 R k1 k2 k3 k4 e5;rw[aM g349];rcases hr with rfl|rfl<;>by_cases hp:p=0<;>cases b10<;>cases b11<;>subst O<;>simp[tn,e,j,bK]at k5 k6 k7 e6<;>simp[tn,e,j,hp,Qi]at e4 e5 Q P <;>
 simp (disch:=omega) [tn,e,j,g349,h2,e1,e2,e3,hp,e4,R,k1,k2,k3,k4,k5,k6,k7,e5,e6,Q,P,ae,hA.gr,hA.flat,hA.tV,hA.len,hA.leaf,k.gr,k.flat,k.tV,k.len,k.leaf,X,ac,bc,aU,et,ic,bF]
def MJ{vs:List Int}{x:Ty}{v:Int}(h:v∈vs):ll (vs.map fun v=>As.mk v x) v=some x:=by
 induction vs with
 |nil=>simp at h
 |cons a r b=>
  simp only[zal,ll];by_cases e:a=v
  .simp[e]
  .simp only[zau]at h;rcases h with h|h
   .exact absurd h.symm e
   .simp[e,b h]
def mL{vs:List Int}{x y:Ty}{v:Int}(h:ll (vs.map fun v=>As.mk v x) v=some y):y=x:=by
 obtain⟨a,b,rfl⟩:=kT h;simp only[zat]at b;obtain⟨w,_,rfl⟩:=b;rfl
def Tb{s:List As}(hs:∀i x,ll s i=some x->x.nodes.length<=1)(t:Ty):(t.sub s).nodes.length<=t.nodes.length:=by
 refine Ty.cD (p:=fun t=>(t.sub s).nodes.length<=t.nodes.length) ?_ t;intro t c;rw[Ty.sub_eq];split
 .cases e:ll s t.id with
  |some x=>
   have:=hs _ _ e;rw[Ty.aL t];simp only[zbZ,zae];omega
  |none=>exact zas _
 .rw[Ty.aL,Ty.aL t];simp only[zae,zcg,zbv]
  have:(t.args.map ((fun x=>x.nodes.length) ∘ Ty.sub s)).sum<=(t.args.map fun x=>x.nodes.length).sum:=by
   generalize t.args=l at c;induction l with
   |nil=>simp
   |cons a r b=>
    have h1:=c a (by simp);have h2:=b fun x hx=>c x (by simp[hx])
    simp only[zal,zbj,Function.comp_apply];omega
  omega
def c363x{t:Ty}(h:MB t)(hv:t.Vn):∃u:Ty,(az AP).p 363 [t.pv]=some [u.pv]/\bL u/\u.nodes.length<=4000/\u.pd z0<=t.pd z0:=by
 have hl:=qP (k:=1) (t:=t);have hn:=h.2;refine⟨_,c363 (S:=t.fm 1) (by omega) (fun x hx=>cW (nN x hx)) (t:=t) ⟨h.1.1,h.1.2.wf,fun x hx=>hx⟩,⟨?_,?_,IS.sub (fun i x hx=>by rw[mL hx];exact nR) _ hv⟩,za9 (Tb (fun i x hx=>by rw[mL hx,Ty.aL];simp[bK]) t) h.2,AI (fun i x hx=>by rw[mL hx];exact jG rfl) t⟩
 .refine Hc ?_ h.1.1;intro a b;simp only[zat]at b;obtain⟨w,_,rfl⟩:=b;exact uv.ok
 .refine Hj (K:=KS) h.1.2 (by simp only[KS,KG];omega) ?_ (.inr ?_)
  .intro i x hx;rw[mL hx];exact uv.kn
  .intro y hy c;exact⟨bK,MJ (yH (by simpa using hy) c)⟩
def XV(h:Hd):List AV:=[.pv (.str h.name),.pv (.bool h.cv),.pv (.aq (h.args.map Ty.pv)),.pv (.aq (h.types.map Ty.pv))]
def XW(k:Int)(s:bj)(ks:List Ex):List AV:=[.pv (vI k),.pv (vI 0),.pv (.str s),.pv (vI 0),.own (ks.map Ex.pv) 3,.own [] 4,.pv (vI 0),.pv (.str []),.pv (vI 0),.pv (vI 0),.own [] 5]
def Z4{L:List Int}{tm:Nat}{TP:Int->Sh}(hT:Tape L tm TP){ds:List Dt}{dep:Nat}{l:List En}(e:dep<3)(q:lC L tm TP ds dep)(hl:Ctx (1000-20*dep) (HH dep) l){h:Hd}{B:Nat}(z:B<=HH dep)(d:wE B h):∀(n i:Nat),h.args.length-i=n->i<=h.args.length->∀(k:Int)(s:bj)(ks:List Ex)(I N:Nat),yF N ⟨k,0,s,0,ks,[],bF⟩->4*(dep+1)<=N->N+n<=4*(dep+1)+3->I<=L.length->∃(k':Int)(s':bj)(b:List Ex)(J:Nat),yF (N+n) ⟨k',0,s',0,b,[],bF⟩/\J<=L.length /\
   cl AP g352L0 ⟨[(0,.aV tm 0),(1,.pv (.aq (ds.map Dt.pv))),(2,.pv (.aq (l.map En.pv))),(4,.pv (vI (dep+1))),(10,.au 10 0),(12,.au 12 0),(13,.au 13 0),(14,.pv (vI i))],[(10,qO 0),(12,XV h),(13,XW k s ks)],TP I,[0,0,0,ks.length,0,0]⟩=
     some (.exit 0,⟨[(0,.aV tm 0),(1,.pv (.aq (ds.map Dt.pv))),(2,.pv (.aq (l.map En.pv))),(4,.pv (vI (dep+1))),(10,.au 10 0),(12,.au 12 0),(13,.au 13 0),(14,.pv (vI h.args.length)),(45,.pv (.bool false))],[(10,qO 0),(12,XV h),(13,XW k' s' b)],TP J,[0,0,0,b.length,0,0]⟩)
 |0,i,hn,hi,k,s,ks,I,N,g,hN,m,o=>by
  have tn:=hT.norm;have a:=hT.shift;have c:=hT.take;have:i=h.args.length:=(by omega);subst this;refine⟨k,s,ks,I,g,o,?_⟩;rw[g352L0e];simp[tn,a,c,g352B0,qO,XV,XW]
 |n+1,i,hn,hi,k,s,ks,I,N,g,hN,m,o=>by
  have tn:=hT.norm;have a:=hT.shift;have c:=hT.take;have hi:i<h.args.length:=(by omega);obtain⟨t,ht⟩:=aQ hi;obtain⟨u,k1,C,G,F⟩:=c363x (d.2.1 t (aK ht)).1 (d.2.1 t (aK ht)).2;obtain⟨y,f1,f2,f3,j,k2,hy,hj⟩:=q I l u o hl C ⟨by omega,by have:=d.2.2.2 t (aK ht);omega⟩
  have f:yF (N+1) ⟨5,0,[],0,[⟨k,0,s,0,ks,[],bF⟩,y],[],bF⟩:=by
   obtain⟨r,rfl⟩:∃r,N=4*(dep+1)+r:=⟨N-4*(dep+1),by omega⟩;exact S7 (by omega) (by omega) g hy
  obtain⟨k',s',b,J,x,w,p⟩:=Z4 hT e q hl z d n (i+1) (by omega) (by omega) 5 [] [⟨k,0,s,0,ks,[],bF⟩,y] j (N+1) f (by omega) (by omega) hj;refine⟨k',s',b,J,x.up (by omega),w,?_⟩;have hA:=d3 f1 f2 f3 y;generalize et f1 f2 f3 y=A at k2 hA;have D:=Ex.aX y;have v:A.take 11=A:=zaf (by rw[hA.len];omega);have h2:(dep:Int)+1-1=dep:=by omega
  have E:=d.1;rw[g352L0e]at p ⊢;simp[tn,a,c,qO,XV,XW,bF]at p
  try simp[tn,a,c]at k1 k2
  simp (disch:=omega) [tn,a,c,-getElem?_pos,g352B0,qO,XV,XW,ht,hi,h2,k1,k2,ae,hA.gr,hA.flat,hA.tV,hA.len,hA.leaf,v,D,aU];rw[g352L0e];simp[tn,a,c,p]
def c352{L:List Int}{tm:Nat}{TP:Int->Sh}(hT:Tape L tm TP){ds:List Dt}{dep:Nat}{l:List En}{g:Ty}{i:Nat}(q:Sm L)(b:dep<3)(x:oJ ds)(w:lC L tm TP ds dep)(hl:Ctx (1000-20*(dep+1)) (HH (dep+1)) l)(p:bL g)(o:g.pd z0<=HH (dep+1))(hi:i<=L.length):
   oK L tm TP (4*(dep+2)) ((az AP).i 352 [.aV tm 0,.pv (.aq (ds.map Dt.pv)),.pv (.aq (l.map En.pv)),.pv g.pv,.pv (vI (dep+1:Nat))] (TP i) []):=by
 have tn:=hT.norm;have a:=hT.shift;have d:=hT.take;have u:=hl.len;obtain⟨hs,y,v,k1⟩:=c362 p o (S8 _) x (l:=l) hl.hd (by omega) hl.Z1 hl.vn hl.nm;by_cases z:hs=[]
 .subst z;obtain⟨e,f1,f2,f3,j,k,ht,hj⟩:=c348 hT q (ds:=ds) (hl.iy (by omega) (zas _)) p hi;refine⟨e,f1,f2,f3,j,?_,ht.up (by omega),hj⟩
  try simp[tn,a,d]at k1
  rw[aM g352];cases f1<;>cases f2<;>cases f3<;>simp[tn,a,d,et,ic]at k<;>simp[tn,a,d,g352,k1,k,et,ic,aU]
 .have hp:0<hs.length:=zaX.2 z;obtain⟨m,j,e1,m0,t,hj⟩:=pR hT q hi (n:=hs.length) (by omega) (by omega);obtain⟨m,rfl,hm⟩:=mY m0 t;obtain⟨h,hx⟩:=aQ hm;have c:=v h (aK hx);have A:=c.1;obtain⟨k',s',f,J,s,r,e2⟩:=Z4 hT (L:=L) (l:=l) b w (hl.iy (by omega) (by have:=jF b;omega)) (jF b) c _ 0 rfl (by omega) (if h.cv=true then 2 else 1) h.name [] j (4*(dep+1)) ((eW (.inl ⟨by have h3:=c.2.2.1;cases hc:h.cv with|true=>rw[hc]at h3;exact .inr ⟨by simp,h3⟩|false=>rw[hc]at h3;exact .inl ⟨by simp,h3⟩,rfl⟩)).up (by omega)) (by omega) (by omega) hj;refine⟨⟨k',0,s',0,f,[],bF⟩,false,false,false,J,?_,s.up (by omega),r⟩;rw[g352L0e]at e2
  try simp[tn,a,d]at k1 e1
  rw[aM g352];cases hc:h.cv<;>simp[tn,a,d,qO,XV,XW,hc]at e2<;>simp[tn,a,d,-getElem?_pos,g352,k1,z,e1,hx,hc,g352L0e,e2,et,ic,bF,aU]
def IZ:∀d∈bf,d.params.length<=100/\∀c∈d.cons,∀f∈c.fields,SZ ⟨d.params.length,f.kE d.params⟩=true:=by decide +kernel
def DU{K:Nat}{t:Ty}(h:m5 ⟨K,t⟩)(hv:t.Vn){as:List Ty}(d:as.length=K)(b:∀a∈as,bL a):bL (t.ly as):=by
 obtain⟨K',h1,_,h3⟩:=h.ZW;have:K'=K:=by simp at h1;omega
 subst this;exact⟨Px (fun a h=>(b a h).ok) h.ok,Py h.kn (by simp only[KC,KG];omega) (fun a h=>(b a h).kn) (fun y hy c=>by have:=h3 y hy c;omega),IS.ly (fun a h=>(b a h).vn) _ hv⟩
def Qj:∀d∈bf,∀c∈d.cons,c.fields.length<=4:=by decide +kernel
def DV{ds:List Dt}(j:oJ ds){s:bj}{as:List Ty}(h:∀a∈as,bL a):((fieldsOf ds s as).getD []).length<=4/\∀f∈(fieldsOf ds s as).getD [],bL f:=by
 cases e:fieldsOf ds s as with
 |none=>simp
 |some fs=>
  simp only[fieldsOf,zaF]at e;obtain⟨q,_,d,hd,c,hc,e⟩:=e;split at e
  .rename_i hl;cases e;have b:=j.all d (aK hd);obtain⟨_,_,h8⟩:=ep d b;obtain⟨i,g⟩:=IZ d b;refine⟨by simpa using Qj d b c (aK hc),?_⟩;intro f hf;simp only[zbZ,zat]at hf;obtain⟨x,hx,rfl⟩:=hf;exact DU (AN rfl i (g c (aK hc) x hx)) ((sk d b c (aK hc)).2.1 x hx) hl h
  .cases e
def MK{ds:List Dt}(k:oJ ds){s:bj}{as:List Ty}(i:∀a∈as,a.pd z0<=1):∀f∈(fieldsOf ds s as).getD [],f.pd z0<=5:=by
 cases e:fieldsOf ds s as with
 |none=>simp
 |some fs=>
  simp only[fieldsOf,zaF]at e;obtain⟨q,_,d,hd,c,hc,e⟩:=e;split at e
  .cases e
   have g:=k.all d (aK hd);obtain⟨j,b⟩:=IZ d g;intro f hf;simp only[zbZ,zat]at hf;obtain⟨x,hx,rfl⟩:=hf;have h1:=(P9 d g c (aK hc)).2 x hx;have h2:=HB (ht:=z0) i (x.kE d.params) fun w h=>wF h (AN (c:=⟨d.params.length,x.kE d.params⟩) rfl j (b c (aK hc) x hx)).kn (by simp)
   omega
  .cases e
def oJ.small{ds:List Dt}(h:oJ ds):Small ds where
 num:=by have:=h.len;unfold Sm;omega
 cv:=fun d hd=>by have:=(ep d (h.all d hd)).2.1;unfold Sm;omega
 tot:=by have:=h.len;have:=SJ (b:=8) fun d hd=>(ep d (h.all d hd)).2.1;unfold Sm;omega
 par:=fun d hd=>by have:=(ep d (h.all d hd)).1;unfold Sm;omega
 fld:=fun d hd c hc=>by
  obtain⟨a,b,c2⟩:=IT (h.all d hd) c hc;exact⟨a,b,fun x hx=>(c2 x hx).cw⟩
def US{L:List Int}{tm:Nat}{TP:Int->Sh}(hT:Tape L tm TP)(s:Sm L){ds:List Dt}(f:ds.length<=20)(b:∀d∈ds,d.params.length<=8)(e:∀d∈ds,jD d.name d.params.length=true)(h:∀d∈ds,d.name.length<=100){p2:PV}{p4:PV}{g:Ty}{d:Dt}(o:d.params.length<=8):∀(n k:Nat),d.params.length-k=n->k<=d.params.length->∀(acc:List Ty)(i:Nat),acc.length=k->(∀x∈acc,bL x/\x.nodes.length<=9/\x.pd z0<=1)->i<=L.length->
   ∃(r:List Ty)(j:Nat),r.length=d.params.length/\(∀x∈r,bL x/\x.nodes.length<=9/\x.pd z0<=1)/\j<=L.length /\
   cl AP g350L0 ⟨[(0,.aV tm 0),(1,.pv (.aq (ds.map Dt.pv))),(2,.pv p2),(4,.pv p4),(8,.au 8 0),(10,.au 10 0),(11,.au 11 0),(12,.own (acc.map Ty.pv) 0),(13,.pv (vI k))],[(8,tC g),(10,qO 1),(11,uj d)],TP i,[acc.length,0,0,0]⟩=
     some (.exit 0,⟨[(0,.aV tm 0),(1,.pv (.aq (ds.map Dt.pv))),(2,.pv p2),(4,.pv p4),(8,.au 8 0),(10,.au 10 0),(11,.au 11 0),(12,.own (r.map Ty.pv) 0),(13,.pv (vI d.params.length)),(41,.pv (.bool false))],[(8,tC g),(10,qO 1),(11,uj d)],TP j,[r.length,0,0,0]⟩)
 |0,k,hn,l,acc,i,q,hm,hi=>by
  have tn:=hT.norm;have a:=hT.shift;have c:=hT.take;have:k=d.params.length:=(by omega);subst this;refine⟨acc,i,q,hm,hi,?_⟩;rw[g350L0e];simp[tn,a,c,g350B0,tC,qO,uj]
 |n+1,k,hn,l,acc,i,q,hm,hi=>by
  have tn:=hT.norm;have a:=hT.shift;have c:=hT.take;have l:k<d.params.length:=(by omega);obtain⟨t,j1,e1,mt,m⟩:=WT hT s f b (lv:=[]) (by simp[tn,a,c,Sm]) 1 (by omega) i hi;have v:bL t:=mK b e h (by simp) mt;have w:=mt.small b (by simp)
  obtain⟨r,j,h1,h2,h3,p⟩:=US hT s f b e h (p2:=p2) (p4:=p4) (g:=g) o n (k+1) (by omega) (by omega) (acc++[t]) j1 (by simp;omega) (by
   intro x hx;simp at hx;rcases hx with hx|rfl
   .exact hm x hx
   .exact⟨v,by omega,nU (by simp) mt⟩) m
  refine⟨r,j,h1,h2,h3,?_⟩;have u:(acc.length+1)*64<=140737488355328:=by omega
  rw[g350L0e]at p ⊢;simp[tn,a,c,tC,qO,uj]at p;simp[tn,a,c,Ty.av]at e1;simp(disch:=omega)[tn,a,c,-getElem?_pos,g350B0,tC,qO,uj,l,e1,u,ae];rw[g350L0e];simp[tn,a,c,p]
def Q1(x:Ex)(as:List Ar):List AV:=[.pv (vI 8),.pv (vI 0),.pv (.str []),.pv (vI 0),.own [x.pv] 4,.own (as.map Ar.pv) 5,.pv (vI 0),.pv (.str []),.pv (vI 0),.pv (vI 0),.own [] 6]
def XX(c:cd)(vs:List bj):List AV:=[.pv (vI 0),.pv (.str c.name),.own (vs.map .str) 7,.pv (vI 0),.pv (vI 0),.pv (.str []),.pv (vI 0),.own [] 8,.own [] 9,.pv (vI 0),.pv (.str []),.pv (vI 0),.pv (vI 0),.own [] 10]
def wN4:List bj:=[[120],[121],[122],[119]]
def I0:∀s∈wN4,tE false s:=by decide +kernel
def UT{L:List Int}{tm:Nat}{TP:Int->Sh}(hT:Tape L tm TP){I:Nat}{p1 p2 p4:PV}{g:Ty}{d:Dt}{as:List Ty}{x:Ex}{ar:List Ar}{C:Nat}{c:cd}{f:List Ty}(p:f.length<=8)(hf:∀t∈f,bL t){D:Nat}(j:∀t∈f,t.pd z0<=D){N:Nat}(hN:N<=10000):∀(n k:Nat),f.length-k=n->k<=f.length->∀(vs:List bj)(l:List En),vs.length=k->(∀v∈vs,tE false v)->Ctx (N+k) D l->
   ∃(r:List bj)(l':List En),r.length=f.length/\(∀v∈r,tE false v)/\Ctx (N+f.length) D l' /\
   cl AP g350L2 ⟨[(0,.aV tm 0),(1,.pv p1),(2,.pv p2),(4,.pv p4),(8,.au 8 0),(10,.au 10 0),(11,.au 11 0),(12,.own (as.map Ty.pv) 0),(14,.au 14 0),(15,.pv (vI C)),(16,.pv (.aq (f.map Ty.pv))),(18,.au 18 0),(19,.pv (.aq (l.map En.pv))),(20,.pv (vI k))],
     [(8,tC g),(10,qO 1),(11,uj d),(14,Q1 x ar),(18,XX c vs)],TP I,[as.length,0,0,0,1,ar.length,0,vs.length,0,0,0]⟩=
     some (.exit 4,⟨[(0,.aV tm 0),(1,.pv p1),(2,.pv p2),(4,.pv p4),(8,.au 8 0),(10,.au 10 0),(11,.au 11 0),(12,.own (as.map Ty.pv) 0),(14,.au 14 0),(15,.pv (vI C)),(16,.pv (.aq (f.map Ty.pv))),(18,.au 18 0),(19,.pv (.aq (l'.map En.pv))),(20,.pv (vI f.length)),(92,.pv (.bool false))],
     [(8,tC g),(10,qO 1),(11,uj d),(14,Q1 x ar),(18,XX c r)],TP I,[as.length,0,0,0,1,ar.length,0,r.length,0,0,0]⟩)
 |0,k,hn,m,vs,l,hv,e,hl=>by
  have tn:=hT.norm;have a:=hT.shift;have b:=hT.take;have:k=f.length:=(by omega);subst this;refine⟨vs,l,hv,e,hl,?_⟩;rw[g350L2e];simp[tn,a,b,g350B2,tC,qO,uj,Q1,XX]
 |n+1,k,hn,m,vs,l,hv,e,hl=>by
  have tn:=hT.norm;have a:=hT.shift;have b:=hT.take;have m:k<f.length:=(by omega);obtain⟨t,ht⟩:=aQ m;have z:=hl.len;obtain⟨q,h,y⟩:∃q:Nat,(k:Int).tmod 4=q/\q<4:=⟨((k:Int) % 4).toNat,by rw[Int.tmod_eq_emod_of_nonneg (by omega)];omega,by omega⟩;obtain⟨s,hs⟩:=aQ (l:=wN4) (i:=q) (by simpa[wN4]using y);have k1:=c176 (t:=t);have k2:=c179 (l:=l) (by unfold Sm;omega) (n:=s) (c:=⟨0,t⟩)
  obtain⟨r,l',h1,u,h2,w⟩:=UT hT (L:=L) (I:=I) (p1:=p1) (p2:=p2) (p4:=p4) (g:=g) (d:=d) (as:=as) (x:=x) (ar:=ar) (C:=C) (c:=c) p hf j hN n (k+1) (by omega) (by omega) (vs++[s]) (l++[⟨s,⟨0,t⟩⟩]) (by simp;omega) (by
   intro v hv;simp only[zaz,zb6]at hv;rcases hv with hv|rfl
   .exact e v hv
   .exact I0 _ (aK hs)) (hl.push (hf t (aK ht)).mono (I0 _ (aK hs)) (hf t (aK ht)).vn (j t (aK ht)) (by omega) (zas _))
  refine⟨r,l',h1,u,h2,?_⟩;have A:(vs.length+1)*16<=140737488355328:=by omega
  have o:([PV.str [120],.str [121],.str [122],.str [119]]:List PV)[q]?=some (.str s):=by
   have:([PV.str [120],.str [121],.str [122],.str [119]]:List PV)=wN4.map PV.str:=rfl;rw[this];simp[tn,a,b,hs]
  rw[g350L2e]at w ⊢;simp[tn,a,b,tC,qO,uj,Q1,XX]at w
  try simp[tn,a,b]at k1 k2
  simp (disch:=omega) [tn,a,b,-getElem?_pos,g350B2,tC,qO,uj,Q1,XX,m,ht,h,o,k1,k2,A,ae,aU];rw[g350L2e];simp[tn,a,b,w]
def WY(n:Nat)(a:Ar):Prop:=(a.pos=0/\tE true a.cv/\a.vars.length<=4/\∀v∈a.vars,tE false v)/\yF n a.body
def DW{n:Nat}{x:Ex}{as:List Ar}(hx:yF (4*n) x)(b:as.length<=3)(h0:as≠[])(h:∀a∈as,WY (4*n) a):yF (4*(n+1)) ⟨8,0,[],0,[x],as,bF⟩:=by
 have hc:∀y∈(⟨8,0,[],0,[x],as,bF⟩:Ex).ch,yF (4*n) y:=by
  intro y hy;simp[Ex.ch]at hy;rcases hy with rfl|⟨a,b,rfl⟩
  .exact hx
  .exact(h a b).2
 refine⟨⟨.mk (by simp) (by simp only;omega) (fun a hm=>by have:=(h a hm).1.2.2.1;omega) jn fun y hy=>(hc y hy).sc.ok,.mk (fun _=>rfl) fun y hy=>(hc y hy).sc.one,.mk jo fun y hy=>(hc y hy).sc.cw⟩,gH (n:=4*n+1) (.mk fun y hy=>(hc y hy).h) (by omega),?_,.mT rfl rfl hx.tx (by simp only;omega) (fun a hm=>⟨(h a hm).1.2.1.1,by have:=(h a hm).1.2.2.1;omega,fun v hv=>((h a hm).1.2.2.2 v hv).1⟩) (fun a hm=>(h a hm).2.tx),?_,.mk HF fun y hy=>(hc y hy).ad⟩
 case refine_2=>
  have h1:(⟨8,0,[],0,[x],as,bF⟩:Ex).ch.all Ex.lH=true:=zaq.2 fun y hy=>(hc y hy).vl
  have h2:as.all Mr=true:=zaq.2 fun a hm=>by
   obtain⟨⟨g,f,i,e⟩,_⟩:=h a hm;have w1:Dh a.cv=true:=f.2;have d:a.vars.all tU=true:=zaq.2 fun v hv=>(e v hv).2
   have c:¬4<a.vars.length:=(by omega);unfold Mr;simp only[g,w1,d];simp[c]
  have h3:0<as.length:=zaX.2 h0;rw[HG,h1];simp only[h2];simp[A8,bV,Ex.Ax,h3]
 rw[Hk,Ex.jd];exact DR (by rw[Ex.cM];simp only[zbq];omega) fun y hy=>by have:=(hc y hy).w;rwa [Hk]at this
def Qk:∀d∈bf,0<d.cons.length:=by decide +kernel
def UU{L:List Int}{tm:Nat}{TP:Int->Sh}(hT:Tape L tm TP){ds:List Dt}{dep:Nat}{l:List En}{g:Ty}(o:dep<3)(w:oJ ds)(S:lC L tm TP ds dep)(hl:Ctx (1000-20*(dep+1)) (HH (dep+1)) l)(Q:bL g)(p:g.nodes.length<=6000-20*(dep+1)/\g.pd z0<=HH (dep+1)){d:Dt}(q:d∈ds){as:List Ty}(O:as.length<=8)(z:∀a∈as,bL a)(m:∀a∈as,a.pd z0<=1){x:Ex}:∀(n k:Nat),d.cons.length-k=n->k<=d.cons.length->∀(ar:List Ar)(i:Nat),ar.length=k->(∀a∈ar,WY (4*(dep+1)) a)->i<=L.length->
   ∃(r:List Ar)(j:Nat),r.length=d.cons.length/\(∀a∈r,WY (4*(dep+1)) a)/\j<=L.length /\
   cl AP g350L1 ⟨[(0,.aV tm 0),(1,.pv (.aq (ds.map Dt.pv))),(2,.pv (.aq (l.map En.pv))),(4,.pv (vI (dep+1))),(8,.au 8 0),(10,.au 10 0),(11,.au 11 0),(12,.own (as.map Ty.pv) 0),(14,.au 14 0),(15,.pv (vI k))],
     [(8,tC g),(10,qO 1),(11,uj d),(14,Q1 x ar)],TP i,[as.length,0,0,0,1,ar.length,0]⟩=
     some (.exit 2,⟨[(0,.aV tm 0),(1,.pv (.aq (ds.map Dt.pv))),(2,.pv (.aq (l.map En.pv))),(4,.pv (vI (dep+1))),(8,.au 8 0),(10,.au 10 0),(11,.au 11 0),(12,.own (as.map Ty.pv) 0),(14,.au 14 0),(15,.pv (vI d.cons.length)),(66,.pv (.bool false))],
     [(8,tC g),(10,qO 1),(11,uj d),(14,Q1 x r)],TP j,[as.length,0,0,0,1,r.length,0]⟩)
 |0,k,hn,A,ar,i,R,hm,hi=>by
  have tn:=hT.norm;have e:=hT.shift;have v:=hT.take;have:k=d.cons.length:=(by omega);subst this;refine⟨ar,i,R,hm,hi,?_⟩;rw[g350L1e];simp[tn,e,v,g350B1,tC,qO,uj,Q1]
 |n+1,k,hn,A,ar,i,R,hm,hi=>by
  have tn:=hT.norm;have e:=hT.shift;have v:=hT.take;have A:k<d.cons.length:=(by omega);obtain⟨c,hc⟩:=aQ A;have a2:=(ep d (w.all d q)).2.1;have k1:=c207 w.small (as:=as) (by unfold Sm;omega) (s:=c.name);obtain⟨a1,hf⟩:=DV w (s:=c.name) z;have J:=MK w (s:=c.name) m;have X:=jF o;have Y:=S8 (dep+1);have y:=p;obtain⟨p,Z⟩:=p;generalize a0:fieldsOf ds c.name as=F at*;generalize K:F.getD []=f at*;obtain⟨vs,l',hv,E,G,e1⟩:=UT hT (L:=L) (I:=i) (p1:=.aq (ds.map Dt.pv)) (p2:=.aq (l.map En.pv)) (p4:=vI (dep+1)) (g:=g) (d:=d) (as:=as) (x:=x) (ar:=ar) (C:=k) (c:=c) (by omega) hf (D:=HH dep) (fun t ht=>by have:=J t ht;omega) (N:=1000-20*(dep+1)) (by omega) _ 0 rfl (by omega) [] l rfl (by simp) (hl.iy (by omega) (by omega));obtain⟨b,f1,f2,f3,j2,e2,hb,H⟩:=S i l' g hi (G.iy (by omega) (zas _)) Q ⟨by omega,by omega⟩
  obtain⟨r,j,W,V,U,P⟩:=UU hT o w S hl Q y q O z m (x:=x) n (k+1) (by omega) (by omega) (ar++[⟨0,c.name,vs,b⟩]) j2 (by simp;omega) (by
   intro a h;simp at h;rcases h with h|rfl
   .exact hm a h
   .exact⟨⟨rfl,(sk d (w.all d q) c (aK hc)).2.2,by simp only;omega,E⟩,hb⟩) H
  refine⟨r,j,W,V,U,?_⟩;have u:=d3 f1 f2 f3 b;generalize et f1 f2 f3 b=B at e2 u;have bc:=Ex.aX b;have T:B.take 11=B:=zaf (by rw[u.len];omega);have M:(ar.length+1)*200<=140737488355328:=by omega
  have nv:(dep:Int)+1-1=dep:=(by omega);rw[g350L2e]at e1;rw[g350L1e]at P;simp[tn,e,v,tC,qO,uj,Q1,XX]at e1 P e2⊢;simp[tn,e,v,ZK,K]at k1;rw[g350L1e];simp(disch:=omega)[tn,e,v,-getElem?_pos,g350B1,hc,A,k1,ae,nv,g350L2e,e1,e2,M,aU,u.gr,u.flat,u.tV,u.len,u.leaf,T,bc];rw[g350L1e];simp[tn,e,v,P]
def c350{L:List Int}{tm:Nat}{TP:Int->Sh}(hT:Tape L tm TP){ds:List Dt}{dep:Nat}{l:List En}{g:Ty}{i:Nat}(E:Sm L)(o:dep<3)(c:oJ ds)(H:lC L tm TP ds dep)(hl:Ctx (1000-20*(dep+1)) (HH (dep+1)) l)(F:bL g)(C:g.nodes.length<=6000-20*(dep+1)/\g.pd z0<=HH (dep+1))(hi:i<=L.length):
   oK L tm TP (4*(dep+2)) ((az AP).i 350 [.aV tm 0,.pv (.aq (ds.map Dt.pv)),.pv (.aq (l.map En.pv)),.pv g.pv,.pv (vI (dep+1:Nat))] (TP i) []):=by
 have tn:=hT.norm;have h:=hT.shift;have u:=hT.take;have J:=hl.len;by_cases z:ds=[]
 .subst z;obtain⟨e,f1,f2,f3,j,k,ht,hj⟩:=c348 hT E (ds:=[]) (hl.iy (by omega) (zas _)) F hi;refine⟨e,f1,f2,f3,j,?_,ht.up (by omega),hj⟩;rw[aM g350];cases f1<;>cases f2<;>cases f3<;>simp[tn,h,u,et,ic]at k<;>simp[tn,h,u,g350,k,et,ic,aU]
 .have hp:0<ds.length:=zaX.2 z;have N:=c.len;have p:∀d∈ds,d.params.length<=8:=fun d hd=>(ep d (c.all d hd)).1
  obtain⟨m,j1,e1,m0,I,B⟩:=pR hT E hi (n:=ds.length) (by omega) (by omega);obtain⟨m,rfl,hm⟩:=mY m0 I;obtain⟨d,hd⟩:=aQ hm;have b:=aK hd;obtain⟨as,j2,T,t,y,e2⟩:=US hT E (by omega) p (fun d hd=>wG d (c.all d hd)) (fun d hd=>(nT d (c.all d hd)).1) (p2:=.aq (l.map En.pv)) (p4:=vI (dep+1)) (g:=g) (p d b) _ 0 rfl (by omega) [] j1 rfl (by simp) B;have O:=p d b;have G:=(ep d (c.all d b)).2.1;have C3:=P' d (c.all d b);have k1:=c62 (s:=d.name) (l:=as) (by unfold Sm;omega);have R:bL ⟨4,d.name,0,0,as⟩:=⟨⟨by unfold Sm;simp only;omega,fun x hx=>(t x hx).1.ok⟩,.mk (by simp) (nT d (c.all d b)).1 fun x hx=>(t x hx).1.kn,DN (.inr (.inr (.inr (.inr ⟨rfl,rfl,rfl,by simp only[T];exact wG d (c.all d b)⟩)))) fun x hx=>(t x hx).1.vn⟩
  have Q:(⟨4,d.name,0,0,as⟩:Ty).nodes.length<=100:=by
   rw[Ty.aL];simp only[zae,zcg];have:=wt (f:=fun x:Ty=>x.nodes.length) fun x hx=>(t x hx).2.1
   omega
  have P:(⟨4,d.name,0,0,as⟩:Ty).pd z0<=2:=by
   rw[Ty.gm,zai (by simp)];exact kA fun x hx=>by have:=(t x hx).2.2;omega
  have K:=jF o;have M:=S8 (dep+1);obtain⟨x,f1,f2,f3,j3,e3,hx,w⟩:=H j2 l _ y (hl.iy (by omega) (by omega)) R ⟨by omega,by omega⟩;obtain⟨r,j4,b1,b2,v,e4⟩:=UU hT o c H hl F C b (by omega) (fun a D=>(t a D).1) (fun a D=>(t a D).2.2) (x:=x) _ 0 rfl (by omega) [] j3 rfl (by simp) w;refine⟨⟨8,0,[],0,[x],r,bF⟩,false,false,false,j4,?_,(DW hx (by omega) (by intro q;rw[q]at b1;have:=Qk d (c.all d b);simp at b1;omega) b2).up (by omega),v⟩;have hA:=d3 f1 f2 f3 x;generalize et f1 f2 f3 x=A at e3 hA;have S:=Ex.aX x;have nv:(dep:Int)+1-1=dep:=(by omega);rw[g350L0e]at e2;rw[g350L1e]at e4;simp[tn,h,u,tC,qO,uj,Q1]at e1 e2 e3 e4 k1;rw[aM g350];simp(disch:=omega)[tn,h,u,-getElem?_pos,g350,z,nv,ae,e1,hd,g350L0e,e2,k1,e3,hA.gr,hA.flat,hA.tV,hA.len,hA.leaf,S,g350L1e,e4,aU,et,ic,bF]
theorem c326{L:List Int}{tm:Nat}{TP:Int->Sh}(hT:Tape L tm TP){ds:List Dt}(s:Sm L)(z:oJ ds):∀dep:Nat,dep<=3->lC L tm TP ds dep
 |0,_=>fun i l g hi hl p _=>Qd hT s (hl.iy (by omega) (zas _)) p hi
 |dep+1,N=>fun i l g hi hl p h=>by
  have tn:=hT.norm;have c:=hT.shift;have m:=hT.take;have y:=c326 hT s z dep (by omega);have R:=z.len;have F:∀d∈ds,d.params.length<=8:=fun d hd=>(ep d (z.all d hd)).1
  have E:∀d∈ds,d.name.length<=100:=fun d hd=>(nT d (z.all d hd)).1;have D:∀d∈ds,jD d.name d.params.length=true:=fun d hd=>wG d (z.all d hd)
  obtain⟨r9,j9,e9,r0,r1,C⟩:=pR hT s hi (n:=9) (by omega) (by omega);by_cases nz:r9=0
  .subst nz;exact S9 hT s (by omega) (hl.iy (by omega) (zas _)) p C e9
  .obtain⟨a,b,ar,arr,_,_,K⟩:=c194g p.ok;obtain⟨k,j,wI,k0,k1,hj⟩:=pR hT s C (n:=10) (by omega) (by omega);have P:Qe L tm TP g i a b ar k r9 j9 j:=⟨nz,e9,arr,wI,hj⟩;have h1:¬((dep:Int)+1<1):=by omega
   have r:(ar=true->7<=k)->(ar=false->¬k<2/\k≠2/\k≠3/\k≠5/\(k=4->¬(g.ee 3=false/\g.ee 1=false)))->wH L tm TP ds (dep+1) l g i:=by
    intro T S;obtain⟨e,f1,f2,f3,B,o,ht,u⟩:=c352 hT s (by omega) z y hl p h.2 hj;refine⟨e,f1,f2,f3,B,?_,ht,u⟩;have c3:=c351 (k:=3) p.ok;have c1:=c351 (k:=1) p.ok
    try simp[tn,c,m]at e9 arr wI c3 c1
    rw[aM g326];cases ar with
    |true=>
     have q:=T rfl;have O:¬k<7:=(by omega);have A:¬k<2:=(by omega);have J:¬k=2:=(by omega);have I:¬k=3:=(by omega);have H:¬k=4:=(by omega);have G:¬k=5:=(by omega);cases f1<;>cases f2<;>cases f3<;>simp[tn,c,m,et,ic]at o<;>simp[tn,c,m,g326,h1,nz,e9,arr,wI,O,A,J,I,H,G,o,et,ic,aU]
    |false=>
     obtain⟨A,J,I,G,H⟩:=S rfl;by_cases h4:k=4
     .have:=H h4;subst h4;cases M:g.ee 3 with
      |true=>
       rw[M]at c3;cases f1<;>cases f2<;>cases f3<;>simp[tn,c,m,et,ic]at o<;>simp[tn,c,m,g326,h1,nz,e9,arr,wI,c3,o,et,ic,aU]
      |false=>
       rw[M]at c3
       have g1:g.ee 1=true:=by
        cases g1:g.ee 1 with
        |true=>rfl
        |false=>exact absurd ⟨M,g1⟩ this
       rw[g1]at c1;cases f1<;>cases f2<;>cases f3<;>simp[tn,c,m,et,ic]at o<;>simp[tn,c,m,g326,h1,nz,e9,arr,wI,c3,c1,o,et,ic,aU]
     .cases f1<;>cases f2<;>cases f3<;>simp[tn,c,m,et,ic]at o<;>simp[tn,c,m,g326,h1,nz,e9,arr,wI,A,J,I,h4,G,o,et,ic,aU]
   cases ar with
   |true=>
    have v:=K rfl;by_cases h7:k<7
    .exact WV hT s (by omega) y hl P h7 (p.d6 a (by rw[v];simp)) (p.d6 b (by rw[v];simp)) (by
      have:=kr (f:=fun x:Ty=>x.nodes.length) (l:=g.args) (x:=b) (by rw[v];simp);have h:=h.1;rw[Ty.aL]at h;simp only[zae,zcg]at h;omega) (by
      have h1:=lB (ht:=z0) (t:=g) (x:=a) (by rw[v];simp) (by rw[v];simp);have:=h.2;omega) (by
      have h1:=lB (ht:=z0) (t:=g) (x:=b) (by rw[v];simp) (by rw[v];simp);have:=h.2;omega)
    .exact r (fun _=>by omega) (by simp)
   |false=>
    by_cases h2:k<2
    .exact WW hT s (by omega) (by omega) F D E y hl p h P h2
    .by_cases h3:k=2
     .subst h3;obtain⟨e,f1,f2,f3,B,o,ht,u⟩:=c349 hT s (by omega) (by omega) F D E y hl p h hj;refine⟨e,f1,f2,f3,B,?_,ht,u⟩
      try simp[tn,c,m]at e9 arr wI
      rw[aM g326];cases f1<;>cases f2<;>cases f3<;>simp[tn,c,m,et,ic]at o<;>simp[tn,c,m,g326,h1,nz,e9,arr,wI,o,et,ic,aU]
     .by_cases h4:k=3
      .subst h4;obtain⟨e,f1,f2,f3,B,o,ht,u⟩:=c350 hT s (by omega) z y hl p h hj;refine⟨e,f1,f2,f3,B,?_,ht,u⟩
       try simp[tn,c,m]at e9 arr wI
       rw[aM g326];cases f1<;>cases f2<;>cases f3<;>simp[tn,c,m,et,ic]at o<;>simp[tn,c,m,g326,h1,nz,e9,arr,wI,o,et,ic,aU]
      .by_cases h5:k=5
       .subst h5;exact S_ hT s (by omega) y hl p h P
       .by_cases h6:k=4/\g.ee 3=false/\g.ee 1=false
        .obtain⟨rfl,Q,A⟩:=h6;exact WX hT s (by omega) y hl p h P Q A
        .exact r (by simp) (fun _=>⟨h2,h3,h4,h5,fun q=>fun w=>h6 ⟨q,w⟩⟩)
def Tc{s:List bj}{y:bj}(h:y∈s):0<=pK s y/\pK s y<s.length:=by
 unfold pK;cases e:bS (fun x=>decide (x=y)) s with
 |none=>have:=iM.1 e y h;simp at this
 |some k=>
  have:k<s.length:=by
   clear h;induction s generalizing k with
   |nil=>simp[bS]at e
   |cons a r b=>
    simp only[bS]at e;split at e
    .cases e;simp
    .simp only[zac]at e;obtain⟨j,hj,rfl⟩:=e;have:=b j hj;simp;omega
  simp[lr];omega
def DX:∀{l out:List bj}{y:bj},y∈l->y∈l.foldl fG out
 |a::r,out,y,h=>by
  rw[zaS];simp only[zau]at h;rcases h with rfl|h
  .refine yz ?_;unfold fG;split
   .assumption
   .simp
  .exact DX h
def yI:∀{l out:List bj},(l.foldl fG out).length<=out.length+l.length
 |[],out=>by simp
 |a::r,out=>by
  have h:=yI (l:=r) (out:=fG out a);have:(fG out a).length<=out.length+1:=by unfold fG;split<;>simp
  simp only[zaS,zae];omega
def HI{t:Ty}:t.gP.length<=t.nodes.length/\∀z∈t.nodes,z.kind=5->z.name∈t.gP:=by
 refine Ty.cD (p:=fun t=>t.gP.length<=t.nodes.length/\∀z∈t.nodes,z.kind=5->z.name∈t.gP) ?_ t;intro t e
 have key:∀l:List Ty,(∀a∈l,a.gP.length<=a.nodes.length)->(l.flatMap Ty.gP).length<=(l.flatMap Ty.nodes).length:=by
  intro l;induction l with
  |nil=>intro _;simp
  |cons a r d=>
   intro h;have h1:=h a (by simp);have h2:=d fun b g=>h b (by simp[g])
   simp only[zav,zad];omega
 rw[Ty.IM,Ty.aL];refine⟨?_,?_⟩
 .have:=key t.args fun a c=>(e a c).1;have h1:(if t.kind=5 then[t.name]else[]).length<=1:=by split<;>simp
  simp only[zad,zae];omega
 .intro z hz f;simp only[zau,zaC]at hz;rcases hz with rfl|⟨a,c,hz⟩
  .rw[zan f];simp
  .refine zcp _ ?_;simp only[zaC];exact⟨a,c,(e a c).2 z hz f⟩
def Td{l:List bj}{t:Ty}(h:t.Kn KT)(hl:∀z∈t.nodes,z.kind=5->z.name∈l):(t.kE l).Kn KC/\SW l.length (t.kE l):=by
 induction h with
 | @mk t j g _ i=>
  have c:t∈t.nodes:=(by rw[Ty.aL];simp);rw[Ty.sd];by_cases k:t.kind=5
  .have hp:=Tc (hl t c k);rw[zan ⟨k,hp.1⟩];refine⟨.bare rfl (by simp[cL]) (by simp[cL]),?_⟩;intro y hy _;rw[Ty.aL]at hy;simp[cL]at hy;subst hy;exact hp
  .rw[zai (fun q=>k q.1)];have d:t.kind≠4->t.kind=0/\t.args=[]:=fun q=>⟨(j q).1.resolve_right k,(j q).2⟩
   refine⟨.mk (fun q=>⟨.inl (d q).1,by simp[(d q).2]⟩) g ?_,?_⟩
   .intro x hx;simp only[zat]at hx;obtain⟨a,f,rfl⟩:=hx;exact(i a f fun z hz=>hl z (MD a f z hz)).1
   .intro y hy e;rw[Ty.aL]at hy;simp only[zau,zaC,zat]at hy;rcases hy with rfl|⟨b,⟨a,f,rfl⟩,hy⟩
    .simp only at e;by_cases q:t.kind=4
     .omega
     .have:=(d q).1;omega
    .exact(i a f fun z hz=>hl z (MD a f z hz)).2 y hy e
def WZ{l:List bj}{t:Ty}:t.Vn->(t.kE l).Vn:=by
 refine Ty.cD (p:=fun t=>t.Vn->(t.kE l).Vn) ?_ t;intro t c h;rw[Ty.sd];split
 .exact mJ rfl (.inr (.inl rfl))
 .refine AM h (by simp) ?_;intro x hx;simp only[zat]at hx;obtain⟨a,b,rfl⟩:=hx;exact c a b (h.d6 a b)
def kY{D:Dt->Prop}(hN:∀d,D d->d.name.length<=100){lv:List Ty}(h:∀t∈lv,t.args=[]/\t.kind=5/\t.name.length<=100){n:Nat}{t:Ty}(m:gN D lv n t):t.Kn (·=5):=by
 induction m with
 |leaf hl=>exact .bare (h _ hl).1 (fun _=>(h _ hl).2.1) (h _ hl).2.2
 |int=>exact .bare rfl (by simp[bK]) (by simp[bK])
 |cv hd _ _ c=>exact .mk (by simp) (hN _ hd) c
 |arrow _ _ b a=>exact .mk (by simp) (by simp) (by intro x hx;simp at hx;rcases hx with rfl|rfl<;>assumption)
def qZ{h:Int}:∀{n:Nat}{x:Ty},x∈lV h n->∃i:Nat,x=mA h i
 |0,x,hx=>by simp[lV]at hx
 |n+1,x,hx=>by
  simp[lV]at hx;rcases hx with hx|rfl
  .exact qZ hx
  .exact⟨n,rfl⟩
def yJ{f:Ty->Ty}{l:List Ty}(h:∀x∈l,(f x).nodes.length<=x.nodes.length):((l.map f).flatMap Ty.nodes).length<=(l.flatMap Ty.nodes).length:=by
 induction l with
 |nil=>simp
 |cons a r b=>
  have h1:=h a (by simp);have h2:=b fun x hx=>h x (by simp[hx])
  simp only[zal,zav,zad];omega
def Te{l:List bj}(t:Ty):(t.kE l).nodes.length<=t.nodes.length:=by
 refine Ty.cD (p:=fun t=>(t.kE l).nodes.length<=t.nodes.length) ?_ t;intro t a;rw[Ty.sd];split
 .rw[Ty.aL,Ty.aL t];simp[cL]
 .rw[Ty.aL,Ty.aL t];have:=yJ (f:=Ty.kE l) a;simp only[zae];omega
def Tf{l:List Ty}(hl:∀x∈l,x.nodes.length<=1)(t:Ty):(t.ly l).nodes.length<=t.nodes.length:=by
 refine Ty.cD (p:=fun t=>(t.ly l).nodes.length<=t.nodes.length) ?_ t;intro t a;rw[Ty.lz];cases e:Mo l t with
 |some x=>
  obtain⟨_,_,_,hx⟩:=kj e;have:=hl x (aK hx);rw[Ty.aL t];simp only[zbZ,zae];omega
 |none=>
  simp only[zbO];rw[Ty.aL,Ty.aL t];have:=yJ (f:=Ty.ly l) a;simp only[zae];omega
structure ML(t:Ty):Prop where
 ok:t.Ok
 kn:t.Kn (·=5)
 vn:t.Vn
 n:t.nodes.length<=90
 hp:t.pd z0<=4
def Ql{l:List bj}(t:Ty):(t.kE l).pd z0<=t.pd z0:=by
 refine Ty.cD (p:=fun t=>(t.kE l).pd z0<=t.pd z0) ?_ t;intro t c;rw[Ty.sd];split
 .rw[jG rfl];exact zby _
 .by_cases k:t.kind=1
  .rw[Ty.gm,zan (show(⟨t.kind,t.name,t.id,t.home,t.args.map (Ty.kE l)⟩:Ty).kind=1 from k)];exact zby _
  .rw[Ty.gm,zai (show ¬(⟨t.kind,t.name,t.id,t.home,t.args.map (Ty.kE l)⟩:Ty).kind=1 from k)];refine kA fun x hx=>?_;simp only[zat]at hx;obtain⟨a,b,rfl⟩:=hx;have h1:=c a b
   have h2:=lB (ht:=z0) k b;omega
def ML.both{t:Ty}(h:ML t):∃(u:Ty)(c:Sc),(az AP).p 325 [t.pv]=some [u.pv]/\(az AP).p 327 [t.pv,vI 98]=some [u.pv,c.pv]/\bL u/\m5 c/\c.ty.Vn/\u.nodes.length<=90/\u.pd z0<=4/\c.ty.pd z0<=4:=by
 obtain⟨s1,e⟩:=HI (t:=t);have hn:=h.n;have k1:=c325 (S:=t.gP) (by omega) h.ok h.kn.cw (fun y hy=>hy);have k2:=c327 (S:=t.gP) (by omega) h.ok h.kn.cw (fun y hy=>hy) (h:=98)
 have hl:(dj t).length<=90:=by
  have:=yI (l:=t.gP) (out:=[]);simp at this;unfold dj;omega
 obtain⟨b1,b2⟩:=Td (l:=dj t) (h.kn.imp fun k b=>.inr b) (fun z hz b=>DX (e z hz b));have sc:m5 ⟨(dj t).length,t.kE (dj t)⟩:=⟨Hx h.ok,b1,(dj t).length,rfl,by omega,b2⟩;have d:=WZ (l:=dj t) h.vn;refine⟨_,_,k1,k2,?_,sc,d,za9 (Tf (fun x hx=>by obtain⟨i,rfl⟩:=qZ hx;rw[Ty.aL];simp[mA]) _) (za9 (Te t) hn),?_,za9 (Ql t) h.hp⟩
 case refine_2=>
  have h1:=Ql (l:=dj t) t;have h2:=h.hp;have h3:=HB (ht:=z0) (B:=0) (l:=lV 98 (dj t).length) (fun x hx=>by obtain⟨i,rfl⟩:=qZ hx;rw[jG rfl];exact zas _) (t.kE (dj t)) fun w f=>wF f b1 (by simp)
  omega
 refine DU sc d (by rw[nP]) ?_;intro a g;obtain⟨i,rfl⟩:=qZ g;exact⟨cW rfl,.bare rfl (by simp[mA]) (by simp[mA]),mJ rfl (.inr (.inr (.inl rfl)))⟩
structure Bd where
 pos:Int
 rc:Bool
 name:bj
 sg:Bool
 sig:Ty
 body:Ex
def Bd.cells(b:Bd):List PV:=[vI b.pos,.bool b.rc,.str b.name,.bool b.sg,vI b.sig.kind,.str b.sig.name,vI b.sig.id,vI b.sig.home,.aq (b.sig.args.map Ty.pv)]++b.body.cells
def Bd.pv(b:Bd):PV:=.agg b.cells
@[simp] theorem Bd.kS(b:Bd):b.pv=.agg [vI b.pos,.bool b.rc,.str b.name,.bool b.sg,vI b.sig.kind,.str b.sig.name,vI b.sig.id,vI b.sig.home,.aq (b.sig.args.map Ty.pv),.int .i64 b.body.kind,.int .i64 b.body.pos,.str b.body.name,.int .i64 b.body.num,.aq (b.body.kids.map Ex.pv),.aq (b.body.aB.map Ar.pv),.int .i64 b.body.ty.kind,.str b.body.ty.name,.int .i64 b.body.ty.id,.int .i64 b.body.ty.home,.aq (b.body.ty.args.map Ty.pv)]:=by
 rw[Bd.pv,Bd.cells,Ex.aX];rfl
def dL:Row Bd.cells 20:=⟨by omega,fun b=>by rw[Bd.cells,Ex.aX];rfl⟩
def UW:El Bd.pv 20 true:=⟨fun b=>by simp,fun b=>by simp⟩
@[simp] theorem XY{l:List Bd}:bl 20 (l.map Bd.pv)=true:=UW.head l
def sq{l:List Bd}:((eX (aI Bd.cells l)).bind (d9 20 true l.length)).map PV.aq=some (.aq (l.map Bd.pv)):=oD dL
def HJ{l:List Bd}:((l.map Bd.pv).flatMap aZ).map AV.pv=aI Bd.cells l:=oE dL
structure lX(N:Nat)(b:Bd):Prop where
 sc:r_ b.body
 h:b.body.oZ N
 so:b.sig.Ok
 sw:b.sig.Cw
 sn:b.sig.nodes.length<=90
 nm:b.name.length<=100
 st:b.sig.Kn KT
 w:b.body.sz<=7*N
 tx:kH b.body
 ad:b.body.Ad
def ux(L:List Int)(k:Nat)(bs:List Bd)(j:Int):Sh:=[]++[some [.pv (.aq (L.map vI)),.pv (vI j)]]++(nn k++[some (aI Bd.cells bs)])
def kB{L:List Int}{k:Nat}{bs:List Bd}:Tape L 0 (ux L k bs):=IV (A:=[]) (by intro cs h;simp at h) ((bn k).app (aG.one aN))
def I2{L:List Int}{k:Nat}{bs:List Bd}{j:Int}:(ux L k bs j)[1+k]?=some (some (aI Bd.cells bs)):=by
 simp[ux,zaB,Nat.add_comm,nn]
def Tg{L:List Int}{k:Nat}{bs:List Bd}{j:Int}{F:List AV}:(ux L k bs j).set (1+k) none++[some F]=[]++[some [.pv (.aq (L.map vI)),.pv (vI j)]]++(nn (k+1)++[some F]):=by
 simp[ux,nn,Nat.add_comm 1 k,List.set_append,List.replicate_succ']
def Th{L:List Int}{k:Nat}{bs:List Bd}{j:Int}:(ux L k bs j).length=1+k+1:=by simp[ux,nn];omega
def Z5:List bj:=[[112],[113],[114],[115]]
def Ti{i:Nat}{s:bj}(h:Z5[i]?=some s):([PV.str [112],.str [113],.str [114],.str [115]]:List PV)[i]?=some (.str s):=by
 have:([PV.str [112],.str [113],.str [114],.str [115]]:List PV)=Z5.map PV.str:=rfl;rw[this];simp[h]
structure It(L:List Int)(tm:Nat)(TP:Int->Sh)(ds:List Dt)(l:List En)(nm:bj)(i:Nat)(r4 r3 r2:Int)(x1 x u:Ty)(sc c':Sc)(e:Ex)(A:List AV)(b10 b11:Bool)(j1 j2 j3 j4 j5 j6:Nat):Prop where
 e1:(az AP).i 68 [.aV tm 0,.pv (vI 4)] (TP i) []=some ([.pv (vI r4)],TP j1,[])
 k0:(az AP).p 67 []=some [.aq (nG.map Ty.pv)]
 e2:(az AP).i 27 [.aV tm 0,.pv (.aq (ds.map Dt.pv)),.pv (.aq (nG.map Ty.pv)),.pv (vI 2)] (TP j1) []=some ([x1.av],TP j2,[])
 e3:(az AP).i 68 [.aV tm 0,.pv (vI 3)] (TP j2) []=some ([.pv (vI r3)],TP j3,[])
 e4:if r3=0 then(az AP).i 27 [.aV tm 0,.pv (.aq (ds.map Dt.pv)),.pv (.aq []),.pv (vI 2)] (TP j3) []=some ([x.av],TP j4,[])else x=x1/\j4=j3
 e5:(az AP).i 68 [.aV tm 0,.pv (vI 2)] (TP j4) []=some ([.pv (vI r2)],TP j5,[])
 k1:(az AP).p 325 [x.pv]=some [u.pv]
 k2:(az AP).p 327 [x.pv,vI 98]=some [u.pv,sc.pv]
 k3:(az AP).p 176 [u.pv]=some [(As.mk 0 u).pv]
 k4:(az AP).p 179 [.aq (l.map En.pv),.str nm,(As.mk 0 u).pv]=some [.aq ((l++[En.mk nm ⟨0,u⟩]).map En.pv)]
 e6:(az AP).i 326 [.aV tm 0,.pv (.aq (ds.map Dt.pv)),.pv (.aq ((if r4=1 then l++[⟨nm,⟨0,u⟩⟩]else l).map En.pv)),.pv u.pv,.pv (vI 3)] (TP j5) []=some ([.agg A],TP j6,[])
 hA:IsC e A
 k5:(az AP).p 307 [e.pv,vI 10]=some [.bool b10]
 k6:(az AP).p 307 [e.pv,vI 11]=some [.bool b11]
 k7:(az AP).p 34 []=some [bK.pv]
 k8:(az AP).p 176 [bK.pv]=some [(As.mk 0 bK).pv]
 hc:c'=if ¬r2=0/\(b10=true\/b11=true)then⟨0,bK⟩else sc
 k9:(az AP).p 179 [.aq (l.map En.pv),.str nm,c'.pv]=some [.aq ((l++[En.mk nm c']).map En.pv)]
 UQ:m5 c'
 vc:c'.ty.Vn
 hc4:c'.ty.pd z0<=4
 ty:yF 16 e
 sx:ML x
 hj:j6<=L.length
def Z6{L:List Int}{tm:Nat}{TP:Int->Sh}(hT:Tape L tm TP)(f:Sm L){ds:List Dt}(k:oJ ds){l:List En}(hl:Ctx 900 4 l){i:Nat}(hi:i<=L.length)(nm:bj)(r:tE false nm):
   ∃r4 r3 r2 x1 x u sc c' e A b10 b11 j1 j2 j3 j4 j5 j6,It L tm TP ds l nm i r4 r3 r2 x1 x u sc c' e A b10 b11 j1 j2 j3 j4 j5 j6:=by
 have I:=k.len;have a:∀d∈ds,d.params.length<=8:=fun d hd=>(ep d (k.all d hd)).1
 have C:∀d∈ds,d.name.length<=100:=fun d hd=>(nT d (k.all d hd)).1;have H:=hl.len
 have F:∀t∈nG,t.args=[]/\t.kind=5/\t.name.length<=100:=by
  intro t ht;simp[nG]at ht;rcases ht with rfl|rfl|rfl<;>exact⟨rfl,rfl,by decide⟩
 have sig:∀{lv:List Ty}{x:Ty},(∀t∈lv,t.args=[]/\t.kind=5/\t.name.length<=100)->gN (·∈ds) lv 2 x->ML x:=fun h m=>⟨m.ok a (fun t ht=>(h t ht).1),kY C h m,DT (fun d hd=>wG d (k.all d hd)) (fun t ht=>mJ (h t ht).1 (.inr (.inr (.inr (h t ht).2.1)))) m,by have:=m.small a (fun t ht=>(h t ht).1);omega,by have:=nU (fun t ht=>(h t ht).1) m;omega⟩;obtain⟨r4,j1,e1,_,_,z⟩:=pR hT f hi (n:=4) (by omega) (by omega);obtain⟨x1,j2,e2,G,y⟩:=WT hT f (ds:=ds) (by omega) a (lv:=nG) (by simp[Sm,nG]) 2 (by omega) j1 z;obtain⟨r3,j3,e3,_,_,j⟩:=pR hT f y (n:=3) (by omega) (by omega)
 obtain⟨x,j4,e4,sx,b⟩:∃(x:Ty)(j4:Nat),(if r3=0 then(az AP).i 27 [.aV tm 0,.pv (.aq (ds.map Dt.pv)),.pv (.aq []),.pv (vI 2)] (TP j3) []=some ([x.av],TP j4,[])else x=x1/\j4=j3)/\ML x/\j4<=L.length:=by
  by_cases h:r3=0
  .obtain⟨x,j4,e4,m,b⟩:=WT hT f (ds:=ds) (by omega) a (lv:=[]) (by simp[Sm]) 2 (by omega) j3 j;exact⟨x,j4,by rw[zan h];exact e4,sig (by simp) m,b⟩
  .exact⟨x1,j3,by rw[zai h];exact⟨rfl,rfl⟩,sig F G,j⟩
 obtain⟨r2,j5,e5,_,_,w⟩:=pR hT f b (n:=2) (by omega) (by omega);obtain⟨u,sc,k1,k2,D,q,o,un,g,p⟩:=sx.both;have k3:=c176 (t:=u);have k4:=c179 (l:=l) (by unfold Sm;omega) (n:=nm) (c:=⟨0,u⟩)
 have s:Ctx (1000-20*3) 4 (if r4=1 then l++[⟨nm,⟨0,u⟩⟩]else l):=by
  split
  .exact hl.push D.mono r D.vn g (by omega) (zas _)
  .exact hl.iy (by omega) (zas _)
 obtain⟨e,f1,f2,f3,j6,e6,B,v⟩:=c326 hT f k 3 (by omega) j5 _ u w s D ⟨by omega,g⟩;obtain⟨b10,k5⟩:=c307 B.sc.ok 10;obtain⟨b11,k6⟩:=c307 B.sc.ok 11
 have UQ:m5 (if ¬r2=0/\(b10=true\/b11=true)then⟨0,bK⟩else sc):=by
  split
  .exact uv.mono
  .exact q
 have vc:(if ¬r2=0/\(b10=true\/b11=true)then(⟨0,bK⟩:Sc)else sc).ty.Vn:=by
  split
  .exact nR
  .exact o
 have E:(if ¬r2=0/\(b10=true\/b11=true)then(⟨0,bK⟩:Sc)else sc).ty.pd z0<=4:=by
  split
  .rw[jG rfl];exact zby _
  .exact p
 exact⟨r4,r3,r2,x1,x,u,sc,_,e,_,b10,b11,j1,j2,j3,j4,j5,j6,e1,c67,e2,e3,e4,e5,k1,k2,k3,k4,e6,d3 f1 f2 f3 e,k5,k6,c34,c176,rfl,c179 (by unfold Sm;omega),UQ,vc,E,B,sx,v⟩
def AR:∀s∈Z5,tE false s:=by decide +kernel
def m7(nm:bj)(r4 r2:Int)(x:Ty)(e:Ex):Bd:=⟨0,decide (r4=1),nm,decide (r2=0),if r2=0 then x else bF,e⟩
def I6{nm:bj}{r4 r2:Int}{x:Ty}{e:Ex}(a:nm.length<=100)(sx:ML x)(ty:yF 16 e):lX 100 (m7 nm r4 r2 x e):=by
 refine⟨ty.sc,gH ty.h (by omega),?_,?_,?_,a,?_,by have:=ty.w;rw[show(16:Nat)=4*4 from rfl,Hk]at this;simp only[m7];omega,ty.tx,ty.ad⟩<;>simp only[m7]<;>split
 .exact sx.ok
 .exact jn
 .exact sx.kn.cw
 .exact jo
 .exact sx.n
 .rw[Ty.aL];simp[bF]
 .exact sx.kn.imp (fun k b=>.inr b)
 .exact .bare rfl (by simp[bF]) (by simp[bF])
def Z7{L:List Int}(H:Sm L){ds:List Dt}(J:oJ ds){l:List En}(hl:Ctx 900 4 l){N i k:Nat}(D:i<N)(hN:N<=4){bs:List Bd}(E:bs.length=i){j:Nat}(hj:j<=L.length):∃(b:Bd)(l':List En)(w:Nat),lX 100 b/\Ctx (l.length+1) 4 l'/\w<=L.length /\
   cl AP g306L0 ⟨[(4,.au 4 0),(5,.aV 0 0),(6,.au 6 0),(7,.pv (.aq (l.map En.pv))),(8,.pv (vI N)),(9,.pv (vI i))],[(4,[.own [] 0,.own [] 1]),(6,[.pv (.aq (ds.map Dt.pv)),.aP (1+k) 20 bs.length true])],ux L k bs j,[0,0]⟩=
   cl AP g306L0 ⟨[(4,.au 4 0),(5,.aV 0 0),(6,.au 6 0),(7,.pv (.aq (l'.map En.pv))),(8,.pv (vI N)),(9,.pv (vI (i+1:Nat)))],[(4,[.own [] 0,.own [] 1]),(6,[.pv (.aq (ds.map Dt.pv)),.aP (1+k+1) 20 (bs++[b]).length true])],ux L (k+1) (bs++[b]) w,[0,0]⟩:=by
 obtain⟨nm,c⟩:=aQ (l:=Z5) (i:=i) (by simp[Z5];omega);have f:=Ti c;have hT:=kB (L:=L) (k:=k) (bs:=bs);obtain⟨r4,r3,r2,x1,x,u,sc,c',e,A,b10,b11,j1,j2,j3,j4,j5,j6,I⟩:=Z6 hT H J hl hj nm (AR nm (aK c));obtain⟨e1,k0,e2,e3,e4,e5,k1,k2,k3,k4,e6,hA,k5,k6,k7,k8,hc,k9,UQ,vc,hc4,ty,sx,o⟩:=I
 refine⟨m7 nm r4 r2 x e,l++[⟨nm,c'⟩],j6,I6 (AR nm (aK c)).1 sx ty,⟨by simp,by
  intro y hy;simp at hy;rcases hy with hy|rfl
  .exact hl.Z1 y hy
  .exact UQ,by
  intro y hy;simp at hy;rcases hy with hy|rfl
  .exact hl.nm y hy
  .exact AR nm (aK c),by
  intro y hy;simp at hy;rcases hy with hy|rfl
  .exact hl.vn y hy
  .exact vc,by
  intro y hy;simp at hy;rcases hy with hy|rfl
  .exact hl.hd y hy
  .exact hc4⟩,o,?_⟩
 have tn:=hT.norm;have h:=hT.shift;have z:=hT.take;have g1:=I2 (L:=L) (k:=k) (bs:=bs) (j:=j6);have g2:=Tg (L:=L) (k:=k) (bs:=bs) (j:=j6) (F:=aI Bd.cells (bs++[m7 nm r4 r2 x e]));have K:=Th (L:=L) (k:=k) (bs:=bs) (j:=j6);have g:aI Bd.cells (bs++[m7 nm r4 r2 x e])=aI Bd.cells bs++(m7 nm r4 r2 x e).cells.map .pv:=by rw[oC];simp[aI]
 have v:=Ex.aX e;have M:(m7 nm r4 r2 x e).cells=[vI 0,.bool (decide (r4=1)),.str nm,.bool (decide (r2=0)),vI (if r2=0 then x else bF).kind,.str (if r2=0 then x else bF).name,vI (if r2=0 then x else bF).id,vI (if r2=0 then x else bF).home,.aq ((if r2=0 then x else bF).args.map Ty.pv)]++e.cells:=rfl;have r1:(aI Bd.cells bs).length=bs.length*20:=a_ dL;have n:bW (aI Bd.cells bs)=false:=bw aN;have m:(aI Bd.cells bs).take (bs.length*20)=aI Bd.cells bs:=zaf (by omega);have q:(bs.length+1)*256<=140737488355328:=by omega
 have p:(i:Int)<N:=by omega
 have C:aG (ux L (k+1) (bs++[m7 nm r4 r2 x e]) j6):=(kB (L:=L) (k:=k+1) (bs:=bs++[m7 nm r4 r2 x e])).quiet j6;have a:=C.norm;have d:ux L (k+1) (bs++[m7 nm r4 r2 x e]) j6=(ux L k bs j6).set (1+k) none++[some (aI Bd.cells bs++(m7 nm r4 r2 x e).cells.map .pv)]:=by rw[<-g,g2];rfl
 rw[d]at a⊢;rw[M]at a⊢;generalize aI Bd.cells bs=F at*;have B:A.take 11=A:=zaf (by rw[hA.len];omega);generalize G:ux L k bs=TP at*;clear g2 g d;generalize r:(TP j6).set (1+k) none=O at*;rw[v];rw[v]at a;simp[Ty.av]at e1 k0 e2 e3 e5 k1 k2 k3 k4 e6 k5 k6 k7 k8 k9;have t:(r2 == 0)=decide (r2=0):=by rw[za0];simp
 have s:(r4 == 1)=decide (r4=1):=by rw[za0];simp
 by_cases h4:r4=1<;>by_cases h3:r3=0<;>by_cases h2:r2=0<;>cases b10<;>cases b11 <;>
 simp[h4,h3,h2,bF,bK,Ty.av]at e1 e3 e4 e5 e6 hc a k5 k6 k7 k8<;>subst hc<;>(try simp at k9)<;>(first|(obtain⟨rfl,rfl⟩:=e4;have e4:=k0)|skip)<;>(conv=>lhs;rw[g306L0e])<;>
 simp (disch:=omega) [-getElem?_pos,g306B0,p,f,e1,k0,e2,e3,e4,e5,k1,k2,k3,k4,e6,k5,k6,k7,k8,k9,h4,h3,h2,t,s,tn,h,z,g1,K,r1,n,m,q,a,ae,aU,hA.gr,hA.flat,hA.tV,hA.len,hA.leaf,B,v,r,bF,bK]
def iT{L:List Int}:Tape L 0 (tp L) where
 get:=fun i=>by simp
 set:=fun i j=>by simp
 quiet:=fun i=>aG.one (by intro v hv;simp at hv;rcases hv with rfl|rfl<;>exact⟨_,rfl⟩)
theorem Z8{L:List Int}(s:Sm L){ds:List Dt}(t:oJ ds){N:Nat}(h0:0<N)(hN:N<=4){j:Nat}(hj:j<=L.length):∃(b:Bd)(l':List En)(o:Nat),lX 100 b/\Ctx 1 4 l'/\o<=L.length /\
   cl AP g306L0 ⟨[(4,.au 4 0),(5,.aV 0 0),(6,.au 6 0),(7,.own [] 0),(8,.pv (vI N)),(9,.pv (vI 0))],[(4,[.own [] 1,.own [] 2]),(6,[.pv (.aq (ds.map Dt.pv)),.own [] 3])],tp L j,[0,0,0,0]⟩=
   cl AP g306L0 ⟨[(4,.au 4 0),(5,.aV 0 0),(6,.au 6 0),(7,.pv (.aq (l'.map En.pv))),(8,.pv (vI N)),(9,.pv (vI 1))],[(4,[.own [] 0,.own [] 1]),(6,[.pv (.aq (ds.map Dt.pv)),.aP 1 20 1 true])],ux L 0 [b] o,[0,0]⟩:=by
 have hT:=iT (L:=L);obtain⟨r4,r3,r2,x1,x,u,sc,c',e,A,b10,b11,j1,j2,j3,j4,j5,j6,I⟩:=Z6 hT s t (l:=[]) ⟨by simp,by simp,by simp,by simp,by simp⟩ hj [112] (by decide +kernel);obtain⟨e1,k0,e2,e3,e4,e5,k1,k2,k3,k4,e6,hA,k5,k6,k7,k8,hc,k9,UQ,vc,hc4,ty,sx,h⟩:=I
 refine⟨m7 [112] r4 r2 x e,[⟨[112],c'⟩],j6,I6 (by simp) sx ty,⟨by simp,by
  intro y hy;simp at hy;subst hy;exact UQ,by
  intro y hy;simp at hy;subst hy;exact(by decide +kernel:tE false [112]),by
  intro y hy;simp at hy;subst hy;exact vc,by
  intro y hy;simp at hy;subst hy;exact hc4⟩,h,?_⟩
 have tn:=hT.norm;have g:=hT.shift;have p:=hT.take;have v:∀i,(tp L i).length=1:=fun i=>rfl
 have n:=Ex.aX e;have m:=h0;have hz:N≠0:=by omega
 have r:aG (ux L 0 [m7 [112] r4 r2 x e] j6):=(kB (L:=L) (k:=0) (bs:=[m7 [112] r4 r2 x e])).quiet j6;have a:=r.norm;have w:(m7 [112] r4 r2 x e).cells=[vI 0,.bool (decide (r4=1)),.str [112],.bool (decide (r2=0)),vI (if r2=0 then x else bF).kind,.str (if r2=0 then x else bF).name,vI (if r2=0 then x else bF).id,vI (if r2=0 then x else bF).home,.aq ((if r2=0 then x else bF).args.map Ty.pv)]++e.cells:=rfl;have c:ux L 0 [m7 [112] r4 r2 x e] j6=tp L j6++[some ((m7 [112] r4 r2 x e).cells.map .pv)]:=by simp[ux,nn,aI]
 rw[c]at a⊢;rw[w]at a⊢;generalize tp L=TP at*;have q:A.take 11=A:=zaf (by rw[hA.len];omega);clear c;rw[n];rw[n]at a;simp[Ty.av]at e1 k0 e2 e3 e5 k1 k2 k3 k4 e6 k5 k6 k7 k8 k9;have f:(r2 == 0)=decide (r2=0):=by rw[za0];simp
 have d:(r4 == 1)=decide (r4=1):=by rw[za0];simp
 by_cases h4:r4=1<;>by_cases h3:r3=0<;>by_cases h2:r2=0<;>cases b10<;>cases b11 <;>
 simp[h4,h3,h2,bF,bK,Ty.av]at e1 e3 e4 e5 e6 hc a k5 k6 k7 k8<;>subst hc<;>(try simp at k9)<;>(first|(obtain⟨rfl,rfl⟩:=e4;have e4:=k0)|skip)<;>(conv=>lhs;rw[g306L0e])<;>
 simp (disch:=omega) [-getElem?_pos,g306B0,m,hz,e1,k0,e2,e3,e4,e5,k1,k2,k3,k4,e6,k5,k6,k7,k8,k9,h4,h3,h2,f,d,tn,g,p,v,a,ae,aU,hA.gr,hA.flat,hA.tV,hA.len,hA.leaf,q,n,bF,bK]<;>(conv=>lhs;rw[g306L0e])<;>(conv=>rhs;rw[g306L0e])<;>simp[h4,h2,f,d,a,bF]
def Z9{L:List Int}(g:Sm L){ds:List Dt}(h:oJ ds){N:Nat}(hN:N<=4):∀(n i:Nat),N-i=n->i<=N->∀(l:List En)(k:Nat)(bs:List Bd)(j:Nat),Ctx (900-n) 4 l->bs.length=i->(∀b∈bs,lX 100 b)->j<=L.length->∃(l':List En)(k':Nat)(a:List Bd)(c:Nat),a.length=N/\(∀b∈a,lX 100 b)/\c<=L.length /\
   cl AP g306L0 ⟨[(4,.au 4 0),(5,.aV 0 0),(6,.au 6 0),(7,.pv (.aq (l.map En.pv))),(8,.pv (vI N)),(9,.pv (vI i))],[(4,[.own [] 0,.own [] 1]),(6,[.pv (.aq (ds.map Dt.pv)),.aP (1+k) 20 bs.length true])],ux L k bs j,[0,0]⟩=
     some (.exit 0,⟨[(4,.au 4 0),(5,.aV 0 0),(6,.au 6 0),(7,.pv (.aq (l'.map En.pv))),(8,.pv (vI N)),(9,.pv (vI N)),(26,.pv (.bool false))],[(4,[.own [] 0,.own [] 1]),(6,[.pv (.aq (ds.map Dt.pv)),.aP (1+k') 20 a.length true])],ux L k' a c,[0,0]⟩)
 |0,i,hn,hi,l,k,bs,j,hl,f,d,hj=>by
  have:i=N:=by omega
  subst this;refine⟨l,k,bs,j,f,d,hj,?_⟩;have tn:=((kB (L:=L) (k:=k) (bs:=bs)).quiet j).norm;generalize ux L k bs j=S at*;rw[g306L0e];simp[g306B0,tn]
 |n+1,i,hn,hi,l,k,bs,j,hl,f,d,hj=>by
  obtain⟨b,l1,j1,b1,b2,b3,e⟩:=Z7 g h (l:=l) (N:=N) (k:=k) (hl.iy (by omega) (zas _)) (by omega) hN f hj;have q:=hl.len
  obtain⟨l',k',a,c,p,o,m,r⟩:=Z9 g h hN n (i+1) (by omega) (by omega) l1 (k+1) (bs++[b]) j1 (b2.iy (by omega) (zas _)) (by simp;omega) (by
   intro y hy;simp at hy;rcases hy with hy|rfl
   .exact d y hy
   .exact b1) b3
  refine⟨l',k',a,c,p,o,m,?_⟩;rw[e];exact r
def c306{L:List Int}(f:Sm L)(bits:Int):∃(ds:List Dt)(bs:List Bd)(k j:Nat),oJ ds/\0<bs.length/\bs.length<=4/\(∀b∈bs,lX 100 b)/\
   (az AP).i 306 [.pv (vI bits),.pv (.aq (L.map vI))] [] []=some ([.agg [.pv (.aq (ds.map Dt.pv)),.aP (1+k) 20 bs.length true]],ux L k bs j,[]):=by
 obtain⟨ds,k1,o,m⟩:=c32 bits;have g:oJ ds:=⟨o,m⟩;obtain⟨r,l,e1,r0,r1,e⟩:=pR (iT (L:=L)) f (i:=0) (by omega) (n:=4) (by omega) (by omega);obtain⟨r,rfl,hr⟩:=mY (n:=4) r0 (by simpa using r1);obtain⟨b,l1,j1,b1,b2,b3,e2⟩:=Z8 f g (N:=1+r) (by omega) (by omega) e;obtain⟨l',k',a,c,q,h,p,e3⟩:=Z9 f g (N:=1+r) (by omega) _ 1 rfl (by omega) l1 0 [b] j1 (b2.iy (by omega) (zas _)) rfl (by simpa using b1) b3;refine⟨ds,a,k',c,g,by omega,by omega,h,?_⟩;have e4:∀y,cl AP g306L0 ⟨[(4,.au 4 0),(5,.aV 0 0),(6,.au 6 0),(7,.own [] 0),(8,.pv (vI (1+r:Nat))),(9,.pv (vI 0))],[(4,[.own [] 1,.own [] 2]),(6,[.pv (.aq (ds.map Dt.pv)),.own [] 3])],tp L l,[0,0,0,0]⟩=y<->_=y:=fun y=>by rw[e2]
 have e5:=e2.trans e3;have tn:=((kB (L:=L) (k:=k') (bs:=a)).quiet c).norm;have d:=((kB (L:=L) (k:=k') (bs:=a)).quiet c).shift;generalize ux L k' a c=S at*;clear e2 e3 e4;rw[g306L0e]at e5;have hw:(1:Int)+r=((1+r:Nat):Int):=by omega
 simp at k1 e1 e5;rw[aM g306];simp(disch:=omega)[g306,k1,e1,ae,g306L0e,e5,tn,d]
def W0{e:Ex}(h:r_ e){c:List Ex}(hl:c.length=e.ch.length)(hc:∀y∈c,r_ y):r_ (e.lS c):=by
 rw[Ex.cM]at hl;have d:=sa hl;have l:(e.lS c).kids.length=e.kids.length:=by rw[Ex.lS,zan hl];simp;omega
 have j:(e.lS c).aB.map (fun a=>(a.cv,a.vars))=e.aB.map (fun a=>(a.cv,a.vars)):=by rw[Ex.lS,zan hl];simp only[AB]
 have n:(e.lS c).aB.length=e.aB.length:=by have:=zbm List.length j;simpa using this
 have g:(e.lS c).kind=e.kind:=by rw[Ex.lS,zan hl]
 have f:(e.lS c).ty=e.ty:=by rw[Ex.lS,zan hl]
 refine⟨.mk (by have:=h.ok.k;omega) (by have:=h.ok.a;omega) ?_ (by rw[f];exact h.ok.t) (by rw[d];exact fun y hy=>(hc y hy).ok),.mk (by rw[g,l];exact h.one.h) (by rw[d];exact fun y hy=>(hc y hy).one),.mk (by rw[f];exact h.cw.h) (by rw[d];exact fun y hy=>(hc y hy).cw)⟩;intro a hm;have:(a.cv,a.vars)∈e.aB.map (fun a=>(a.cv,a.vars)):=by rw[<-j];exact zcf hm
 simp only[zat]at this;obtain⟨b,m,i⟩:=this;have:=h.ok.v b m;simp at i;rw[<-i.2];exact this
def Z_{e:Ex}{c:List Ex}(hl:c.length=e.ch.length){n:Nat}(hc:∀y∈c,y.oZ n):(e.lS c).oZ (n+1):=by
 rw[Ex.cM]at hl;exact .mk (by rw[sa hl];exact hc)
def UX{sz:Nat}{l:List PV}(h1:1<=l.length)(hs:bl sz l=true):cx false sz true false false [.pv (.aq l),.pv (.int .i64 1)]=some (.pv (.aq (l.drop 1))):=by
 have h2:(1:Int)<=l.length:=by omega
 simp[cx,cG,dw,h2,hs]
def Ex.cC(x:Ex):List Int->Ex->Ex×Bool
 |[],_=>(x,true)
 |q::p,e=>if 0<=q/\q<e.ch.length then match e.ch[q.toNat]? with
  |some c=>match Ex.cC x p c with
   |(y,true)=>(e.lS (e.ch.set q.toNat y),true)
   |(_,false)=>(e,false)
  |none=>(e,false)
   else (e,false)
def c359f{x:Ex}:∀(p:List Int)(e:Ex),p.length<1000000->r_ e->(az AP).p 359 [e.pv,.aq (p.map vI),x.pv]=some [(Ex.cC x p e).1.pv,.bool (Ex.cC x p e).2]
 |[],e,hp,E=>by
  rw[aw g359];simp[g359,Ex.cC]
 |q::p,e,hp,E=>by
  have J:=E.ok.k;have L:=E.ok.a;have M:=Ex.cM (e:=e);have hz:¬(p.length:Int)+1=0:=(by omega);simp at hp
  have R:(q<0\/e.ch.length<=q)->(az AP).p 359 [e.pv,.aq ((q::p).map vI),x.pv]=some [e.pv,.bool false]:=by
   intro H;obtain⟨k0,c1⟩:=c145i (e:=e) (A:=.pv (.aq (e.aB.map Ar.pv))) J L (X:=[]) (by intro cs h;simp at h) (.inl rfl);have g:=c145j (e:=e) (X:=[]);rw[c1]at g;clear c1;by_cases z:e.ch=[]
   .rw[zan z]at g;have z0:e.ch.length=0:=by rw[z];rfl
    simp at g;rw[aw g359];by_cases v:q<0
    .simp[g359,hz,g,v]
    .have u:0<=q:=(by omega);simp[g359,hz,g,v,u]
   .rw[zai z]at g;have n:=((bn k0).app (aG.one (aN (f:=Ex.cells) (l:=e.ch)))).norm;have m:=((bn k0).app (aG.one (aN (f:=Ex.cells) (l:=e.ch)))).shift;simp only[zaE,zao,zbi]at g;generalize nn k0++[some (aI Ex.cells e.ch)]=P at*;simp at g;rw[aw g359];by_cases v:q<0
    .simp[g359,hz,g,v,n,m]
    .have u:(e.ch.length:Int)<=q:=(by omega);simp[g359,hz,g,v,u,n,m]
  by_cases H:0<=q/\q<e.ch.length
  .obtain⟨v,u⟩:=H;obtain⟨i,rfl⟩:∃i:Nat,q=i:=⟨q.toNat,by omega⟩;have hi:i<e.ch.length:=by omega
   obtain⟨c,hc⟩:=aQ hi;have K:=aK hc;have k1:=c359f (x:=x) p c (by omega) (E.c K);generalize I:Ex.cC x p c=Q at k1;obtain⟨y,b⟩:=Q
   have N:Ex.cC x ((i:Int)::p) e=if b=true then(e.lS (e.ch.set i y),true)else(e,false):=by
    rw[Ex.cC,zan ⟨v,u⟩,zbx,hc];simp only[I];cases b<;>rfl
   rw[N];clear N;have z:¬e.ch=[]:=by intro z;rw[z]at hi;simp at hi
   obtain⟨k0,c1⟩:=c145i (e:=e) (A:=.pv (.aq (e.aB.map Ar.pv))) J L (X:=[]) (by intro cs h;simp at h) (.inl rfl);have g:=c145j (e:=e) (X:=[]);rw[c1,zai z]at g;clear c1;have n:=((bn k0).app (aG.one (aN (f:=Ex.cells) (l:=e.ch)))).norm;have m:=((bn k0).app (aG.one (aN (f:=Ex.cells) (l:=e.ch)))).shift;have C:=((bn k0).app (aG.one (aN (f:=Ex.cells) (l:=e.ch.set i y)))).norm;simp only[zaE,zao,zbi]at g;have d:=jE bo hc (o:=0) (k:=11) (by omega)
   have ht:(((c.cells.drop 0).take 11).map AV.pv)=c.cl:=by
    rw[zaj,zaf (by rw[bo.len];omega),Ex.hU]
   rw[ht,zba]at d
   have j:=gU bo hc (y:=y) (o:=0) (vs:=y.cells) (by rw[bo.len];omega) (by
    have h1:=bo.len c;have h2:=bo.len y;simp[h1,h2])
   rw[Ex.hU,zba]at j;have O:bW (aI Ex.cells e.ch)=false:=bw aN;have s:(aI Ex.cells e.ch).length=e.ch.length*11:=a_ bo;have D:i*11+11<=e.ch.length*11:=by omega
   have B:(nn k0++[some (aI Ex.cells e.ch)])[k0]?=some (some (aI Ex.cells e.ch)):=(by simp);have G:(nn k0++[some (aI Ex.cells e.ch)]).set k0 (some (aI Ex.cells (e.ch.set i y)))=nn k0++[some (aI Ex.cells (e.ch.set i y))]:=(by simp);have F:(nn k0++[some (aI Ex.cells (e.ch.set i y))])[k0]?=some (some (aI Ex.cells (e.ch.set i y))):=(by simp);have r:=mE (l:=e.ch.set i y);have w:(aI Ex.cells (e.ch.set i y)).length=e.ch.length*11:=(by rw[a_ bo,zaN]);rw[zaN]at r;have c2:=c374 (e:=e) J L (c:=e.ch.set i y);have t:=UX (sz:=1) (l:=(((i:Int)::p).map vI)) (by simp) (lq.head _);cases b with
   |false=>
    rw[zai (by simp)];generalize nn k0++[some (aI Ex.cells (e.ch.set i y))]=U at*;generalize nn k0++[some (aI Ex.cells e.ch)]=P at*;generalize aI Ex.cells (e.ch.set i y)=S at*;generalize aI Ex.cells e.ch=T at*;simp at g k1 t;simp[Ex.cl]at d;rw[aw g359];simp(disch:=omega)[-getElem?_pos,g359,hz,g,u,hi,n,m,t,B,O,s,D,d,k1]
   |true=>
    rw[zan rfl];generalize e.lS (e.ch.set i y)=Y at*;generalize nn k0++[some (aI Ex.cells (e.ch.set i y))]=U at*;generalize nn k0++[some (aI Ex.cells e.ch)]=P at*;generalize aI Ex.cells (e.ch.set i y)=S at*;generalize aI Ex.cells e.ch=T at*;simp at g k1 t c2 r;simp[Ex.cl]at d j;rw[aw g359];simp(disch:=omega)[-getElem?_pos,g359,hz,g,u,hi,n,m,C,t,B,G,F,O,s,w,D,d,k1,j,r,c2]
  .rw[Ex.cC,zai H];exact R (by omega)
def W9{e:Ex}{c:List Ex}(hl:c.length=e.ch.length):(e.lS c).sz=1+(c.map Ex.sz).sum:=by
 rw[Ex.cM]at hl;rw[Ex.jd,sa hl]
def W_{e:Ex}(h:kH e){c:List Ex}(hl:c.length=e.ch.length)(hc:∀y∈c,kH y):kH (e.lS c):=by
 rw[Ex.cM]at hl;have hw:e.lS c=⟨e.kind,e.pos,e.name,e.num,c.take e.kids.length,cN e.aB (c.drop e.kids.length),e.ty⟩:=by rw[Ex.lS,zan hl]
 have d:e.aB=[]->cN e.aB (c.drop e.kids.length)=[]:=by intro q;rw[q];rfl
 have one:∀{a:Ex},e.kids=[a]->e.aB=[]->∃y∈c,c.take e.kids.length=[y]:=by
  intro a g j;rw[g,j]at hl
  match c,hl with
  |[y],_=>exact⟨y,by simp,by rw[g];rfl⟩
 have f:∀{a b:Ex},e.kids=[a,b]->e.aB=[]->∃y∈c,∃z∈c,c.take e.kids.length=[y,z]:=by
  intro a b g j;rw[g,j]at hl
  match c,hl with
  |[y,z],_=>exact⟨y,by simp,z,by simp,by rw[g];rfl⟩
 rw[hw];cases h with
 |leaf h1 h2 h3=>exact .leaf h1 (by simp[h2]) (d h3)
 |lam h1 h2 h3 h4 _=>
  obtain⟨y,hy,q⟩:=one h3 h4;exact .lam h1 h2 q (d h4) (hc y hy)
 |app h1 h2 h3 _ _=>
  obtain⟨y,hy,z,hz,q⟩:=f h2 h3;exact .app h1 q (d h3) (hc y hy) (hc z hz)
 |rY h1 h2 h3 h4 _ _=>
  obtain⟨y,hy,z,hz,q⟩:=f h3 h4;exact .rY h1 h2 q (d h4) (hc y hy) (hc z hz)
 |Mp h1 h2 h3 h4 h5 _=>
  obtain⟨y,hy,q⟩:=one h2 h3;exact .Mp h1 q (d h3) h4 h5 (hc y hy)
 |held h1 h2 h3 _=>
  obtain⟨y,hy,q⟩:=one h2 h3;exact .held h1 q (d h3) (hc y hy)
 | @mT _ a h1 h2 h3 h4 h5 h6=>
  rw[h2]at hl⊢
  match c,hl with
  |[],hl=>simp at hl;omega
  |y::r,hl=>
   have l:r.length=e.aB.length:=(by simp at hl;omega);have i:=AB (as:=e.aB) (xs:=r);have n:(cN e.aB r).length=e.aB.length:=by have:=zbm List.length i;simpa using this
   refine .mT h1 rfl (hc y (by simp)) (by simp only[zbq,zbf,zaj];omega) ?_ ?_
   .intro x hx;simp only[zbq,zbf,zaj]at hx;have:(x.cv,x.vars)∈e.aB.map (fun a=>(a.cv,a.vars)):=by rw[<-i];exact zcf hx
    simp only[zat]at this;obtain⟨b,m,k⟩:=this;simp at k;rw[<-k.1,<-k.2];exact h5 b m
   .intro x hx;simp only[zbq,zbf,zaj]at hx;have m:=nM l;have:x.body∈(cN e.aB r).map cX.body:=zcf hx;rw[m]at this;exact hc _ (zcc _ this)
def Tj{l:List Ex}{i:Nat}{c y:Ex}(h:l[i]?=some c):((l.set i y).map Ex.sz).sum+c.sz=(l.map Ex.sz).sum+y.sz:=by
 induction l generalizing i with
 |nil=>simp at h
 |cons a r b=>
  cases i with
  |zero=>simp at h;subst h;simp;omega
  |succ i=>
   have:=b (i:=i) (by simpa using h);simp only[List.set_cons_succ,zal,zbj];omega
def mM{x:Ex}(hx:r_ x){m:Nat}(hm:x.oZ m):∀(p:List Int)(e:Ex)(n:Nat),r_ e->e.oZ n->
   r_ (Ex.cC x p e).1/\(Ex.cC x p e).1.oZ (n+m)/\(kH x->kH e->kH (Ex.cC x p e).1)/\(Ex.cC x p e).1.sz<=e.sz+x.sz
 |[],e,n,f,d=>⟨hx,gH hm (by omega),fun h _=>h,by simp only[Ex.cC];omega⟩
 |q::p,e,n,f,d=>by
  have stay:r_ e/\e.oZ (n+m)/\(kH x->kH e->kH e)/\e.sz<=e.sz+x.sz:=⟨f,gH d (by omega),fun _ h=>h,by omega⟩;rw[Ex.cC];split
  .rename_i k;split
   .rename_i c hc;have b:=aK hc;cases d with
    | @mk n _ d=>
     obtain⟨h1,h2,h3,h4⟩:=mM hx hm p c n (f.c b) (d c b);split
     .rename_i y hy;rw[hy]at h1 h2 h3 h4;have a:(e.ch.set q.toNat y).length=e.ch.length:=by simp
      have j:∀w∈e.ch.set q.toNat y,r_ w:=by
       intro w hw;rcases zaH hw with hw|rfl
       .exact f.c hw
       .exact h1
      have i:∀w∈e.ch.set q.toNat y,w.oZ (n+m):=by
       intro w hw;rcases zaH hw with hw|rfl
       .exact gH (d w hw) (by omega)
       .exact h2
      refine⟨W0 f a j,by rw[show n+1+m=n+m+1 by omega];exact Z_ a i,fun tx g=>W_ g a ?_,?_⟩
      .intro w hw;rcases zaH hw with hw|rfl
       .exact g.c w hw
       .exact h3 tx (g.c c b)
      .have:=Tj (y:=y) hc;simp only;rw[W9 a,e.jd];simp only at h4;omega
     .exact stay
   .exact stay
  .exact stay
def I7{x:Ex}(hx:x.Ad):∀(p:List Int)(e:Ex),e.Ad->(Ex.cC x p e).1.Ad
 |[],_,_=>hx
 |q::p,e,a=>by
  rw[Ex.cC];split
  .split
   .rename_i c hc;have h1:=I7 hx p c (a.c c (aK hc));split
    .rename_i y hy;rw[hy]at h1;have b:(e.ch.set q.toNat y).length=e.ch.length:=by simp
     rw[Ex.cM]at b;have hw:(e.lS (e.ch.set q.toNat y)).ty=e.ty:=by unfold Ex.lS;split<;>rfl
     refine .mk (by simp only[hw];exact a.t) fun w hw=>?_;simp only at hw;rw[sa b]at hw;rcases zaH hw with hw|rfl
     .exact a.c w hw
     .exact h1
    .exact a
   .exact a
  .exact a
def c359{x:Ex}(hx:r_ x){m:Nat}(hm:x.oZ m)(p:List Int)(e:Ex)(n:Nat)(hp:p.length<1000000)(a:r_ e)(c:e.oZ n):∃(y:Ex)(b:Bool),(az AP).p 359 [e.pv,.aq (p.map vI),x.pv]=some [y.pv,.bool b]/\r_ y/\y.oZ (n+m)/\(kH x->kH e->kH y)/\y.sz<=e.sz+x.sz/\(x.Ad->e.Ad->y.Ad):=
 have h:=mM hx hm p e n a c
 ⟨_,_,c359f p e hp a,h.1,h.2.1,h.2.2.1,h.2.2.2,fun h=>I7 h p e⟩
def c545{x:Ex}:∀(p:List Int)(e:Ex),p.length<1000000->e.Ok->(az AP).p 545 [e.pv,.aq (p.map vI),x.pv]=some [(Ex.cC x p e).1.pv,.bool (Ex.cC x p e).2]
 |[],e,hp,w=>by
  rw[aw g545];simp[g545,Ex.cC]
 |q::p,e,hp,w=>by
  have O:=w.k;have P:=w.a;have I:=Ex.cM (e:=e);have hz:¬(p.length:Int)+1=0:=(by omega);simp at hp
  have N:(q<0\/e.ch.length<=q)->(az AP).p 545 [e.pv,.aq ((q::p).map vI),x.pv]=some [e.pv,.bool false]:=by
   intro F;obtain⟨k0,g⟩:=c414i w;by_cases z:e.ch=[]
   .rw[zan z]at g;have z0:e.ch.length=0:=by rw[z];rfl
    simp at g;rw[aw g545];by_cases u:q<0
    .simp[g545,hz,g,u]
    .have t:0<=q:=(by omega);simp[g545,hz,g,u,t]
   .rw[zai z]at g;have m:=((bn k0).app (aG.one (aN (f:=Ex.cells) (l:=e.ch)))).norm;have j:=((bn k0).app (aG.one (aN (f:=Ex.cells) (l:=e.ch)))).shift
    try simp only[zaE,zao,zbi]at g
    generalize nn k0++[some (aI Ex.cells e.ch)]=L at*;simp at g;rw[aw g545];by_cases u:q<0
    .simp[g545,hz,g,u,m,j]
    .have t:(e.ch.length:Int)<=q:=(by omega);simp[g545,hz,g,u,t,m,j]
  by_cases F:0<=q/\q<e.ch.length
  .obtain⟨u,t⟩:=F;obtain⟨i,rfl⟩:∃i:Nat,q=i:=⟨q.toNat,by omega⟩;have hi:i<e.ch.length:=by omega
   obtain⟨c,hc⟩:=aQ hi;have H:=aK hc;have k1:=c545 (x:=x) p c (by omega) (w.c c H);generalize G:Ex.cC x p c=M at k1;obtain⟨y,b⟩:=M
   have J:Ex.cC x ((i:Int)::p) e=if b=true then(e.lS (e.ch.set i y),true)else(e,false):=by
    rw[Ex.cC,zan ⟨u,t⟩,zbx,hc];simp only[G];cases b<;>rfl
   rw[J];clear J;have z:¬e.ch=[]:=by intro z;rw[z]at hi;simp at hi
   obtain⟨k0,g⟩:=c414i w;rw[zai z]at g;have m:=((bn k0).app (aG.one (aN (f:=Ex.cells) (l:=e.ch)))).norm;have j:=((bn k0).app (aG.one (aN (f:=Ex.cells) (l:=e.ch)))).shift;have B:=((bn k0).app (aG.one (aN (f:=Ex.cells) (l:=e.ch.set i y)))).norm
   try simp only[zaE,zao,zbi]at g
   have d:=jE bo hc (o:=0) (k:=11) (by omega)
   have ht:(((c.cells.drop 0).take 11).map AV.pv)=c.cl:=by
    rw[zaj,zaf (by rw[bo.len];omega),Ex.hU]
   rw[ht,zba]at d
   have h:=gU bo hc (y:=y) (o:=0) (vs:=y.cells) (by rw[bo.len];omega) (by
    have h1:=bo.len c;have h2:=bo.len y;simp[h1,h2])
   rw[Ex.hU,zba]at h;have K:bW (aI Ex.cells e.ch)=false:=bw aN;have r:(aI Ex.cells e.ch).length=e.ch.length*11:=a_ bo;have C:i*11+11<=e.ch.length*11:=by omega
   have A:(nn k0++[some (aI Ex.cells e.ch)])[k0]?=some (some (aI Ex.cells e.ch)):=(by simp);have E:(nn k0++[some (aI Ex.cells e.ch)]).set k0 (some (aI Ex.cells (e.ch.set i y)))=nn k0++[some (aI Ex.cells (e.ch.set i y))]:=(by simp);have D:(nn k0++[some (aI Ex.cells (e.ch.set i y))])[k0]?=some (some (aI Ex.cells (e.ch.set i y))):=(by simp);have n:=mE (l:=e.ch.set i y);have v:(aI Ex.cells (e.ch.set i y)).length=e.ch.length*11:=(by rw[a_ bo,zaN]);rw[zaN]at n;have c2:=c556 (e:=e) O P (c:=e.ch.set i y);have s:=UX (sz:=1) (l:=(((i:Int)::p).map vI)) (by simp) (lq.head _);cases b with
   |false=>
    rw[zai (by simp)];generalize nn k0++[some (aI Ex.cells (e.ch.set i y))]=R at*;generalize nn k0++[some (aI Ex.cells e.ch)]=L at*;generalize aI Ex.cells (e.ch.set i y)=Q at*;generalize aI Ex.cells e.ch=T at*;simp at g k1 s;simp[Ex.cl]at d;rw[aw g545];simp(disch:=omega)[-getElem?_pos,g545,hz,g,t,hi,m,j,s,A,K,r,C,d,k1]
   |true=>
    rw[zan rfl];generalize e.lS (e.ch.set i y)=Y at*;generalize nn k0++[some (aI Ex.cells (e.ch.set i y))]=R at*;generalize nn k0++[some (aI Ex.cells e.ch)]=L at*;generalize aI Ex.cells (e.ch.set i y)=Q at*;generalize aI Ex.cells e.ch=T at*;simp at g k1 s c2 n;simp[Ex.cl]at d h;rw[aw g545];simp(disch:=omega)[-getElem?_pos,g545,hz,g,t,hi,m,j,B,s,A,E,D,K,r,v,C,d,k1,h,n,c2]
  .rw[Ex.cC,zai F];exact N (by omega)
def nV(sh:Sh):Prop:=∀cs,some cs∈sh->∀v∈cs,(∃p,v=AV.pv p)\/∃b z n g,v=AV.aP b z n g
def aG.Z'{sh:Sh}(h:aG sh):nV sh:=fun cs hc v hv=>.inl (h cs hc v hv)
def nV.app{a b:Sh}(h:nV a)(k:nV b):nV (a++b):=by
 intro cs hc;rcases zaz.1 hc with h1|h1
 .exact h cs h1
 .exact k cs h1
theorem tG{aH ts:aF}:∀{cs:List AV},(∀v∈cs,(∃p,v=AV.pv p)\/∃b z n g,v=AV.aP b z n g)->br aH ts cs=(cs,aH,ts)
 |[],_=>rfl
 |v::r,h=>by
  have h1:=h v (by simp);have a:=tG (aH:=aH) (ts:=ts) (cs:=r) fun x hx=>h x (by simp[hx])
  rcases h1 with⟨p,rfl⟩|⟨b,z,n,g,rfl⟩<;>simp[a]
theorem nV.norm:∀{sh:Sh},nV sh->∀aH ts,bg aH ts sh=(sh,aH,ts)
 |[],_,_,_=>rfl
 |none::r,h,aH,ts=>by
  have a:=nV.norm (sh:=r) (fun cs hc=>h cs (by simp[hc])) aH ts;simp[a]
 |some cs::r,h,aH,ts=>by
  have a:=nV.norm (sh:=r) (fun c hc=>h c (by simp[hc])) aH ts;have h1:=tG (aH:=aH) (ts:=ts) (h cs (by simp));simp[a,h1]
def cd.cells(c:cd):List PV:=[.int .i64 c.pos,.str c.name,.aq (c.fields.map Ty.pv)]
def Dt.cells(d:Dt):List PV:=[.int .i64 d.pos,.str d.name,.aq (d.params.map .str),.aq (d.cons.map cd.pv)]
def kZ:Row cd.cells 3:=⟨by omega,fun _=>rfl⟩
def kC:Row Dt.cells 4:=⟨by omega,fun _=>rfl⟩
def I8{l:List cd}:((eX (aI cd.cells l)).bind (d9 3 true l.length)).map PV.aq=some (.aq (l.map cd.pv)):=oD kZ
def I9{l:List cd}:((l.map cd.pv).flatMap aZ).map AV.pv=aI cd.cells l:=oE kZ
def Qm{l:List Dt}:((eX (aI Dt.cells l)).bind (d9 4 true l.length)).map PV.aq=some (.aq (l.map Dt.pv)):=oD kC
def Xa{l:List Dt}:((l.map Dt.pv).flatMap aZ).map AV.pv=aI Dt.cells l:=oE kC
def cd.p0(c:cd):cd:=⟨0,c.name,c.fields⟩
def Dt.p0(d:Dt):Dt:=⟨0,d.name,d.params,d.cons⟩
def Dt.strip(d:Dt):Dt:=⟨0,d.name,d.params,d.cons.map cd.p0⟩
def Bd.strip(b:Bd):Bd:=⟨0,b.rc,b.name,b.sg,b.sig,b.body.strip⟩
def zP(t:Nat):List AV:=[.own [] t,.own [] (t+1)]
def UY{b C M N j:Nat}{V4:AV}(hV:∃b2 n2,V4=.aP b2 20 n2 true){D:List AV}(A:D[j*4+3]?=some (.aP C 3 N true))(h:bW D=false)(m:D.length=M*4)(hj:j<M)(B:M<=1000)(hN:N<=1000)
   {SC:List cd->Sh} (h1:∀c,(SC c)[C]?=some (some (aI cd.cells c))) (h2:∀c c',(SC c).set C (some (aI cd.cells c'))=SC c') (h3:∀c,nV (SC c)) (h4:∀c,(SC c)[b]?=some (some D)):
   ∀(n k:Nat),N-k=n->k<=N->∀cs:List cd,cs.length=N->
   cl AP g544L1 ⟨[(2,.au 2 0),(3,.aP b 4 M true),(4,V4),(5,.pv (vI j)),(15,.pv (vI M)),(16,.pv (vI j)),(38,.pv (vI N)),(39,.pv (vI k))],[(2,zP 0)],SC cs,[0,0]⟩=
     some (.exit 2,⟨[(2,.au 2 0),(3,.aP b 4 M true),(4,V4),(5,.pv (vI j)),(15,.pv (vI M)),(16,.pv (vI j)),(38,.pv (vI N)),(39,.pv (vI N)),(40,.pv (.bool false))],[(2,zP 0)],SC (cs.take k++(cs.drop k).map cd.p0),[0,0]⟩)
 |0,k,hn,w,cs,z=>by
  have:k=N:=by omega
  subst this;obtain⟨b2,n2,rfl⟩:=hV;have u:=(h3 cs).norm;rw[jb (l:=cs) (by omega),zaf (by omega),zaJ,zax];generalize SC cs=S at*;rw[g544L1e];simp[g544B1,zP,u]
 |n+1,k,hn,w,cs,z=>by
  have w:k<N:=(by omega);obtain⟨x,hx⟩:=aQ (l:=cs) (i:=k) (by omega);have q:=UY hV A h m hj B hN h1 h2 h3 h4 n (k+1) (by omega) (by omega) (cs.set k x.p0) (by simpa using z);obtain⟨b2,n2,rfl⟩:=hV;have a:=lQ kZ hx (y:=x.p0) (o:=0) (p:=vI 0) (by omega) (by simp[cd.cells,cd.p0])
  have d:cs.take k++(cs.drop k).map cd.p0=(cs.set k x.p0).take (k+1)++((cs.set k x.p0).drop (k+1)).map cd.p0:=by
   have h1:(cs.set k x.p0).take (k+1)=cs.take k++[x.p0]:=by
    rw[zaw,zan (by omega),zaV,zaf (by simp;omega)];have:k+1-(cs.take k).length=1:=by simp;omega
    rw[this];rfl
   rw[h1,za7 (by omega),aR hx];simp
  rw[d];generalize (cs.set k x.p0).take (k+1)++((cs.set k x.p0).drop (k+1)).map cd.p0=R at q⊢;have t:=h1 cs;have s:=h2 cs (cs.set k x.p0);have r:=h4 cs;have u:=(h3 cs).norm;have e:=(h3 (cs.set k x.p0)).norm;have E:bW (aI cd.cells cs)=false:=bw aN;have f:(aI cd.cells cs).length=N*3:=by rw[a_ kZ,z]
  have v:k*3+1<=N*3:=(by omega);have g:j*4+3+1<=M*4:=(by omega);clear h1 h2 h3 h4 d;generalize SC (cs.set k x.p0)=H at*;generalize SC cs=S at*;generalize SC R=G at*;generalize aI cd.cells (cs.set k x.p0)=F at*;generalize aI cd.cells cs=T at*;rw[g544L1e]at q⊢;simp[zP,e]at q a;simp(disch:=omega)[-getElem?_pos,g544B1,zP,u,w,hj,t,r,E,h,m,A,f,v,g,a,s,ae];rw[g544L1e];simp[e,q]
def sr{sh:Sh}:∀{a b:List AV}{p q:List PV},cz sh a=some p->cz sh b=some q->cz sh (a++b)=some (p++q)
 |[],b,p,q,h,k=>by simp[cz]at h;subst h;exact k
 |x::a,b,p,q,h,k=>by
  rw[cz]at h;rw[zbb,cz];split at h
  .rename_i hl;rw[zan hl];split at h
   .rename_i y c h1 h2;cases h;rw[h1,sr h2 k];rfl
   .cases h
  .cases h
theorem wJ{sh:Sh}:∀{l:List PV},(∀p∈l,dT p=true)->cz sh (l.map AV.pv)=some l
 |[],_=>rfl
 |p::r,h=>by
  have h1:=h p (by simp);rw[zal,cz,wJ (l:=r) fun x hx=>h x (by simp[hx])];have:aY (.pv p)=true:=by cases p<;>first|rfl|simp[dT]at h1
  rw[zan this];rfl
def uy(c:List Dt):∀p∈c.flatMap Dt.cells,dT p=true:=by
 intro p hp;rw[zaC]at hp;obtain⟨d,_,h⟩:=hp;simp[Dt.cells]at h;rcases h with rfl|rfl|rfl|rfl<;>rfl
def wK{α:Type}{f:α->List PV}{l:List α}:aI f l=(l.flatMap f).map AV.pv:=by
 rw[aI,List.map_flatMap]
def Xb{c:List Dt}{j:Nat}{d:Dt}(hd:c[j]?=some d){v:AV}:aS (aI Dt.cells (c.set j d.p0)) (j*4+3) [v]=((c.take j).flatMap Dt.cells).map .pv++([.pv (.int .i64 0),.pv (.str d.name),.pv (.aq (d.params.map .str)),v]++((c.drop (j+1)).flatMap Dt.cells).map .pv):=by
 have hj:=(zaa.1 hd).1;have e:c.set j d.p0=c.take j++([d.p0]++c.drop (j+1)):=by rw[zaw,zan hj];rfl
 have hl:(aI Dt.cells (c.take j)).length=j*4:=by rw[a_ kC,zbk];congr 1;omega
 rw[e,oC,oC,<-wK,<-wK];have e1:aI Dt.cells [d.p0]=[.pv (.int .i64 0),.pv (.str d.name),.pv (.aq (d.params.map .str))]++[.pv (.aq (d.cons.map cd.pv))]:=rfl;rw[e1];generalize aI Dt.cells (c.take j)=A at*;generalize aI Dt.cells (c.drop (j+1))=B at*;unfold aS;rw[zaV,zaf (by omega),hl,zb0,zcs,zaM (by simp;omega),hl];have:j*4+3+[v].length-j*4=4:=by simp;omega
 rw[this];simp
def Xc{c:List Dt}{j:Nat}{d:Dt}(hd:c[j]?=some d):(c.take j).flatMap Dt.cells++([.int .i64 0,.str d.name,.aq (d.params.map .str),.aq ((d.cons.map cd.p0).map cd.pv)]++(c.drop (j+1)).flatMap Dt.cells)=(c.set j d.strip).flatMap Dt.cells:=by
 have hj:=(zaa.1 hd).1;have e:c.set j d.strip=c.take j++([d.strip]++c.drop (j+1)):=by rw[zaw,zan hj];rfl
 rw[e,zbL,zbL];rfl
structure SH(SS:List Dt->Sh)(b b2 L:Nat)(TB:List AV):Prop where
 g:∀c,(SS c)[b]?=some (some (aI Dt.cells c))
 s:∀c c',(SS c).set b (some (aI Dt.cells c'))=SS c'
 q:∀c,aG (SS c)
 h:∀c,(SS c)[b2]?=some (some TB)
 e:∀c c',(SS c).set b none=(SS c').set b none
 l:∀c,(SS c).length=L
 ne:b≠b2
def yK{S:Sh}(h:aG S)(b:Nat):aG (S.set b none):=by
 intro cs hc v hv;have:=zaH hc;rcases this with h1|h1
 .exact h cs h1 v hv
 .cases h1
def SH.next{SS:List Dt->Sh}{b b2 L:Nat}{TB:List AV}(H:SH SS b b2 L TB):SH (fun c=>(SS []).set b none++[none,some (aI Dt.cells c)]) (L+1) b2 (L+2) TB:=by
 have hl:((SS []).set b none).length=L:=by rw[zaN];exact H.l _
 have a:b2<L:=by have:=(zaa.1 (H.h [])).1;rw[H.l]at this;exact this
 refine⟨fun c=>?_,fun c c'=>?_,fun c=>?_,fun c=>?_,fun c c'=>?_,fun c=>?_,by omega⟩
 .have:=Mu (X:=(SS []).set b none) none (some (aI Dt.cells c));rwa [hl]at this
 .have:=Hn (X:=(SS []).set b none) none (some (aI Dt.cells c)) (some (aI Dt.cells c'));rwa [hl]at this
 .exact(yK (H.q []) b).app ((bn 1).app (aG.one aN))
 .rw[zar (by omega),zaA,zai H.ne];exact H.h []
 .have h1:=Hn (X:=(SS []).set b none) none (some (aI Dt.cells c)) none;have h2:=Hn (X:=(SS []).set b none) none (some (aI Dt.cells c')) none;rw[hl]at h1 h2;rw[h1,h2]
 .simp[hl]
def kI(c:List Dt)(j:Nat)(d:Dt)(v:AV):List AV:=((c.take j).flatMap Dt.cells).map AV.pv++([AV.pv (.int .i64 0),AV.pv (.str d.name),AV.pv (.aq (d.params.map .str)),v]++((c.drop (j+1)).flatMap Dt.cells).map AV.pv)
def Qn{c:List Dt}{j:Nat}(hj:j<c.length):((c.take j).flatMap Dt.cells).length=j*4:=by
 have:=a_ kC (l:=c.take j);rw[wK,zak,zbk]at this;rw[this];congr 1;omega
def Qo{c:List Dt}{j:Nat}(hj:j<c.length){d:Dt}{v:AV}:(kI c j d v)[j*4+3]?=some v:=by
 have hl:=Qn hj;unfold kI;rw[zaB (by simp[hl])];simp[hl]
theorem Tl{c:List Dt}{j:Nat}{d:Dt}{v:AV}:bW (kI c j d v)=false:=by
 unfold kI;cases(c.take j).flatMap Dt.cells with
 |nil=>rfl
 |cons x r=>rfl
def Qp{c:List Dt}{j:Nat}(hj:j<c.length){d:Dt}{v:AV}:(kI c j d v).length=c.length*4:=by
 have hl:=Qn hj;have h2:=a_ kC (l:=c.drop (j+1));rw[wK,zak,zce]at h2;unfold kI;rw[zad,zad,zak,zak,hl,h2];simp only[zae,zao];omega
def DY{c:List Dt}{j:Nat}{d:Dt}{v:AV}{f:AV->Bool}(h:∀p,dT p=true->f (.pv p)=true)(hv:f v=true):(kI c j d v).all f=true:=by
 have h1:=uy (c.take j);have h2:=uy (c.drop (j+1));unfold kI;rw[zcK,zcK,zah,zah];refine⟨?_,?_,?_⟩
 .rw[zcZ,zaq];exact fun p hp=>h p (h1 p hp)
 .simp[h (.int .i64 0) rfl,h (.str d.name) rfl,h (.aq (d.params.map .str)) rfl,hv]
 .rw[zcZ,zaq];exact fun p hp=>h p (h2 p hp)
def aaa:AV->List Nat
 | .aP b _ _ _=>[b]
 |_=>[]
def vK(cs:List AV):eA (.agg cs)=cs.flatMap aaa:=by
 show cs.flatMap _=_;congr 1;all_goals (try (funext x;cases x<;>rfl))
theorem ud(l:List PV):(l.map AV.pv).flatMap aaa=[]:=by
 induction l with
 |nil=>rfl
 |cons a r b=>rw[zal,zav,b];rfl
def MM{c:List Dt}{j:Nat}{d:Dt}{L z n:Nat}{g:Bool}:eA (.agg (kI c j d (.aP L z n g)))=[L]:=by
 rw[vK];unfold kI;rw[zbL,zbL,ud,ud]
 try rfl
def Qq{c:List Dt}{j:Nat}{d:Dt}(hd:c[j]?=some d){sh:Sh}{L:Nat}(hs:sh[L]?=some (some (aI cd.cells (d.cons.map cd.p0)))):
   cz sh (kI c j d (.aP L 3 d.cons.length true))=some ((c.set j d.strip).flatMap Dt.cells):=by
 rw[<-Xc hd];unfold kI;refine sr (wJ (uy _)) (sr ?_ (wJ (uy _)));have hl:=I8 (l:=d.cons.map cd.p0);have hn:(aI cd.cells (d.cons.map cd.p0)).length=d.cons.length*3:=by rw[a_ kZ,zak]
 rw[zak]at hl;generalize aI cd.cells (d.cons.map cd.p0)=T at*;simp only[cz,d4,hs];rw[zan hn,hl];rfl
theorem UZ{M b2 n2:Nat}(hM:M<=1000){TB:List AV}:∀(n j:Nat),M-j=n->j<=M->∀(c:List Dt)(SS:List Dt->Sh)(b L:Nat),c.length=M->(∀d∈c,d.cons≠[]/\d.cons.length<=1000)->SH SS b b2 L TB->
   ∃F b',aG F/\F[b']?=some (some (aI Dt.cells (c.take j++(c.drop j).map Dt.strip)))/\F[b2]?=some (some TB)/\b'≠b2 /\
   cl AP g544L0 ⟨[(2,.au 2 0),(3,.aP b 4 M true),(4,.aP b2 20 n2 true),(15,.pv (vI M)),(16,.pv (vI j))],[(2,zP 0)],SS c,[0,0]⟩=
     some (.exit 0,⟨[(2,.au 2 0),(3,.aP b' 4 M true),(4,.aP b2 20 n2 true),(15,.pv (vI M)),(16,.pv (vI M)),(17,.pv (.bool false))],[(2,zP 0)],F,[0,0]⟩)
 |0,j,hn,hj,c,SS,b,L,W,hc,H=>by
  have:j=M:=by omega
  subst this;have hq:=(H.q c).norm;refine⟨SS c,b,H.q c,?_,H.h c,H.ne,?_⟩
  .rw[jb (l:=c) (by omega),zaf (by omega),zaJ,zax];exact H.g c
  generalize SS c=S at*;rw[g544L0e];simp[g544B0,zP,hq]
 |n+1,j,hn,hj,c,SS,b,L,W,hc,H=>by
  have hj:j<M:=(by omega);obtain⟨d,hd⟩:=aQ (l:=c) (i:=j) (by omega);obtain⟨t,U⟩:=hc d (aK hd);have nv:(c.set j d.p0)[j]?=some d.p0:=(by rw[zbM (by omega)]);have hl:((SS []).set b none).length=L:=(by rw[zaN];exact H.l _);have a7:b<L:=by have:=(zaa.1 (H.g [])).1;rw[H.l]at this;exact this
  obtain⟨F,b',r1,r2,r3,r4,G⟩:=UZ (b2:=b2) (n2:=n2) hM (TB:=TB) n (j+1) (by omega) (by omega) (c.set j d.strip) _ (L+1) (L+2) (by simpa using W) (by
   intro x hx;rcases zaH hx with h|h
   .exact hc x h
   .subst h;exact⟨by simp[Dt.strip,t],by simp[Dt.strip];exact U⟩) H.next
  have r:c.take j++(c.drop j).map Dt.strip=(c.set j d.strip).take (j+1)++((c.set j d.strip).drop (j+1)).map Dt.strip:=by
   have h1:(c.set j d.strip).take (j+1)=c.take j++[d.strip]:=by
    rw[zaw,zan (by omega),zaV,zaf (by simp;omega)];have:j+1-(c.take j).length=1:=by simp;omega
    rw[this];rfl
   rw[h1,za7 (by omega),aR hd];simp
  rw[r];refine⟨F,b',r1,r2,r3,r4,?_⟩;clear r1 r2 r3 r4 r hc;have g1:=H.g c;have s1:=H.s c (c.set j d.p0);have g2:=H.g (c.set j d.p0);have l2:=H.l (c.set j d.p0);have q2:=(H.q c).norm;have e2:=H.e (c.set j d.p0) [];have k:=lQ kC hd (y:=d.p0) (o:=0) (p:=vI 0) (by omega) (by simp[Dt.cells,Dt.p0]);have a1:=Sf kC nv (o:=3) (p:=.aq (d.cons.map cd.pv)) (by omega) rfl;have hB:bW (aI Dt.cells c)=false:=bw aN;have a6:bW (aI Dt.cells (c.set j d.p0))=false:=bw aN;have K:(aI Dt.cells c).length=M*4:=by rw[a_ kC,W]
  have B:(aI Dt.cells (c.set j d.p0)).length=M*4:=(by rw[a_ kC,zaN,W]);have a0:j*4+1<=M*4:=(by omega);have O:j*4+3+1<=M*4:=(by omega);have hm:=I9 (l:=d.cons);have Q:j<c.length:=(by omega);have m:aS (aI Dt.cells (c.set j d.p0)) (j*4+3) [.aP L 3 d.cons.length true]=kI c j d (.aP L 3 d.cons.length true):=Xb hd;have hD:=Qo Q (d:=d) (v:=.aP L 3 d.cons.length true);have Y:=Tl (c:=c) (j:=j) (d:=d) (v:=.aP L 3 d.cons.length true);have E:=Qp Q (d:=d) (v:=.aP L 3 d.cons.length true);rw[W]at E;have hA:=MM (c:=c) (j:=j) (d:=d) (L:=L) (z:=3) (n:=d.cons.length) (g:=true);have a4:=DY (c:=c) (j:=j) (d:=d) (v:=.aP L 3 d.cons.length true) (f:=da) (fun p hp=>by cases p<;>first|rfl|simp[dT]at hp) rfl;have a3:=DY (c:=c) (j:=j) (d:=d) (v:=.aP L 3 d.cons.length true) (f:=aJ (L+1+1)) (fun p hp=>rfl) (za2 (by omega));have hF:=Qq hd (sh:=(SS []).set b none++[some (aI cd.cells (d.cons.map cd.p0)),some (kI c j d (.aP L 3 d.cons.length true))]) (L:=L) (by rw[zaB (by omega),hl];simp);have R:=wK (f:=Dt.cells) (l:=c.set j d.strip);have J:d.cons.isEmpty=false:=by cases hq:d.cons with|nil=>exact absurd hq t|cons _ _=>rfl
  have V:d.cons.length*48<=140737488355328:=(by omega);have I:aG ((SS []).set b none):=yK (H.q []) b;have f4:∀u,(SS (c.set j d.p0)++[u])[b]?=some (some (aI Dt.cells (c.set j d.p0))):=fun u=>by rw[zar (by omega)];exact g2
  have f5:∀u,(SS (c.set j d.p0)++[u]).set b none=(SS []).set b none++[u]:=fun u=>by rw[List.set_append_left _ _ (by omega),e2]
  have f7:∀u v,((SS []).set b none++[u,v])[L+1]?=some v:=fun u v=>by have:=Mu (X:=(SS []).set b none) u v;rwa [hl]at this
  have f8:∀u v w,((SS []).set b none++[u,v]).set (L+1) w=(SS []).set b none++[u,w]:=fun u v w=>by have:=Hn (X:=(SS []).set b none) u v w;rwa [hl]at this
  have f9:∀u v,((SS []).set b none++[u,v])[L]?=some u:=fun u v=>by rw[zaB (by omega),hl];simp
  have Z:∀u v w,((SS []).set b none++[u,v]).set L w=(SS []).set b none++[w,v]:=fun u v w=>by rw[zco _ _ (by omega),hl];simp
  have a:∀cs:List cd,nV ((SS []).set b none++[some (aI cd.cells cs),some (kI c j d (.aP L 3 d.cons.length true))]):=fun cs=>I.Z'.app fun x hx v hv=>by
   simp only[zau,zag,zbu,zci]at hx;rcases hx with rfl|rfl
   .exact .inl (aN v hv)
   .unfold kI at hv;simp only[zaz,zau,zbu,zci,zat]at hv;rcases hv with⟨p,_,rfl⟩|(rfl|rfl|rfl|rfl)|⟨p,_,rfl⟩<;>first|exact .inl ⟨_,rfl⟩|exact .inr ⟨_,_,_,_,rfl⟩
  have l1:=UY (b:=L+1) (C:=L) (M:=M) (N:=d.cons.length) (j:=j) (V4:=.aP b2 20 n2 true) ⟨_,_,rfl⟩ hD Y E hj hM U (SC:=fun cs=>(SS []).set b none++[some (aI cd.cells cs),some (kI c j d (.aP L 3 d.cons.length true))])
    (fun _=>f9 _ _) (fun _ _=>Z _ _ _) a (fun _=>f7 _ _) _ 0 rfl (by omega) d.cons rfl
  rw[za3,zaj,zaE]at l1
  have hk:cQ ((SS []).set b none++[some (aI cd.cells (d.cons.map cd.p0)),some (kI c j d (.aP L 3 d.cons.length true))]) [.agg (kI c j d (.aP L 3 d.cons.length true))]=(SS []).set b none++[none,some (kI c j d (.aP L 3 d.cons.length true))]:=by
   unfold cQ;rw[zav,hA];exact Z _ _ _
  have A:(eA (.agg (kI c j d (.aP L 3 d.cons.length true)))).contains (L+1)=false:=(by rw[hA];simp);have c1:=(a d.cons).norm;have c2:=(a (d.cons.map cd.p0)).norm;have c3:∀aH ts,bg aH ts ((SS []).set b none++[none,some (aI Dt.cells (c.set j d.strip))])=((SS []).set b none++[none,some (aI Dt.cells (c.set j d.strip))],aH,ts):=(I.app ((bn 1).app (aG.one aN))).norm;rw[R]at c3 G
  try dsimp only at l1 G
  clear a H hA R;generalize (SS []).set b none=P at*;generalize SS (c.set j d.p0)=S1 at*;generalize SS c=S at*;generalize (c.set j d.strip).flatMap Dt.cells=E2 at*;generalize aI cd.cells (d.cons.map cd.p0)=a8 at*;generalize aI cd.cells d.cons=TC at*;generalize kI c j d (.aP L 3 d.cons.length true)=D at*;generalize aI Dt.cells (c.set j d.p0)=T1 at*;generalize aI Dt.cells c=T at*;rw[g544L0e]at G⊢;rw[g544L1e]at l1;simp[zP,c1,c3]at l1 G k;simp at hm hk A m;have a2:L<L+1+1:=by omega
  simp (config:={maxSteps:=1000000}) (disch:=omega) [-getElem?_pos,g544B0,zP,q2,hj,g1,hB,K,a0,k,s1,g2,a6,B,O,a1,t,J,V,hm,l2,f4,f5,f7,f8,a2,m,a4,a3,Y,E,hD,ae,g544L1e,c1,l1,hk,A,hF,c2,c3];rw[zan A];simp(disch:=omega)[ae,c3];rw[g544L0e];simp[c3,G]
def q_{e:Ex}:e.Ok->e.strip.Ok:=by
 refine Ex.recC (p:=fun e=>e.Ok->e.strip.Ok) ?_ e;intro e f b;rw[Ex.eo];refine .mk (by simp;exact b.k) (by simp;exact b.a) ?_ b.t ?_
 .intro a d;rw[zat]at d;obtain⟨x,hx,rfl⟩:=d;exact b.v x hx
 .intro x hx;simp only[Ex.ch,zaz,zat,zbv]at hx;rcases hx with⟨y,hy,rfl⟩|⟨a,d,rfl⟩
  .have:y∈e.ch:=by rw[Ex.ch,zaz];exact .inl hy
   exact f y this (b.c y this)
  .have:a.body∈e.ch:=by rw[Ex.ch,zaz,zat];exact .inr ⟨a,d,rfl⟩
   exact f a.body this (b.c _ this)
def Bd.p0(b:Bd):Bd:=⟨0,b.rc,b.name,b.sg,b.sig,b.body⟩
def V3s(V3:AV)(z:List AV)(T:aF):Prop:=(∃b M,V3=.aP b 4 M true/\z=zP 0/\T=[0,0])\/(V3=.own [] 0/\z=zP 1/\T=[0,0,0])
def Qr{V3:AV}{z:List AV}{T:aF}(hV:V3s V3 z T){b2 N:Nat}(hN:N<=1000){SS:List Bd->Sh}(h1:∀c,(SS c)[b2]?=some (some (aI Bd.cells c)))(h2:∀c c',(SS c).set b2 (some (aI Bd.cells c'))=SS c')(h3:∀c,aG (SS c)):
   ∀(n i:Nat),N-i=n->i<=N->∀c:List Bd,c.length=N->(∀b∈c,b.body.Ok)->
   cl AP g544L2 ⟨[(2,.au 2 0),(3,V3),(4,.aP b2 20 N true),(53,.pv (vI N)),(54,.pv (vI i))],[(2,z)],SS c,T⟩=
     some (.exit 4,⟨[(2,.au 2 0),(3,V3),(4,.aP b2 20 N true),(53,.pv (vI N)),(54,.pv (vI N)),(55,.pv (.bool false))],[(2,z)],SS (c.take i++(c.drop i).map Bd.strip),T⟩)
 |0,i,hn,hi,c,u,t=>by
  have:i=N:=by omega
  subst this;have B:=(h3 c).norm;rw[jb (l:=c) (by omega),zaf (by omega),zaJ,zax];generalize SS c=S at*;rw[g544L2e];rcases hV with⟨b,M,rfl,rfl,rfl⟩|⟨rfl,rfl,rfl⟩<;>simp[g544B2,zP,B]
 |n+1,i,hn,hi,c,u,t=>by
  have hi:i<N:=(by omega);obtain⟨b,hx⟩:=aQ (l:=c) (i:=i) (by omega);have k:=c546 b.body (t b (aK hx))
  have s:=Qr hV hN h1 h2 h3 n (i+1) (by omega) (by omega) (c.set i b.strip) (by simpa using u) (by
   intro y hy;rcases zaH hy with h|h
   .exact t y h
   .subst h;exact q_ (t b (aK hx)))
  have j:(c.set i b.p0)[i]?=some b.p0:=(by rw[zbM (by omega)]);have e:=lQ dL hx (y:=b.p0) (o:=0) (p:=vI 0) (by omega) (by simp[Bd.cells,Bd.p0]);have d:=jE dL j (o:=9) (k:=11) (by omega)
  have ht:((((b.p0).cells.drop 9).take 11).map AV.pv)=b.body.cl:=by
   have:(b.p0).cells.drop 9=b.body.cells:=rfl;rw[this,zaf (by rw[bo.len];omega),Ex.hU]
  rw[ht]at d
  have a:=gU dL j (y:=b.strip) (o:=9) (vs:=b.body.strip.cells) (by rw[bo.len];omega) (by
   have h1:=bo.len b.body;have h2:=bo.len b.body.strip;rw[h2];have e1:(b.p0).cells.take 9=[vI 0,.bool b.rc,.str b.name,.bool b.sg,vI b.sig.kind,.str b.sig.name,vI b.sig.id,vI b.sig.home,.aq (b.sig.args.map Ty.pv)]:=rfl;have e2:(b.p0).cells.drop (9+11)=[]:=zaM (by rw[dL.len];omega);rw[e1,e2,zax];rfl)
  rw[Ex.hU,List.set_set]at a
  have f:c.take i++(c.drop i).map Bd.strip=(c.set i b.strip).take (i+1)++((c.set i b.strip).drop (i+1)).map Bd.strip:=by
   have h1:(c.set i b.strip).take (i+1)=c.take i++[b.strip]:=by
    rw[zaw,zan (by omega),zaV,zaf (by simp;omega)];have:i+1-(c.take i).length=1:=by simp;omega
    rw[this];rfl
   rw[h1,za7 (by omega),aR hx];simp
  rw[f];generalize (c.set i b.strip).take (i+1)++((c.set i b.strip).drop (i+1)).map Bd.strip=R at s⊢;have A:=h1 c;have x:=h2 c (c.set i b.p0);have w:=h1 (c.set i b.p0);have v:=h2 (c.set i b.p0) (c.set i b.strip);have B:=(h3 c).norm;have m:=(h3 (c.set i b.strip)).norm;have E:bW (aI Bd.cells c)=false:=bw aN;have D:bW (aI Bd.cells (c.set i b.p0))=false:=bw aN;have q:(aI Bd.cells c).length=N*20:=by rw[a_ dL,u]
  have g:(aI Bd.cells (c.set i b.p0)).length=N*20:=(by rw[a_ dL,zaN,u]);have C:i*20+1<=N*20:=(by omega);have r:i*20+9+11<=N*20:=(by omega);clear h1 h2 h3 f;generalize SS (c.set i b.strip)=J at*;generalize SS (c.set i b.p0)=K at*;generalize SS c=S at*;generalize SS R=I at*;generalize aI Bd.cells (c.set i b.strip)=F at*;generalize aI Bd.cells (c.set i b.p0)=G at*;generalize aI Bd.cells c=H at*;generalize b.body.strip=y at*;rw[g544L2e]at s⊢;simp at k e;simp[Ex.cl]at d a
  rcases hV with⟨b,M,rfl,rfl,rfl⟩|⟨rfl,rfl,rfl⟩<;>simp[zP,m]at s⊢ <;>
    simp (disch:=omega) [-getElem?_pos,g544B2,B,hi,A,x,w,v,E,D,q,g,C,r,e,d,a,k,ae]<;>
    rw[g544L2e]<;>simp[m,s]
structure Xd(ds:List Dt)(bs:List Bd)(V3:AV)(b2:Nat)(S:Sh)(T:aF):Prop where
 q:aG S
 g:S[b2]?=some (some (aI Bd.cells (bs.map Bd.strip)))
 v:(ds=[]/\V3=.own [] 0/\T=[0])\/(ds≠[]/\∃b',V3=.aP b' 4 ds.length true/\b'≠b2/\T=[]/\S[b']?=some (some (aI Dt.cells (ds.map Dt.strip))))
def c544i{ds:List Dt}{bs:List Bd}(hd:∀d∈ds,d.cons≠[]/\d.cons.length<=1000)(o:ds.length<=1000)(w:bs≠[])(j:bs.length<=1000)(u:∀b∈bs,b.body.Ok):
   ∃V3 b2 S T,(az AP).i 544 [.pv (.agg [.aq (ds.map Dt.pv),.aq (bs.map Bd.pv)])] [] []=some ([.agg [V3,.aP b2 20 bs.length true]],S,T)/\Xd ds bs V3 b2 S T:=by
 have k:bs.length*256<=140737488355328:=by omega
 have p:ds.length*72<=140737488355328:=by omega
 have n:=HJ (l:=bs);have m2:=Xa (l:=ds);have m:=sq (l:=bs.map Bd.strip);have q:=Qm (l:=ds.map Dt.strip);have t:(aI Bd.cells (bs.map Bd.strip)).length=bs.length*20:=by rw[a_ dL,zak]
 have n2:(aI Dt.cells (ds.map Dt.strip)).length=ds.length*4:=by rw[a_ kC,zak]
 rw[zak]at m q;by_cases h0:ds=[]
 .subst h0;refine⟨.own [] 0,0,[some (aI Bd.cells (bs.map Bd.strip))],[0],?_,aG.one aN,rfl,.inl ⟨rfl,rfl,rfl⟩⟩;have l2:=Qr (V3:=.own [] 0) (z:=zP 1) (T:=[0,0,0]) (.inr ⟨rfl,rfl,rfl⟩) (b2:=0) (N:=bs.length) j (SS:=fun c=>[some (aI Bd.cells c)]) (fun _=>rfl) (fun _ _=>rfl) (fun _=>aG.one aN) _ 0 rfl (by omega) bs rfl u;rw[za3,zaj,zaE]at l2;have x:∀aH ts,bg aH ts [some (aI Bd.cells (bs.map Bd.strip))]=([some (aI Bd.cells (bs.map Bd.strip))],aH,ts):=(aG.one aN).norm;have g:∀aH ts,bg aH ts [some (aI Bd.cells bs)]=([some (aI Bd.cells bs)],aH,ts):=(aG.one aN).norm
  try dsimp only at l2
  rw[aM g544];generalize bs.map Bd.strip=B at*;generalize aI Bd.cells B=r at*;generalize aI Bd.cells bs=TB at*;rw[g544L2e]at l2;simp[zP,g]at l2;simp at m n;simp(config:={maxSteps:=1000000}) (disch:=omega) [-getElem?_pos,g544,w,k,n,g,x,g544L0e,g544B0,g544L2e,l2,m,t]
 .have H:SH (fun c=>[some (aI Dt.cells c),some (aI Bd.cells bs)]) 0 1 2 (aI Bd.cells bs):=⟨fun _=>rfl,fun _ _=>rfl,fun _=>(aG.one aN).app (aG.one aN),fun _=>rfl,fun _ _=>rfl,fun _=>rfl,by omega⟩;obtain⟨S',b',r1,r2,r3,r4,l1⟩:=UZ (M:=ds.length) (b2:=1) (n2:=bs.length) o (TB:=aI Bd.cells bs) _ 0 rfl (by omega) ds _ 0 2 rfl hd H;rw[za3,zaj,zaE]at r2;have f:1<S'.length:=(zaa.1 r3).1
  have hS:S'.set 1 (some (aI Bd.cells bs))=S':=by
   apply zcb
   intro i;rw[zaA];split
   .rename_i e;subst e;first|rw[zan f,r3]|rw[r3]
   .rfl
  have a:∀c:List Bd,aG (S'.set 1 (some (aI Bd.cells c))):=fun c cs hc v hv=>by
   rcases zaH hc with h|h
   .exact r1 cs h v hv
   .cases h;exact aN v hv
  have l2:=Qr (V3:=.aP b' 4 ds.length true) (z:=zP 0) (T:=[0,0]) (.inl ⟨_,_,rfl,rfl,rfl⟩) (b2:=1) (N:=bs.length) j (SS:=fun c=>S'.set 1 (some (aI Bd.cells c))) (fun _=>zbM f) (fun _ _=>List.set_set ..) a _ 0 rfl (by omega) bs rfl u;rw[za3,zaj,zaE]at l2
  try dsimp only at l1 l2
  rw[hS]at l2;have g1:(S'.set 1 (some (aI Bd.cells (bs.map Bd.strip))))[b']?=some (some (aI Dt.cells (ds.map Dt.strip))):=by rw[zaA,zai (zb4 r4)];exact r2
  have g2:(S'.set 1 (some (aI Bd.cells (bs.map Bd.strip))))[1]?=some (some (aI Bd.cells (bs.map Bd.strip))):=zbM f;have s:∀aH ts,bg aH ts [some (aI Dt.cells ds),some (aI Bd.cells bs)]=([some (aI Dt.cells ds),some (aI Bd.cells bs)],aH,ts):=((aG.one aN).app (aG.one aN)).norm;have g:=r1.norm;have y:=(a (bs.map Bd.strip)).norm;refine⟨.aP b' 4 ds.length true,1,S'.set 1 (some (aI Bd.cells (bs.map Bd.strip))),[],?_,a _,g2,.inr ⟨h0,b',rfl,r4,rfl,g1⟩⟩;clear r1 r2 r3 a hS H;rw[aM g544];generalize S'.set 1 (some (aI Bd.cells (bs.map Bd.strip)))=E at*;generalize bs.map Bd.strip=B at*;generalize ds.map Dt.strip=D at*;generalize aI Bd.cells B=r at*;generalize aI Bd.cells bs=TB at*;generalize aI Dt.cells D=A at*;generalize aI Dt.cells ds=C at*;rw[g544L0e]at l1;rw[g544L2e]at l2;simp[zP,s,g]at l1 l2;simp at m q n m2;simp(config:={maxSteps:=1000000}) (disch:=omega) [-getElem?_pos,g544,w,h0,k,p,n,m2,s,g,g544L0e,y,l1,g544L2e,l2,g1,g2,m,q,t,n2]
def Xe(d:Dt)(N B:Nat):List AV:=[.pv (vI 0),.pv (.str d.name),.pv (.aq (d.params.map .str)),.aP B 3 N true]
def U0{d:Dt}{P1 P2:PV}{acc:List PV}{B N i:Nat}(hN:N<=1000){SC:List cd->Sh}(h1:∀c,(SC c)[B]?=some (some (aI cd.cells c)))(h2:∀c c',(SC c).set B (some (aI cd.cells c'))=SC c')(h3:∀c,aG (SC c)):
   ∀(n k:Nat),N-k=n->k<=N->∀cs:List cd,cs.length=N->
   cl AP g551L1 ⟨[(1,.au 1 0),(2,.au 2 0),(3,.au 3 0),(4,.pv (vI i)),(5,.au 5 0),(6,.pv (vI k))],[(1,[.pv P1,.pv P2]),(2,zP 0),(3,[.own acc 2,.own [] 3]),(5,Xe d N B)],SC cs,[0,0,acc.length,0]⟩=
     some (.exit 2,⟨[(1,.au 1 0),(2,.au 2 0),(3,.au 3 0),(4,.pv (vI i)),(5,.au 5 0),(6,.pv (vI N)),(30,.pv (.bool false))],[(1,[.pv P1,.pv P2]),(2,zP 0),(3,[.own acc 2,.own [] 3]),(5,Xe d N B)],SC (cs.take k++(cs.drop k).map cd.p0),[0,0,acc.length,0]⟩)
 |0,k,hn,r,cs,s=>by
  have:k=N:=by omega
  subst this;have m:=(h3 cs).norm;rw[jb (l:=cs) (by omega),zaf (by omega),zaJ,zax];generalize SC cs=S at*;rw[g551L1e];simp[g551B1,zP,m,Xe]
 |n+1,k,hn,r,cs,s=>by
  have r:k<N:=(by omega);obtain⟨x,hx⟩:=aQ (l:=cs) (i:=k) (by omega);have g:=U0 (d:=d) (P1:=P1) (P2:=P2) (acc:=acc) (i:=i) hN h1 h2 h3 n (k+1) (by omega) (by omega) (cs.set k x.p0) (by simpa using s);have a:=lQ kZ hx (y:=x.p0) (o:=0) (p:=vI 0) (by omega) (by simp[cd.cells,cd.p0])
  have b:cs.take k++(cs.drop k).map cd.p0=(cs.set k x.p0).take (k+1)++((cs.set k x.p0).drop (k+1)).map cd.p0:=by
   have h1:(cs.set k x.p0).take (k+1)=cs.take k++[x.p0]:=by
    rw[zaw,zan (by omega),zaV,zaf (by simp;omega)];have:k+1-(cs.take k).length=1:=by simp;omega
    rw[this];rfl
   rw[h1,za7 (by omega),aR hx];simp
  rw[b];generalize (cs.set k x.p0).take (k+1)++((cs.set k x.p0).drop (k+1)).map cd.p0=R at g⊢;have j:=h1 cs;have h:=h2 cs (cs.set k x.p0);have m:=(h3 cs).norm;have e:=(h3 (cs.set k x.p0)).norm;have t:bW (aI cd.cells cs)=false:=bw aN;have f:(aI cd.cells cs).length=N*3:=by rw[a_ kZ,s]
  have q:k*3+1<=N*3:=(by omega);clear h1 h2 h3 b;generalize SC (cs.set k x.p0)=w at*;generalize SC cs=S at*;generalize SC R=v at*;generalize aI cd.cells (cs.set k x.p0)=u at*;generalize aI cd.cells cs=T at*;rw[g551L1e]at g⊢;simp[zP,e,Xe]at g a;simp(disch:=omega)[-getElem?_pos,g551B1,zP,m,r,j,t,f,q,a,h,ae,Xe];rw[g551L1e];simp[e,g]
theorem U1{ds:List Dt}{P2:PV}(hd:∀d∈ds,d.cons≠[]/\d.cons.length<=1000)(hl:ds.length<=1000):∀(n i:Nat),ds.length-i=n->i<=ds.length->
   cl AP g551L0 ⟨[(1,.au 1 0),(2,.au 2 0),(3,.au 3 0),(4,.pv (vI i))],[(1,[.pv (.aq (ds.map Dt.pv)),.pv P2]),(2,zP 0),(3,[.own (((ds.take i).map Dt.strip).map Dt.pv) 2,.own [] 3])],nn i,[0,0,i,0]⟩=
     some (.exit 0,⟨[(1,.au 1 0),(2,.au 2 0),(3,.au 3 0),(4,.pv (vI ds.length)),(13,.pv (.bool false))],[(1,[.pv (.aq (ds.map Dt.pv)),.pv P2]),(2,zP 0),(3,[.own ((ds.map Dt.strip).map Dt.pv) 2,.own [] 3])],nn ds.length,[0,0,ds.length,0]⟩)
 |0,i,hn,hi=>by
  have:i=ds.length:=by omega
  subst this;have g:=(bn ds.length).norm;rw[zbo,g551L0e];simp[g551B0,zP,g]
 |n+1,i,hn,hi=>by
  have hi:i<ds.length:=(by omega);obtain⟨d,hx⟩:=aQ hi;obtain⟨k,j⟩:=hd d (aK hx);have a:=U1 (P2:=P2) hd hl n (i+1) (by omega) (by omega);have p:(ds.take i).length=i:=by rw[zbk];omega
  have e:((ds.take (i+1)).map Dt.strip).map Dt.pv=((ds.take i).map Dt.strip).map Dt.pv++[d.strip.pv]:=by
   rw[zaU,hx];simp
  have l1:=U0 (d:=d) (P1:=.aq (ds.map Dt.pv)) (P2:=P2) (acc:=((ds.take i).map Dt.strip).map Dt.pv) (B:=i) (i:=i) j (SC:=fun c=>nn i++[some (aI cd.cells c)]) (fun c=>by simp) (fun c c'=>by simp) (fun c=>(bn i).app (aG.one aN)) _ 0 rfl (by omega) d.cons rfl;rw[zaj,za3,zaE]at l1
  try dsimp only at l1
  have hm:=I9 (l:=d.cons);have g:=(bn i).norm;have b:=((bn i).app (aG.one (aN (f:=cd.cells) (l:=d.cons)))).norm;have o:=I8 (l:=d.cons.map cd.p0);have b1:(aI cd.cells (d.cons.map cd.p0)).length=d.cons.length*3:=(by rw[a_ kZ,zak]);rw[zak]at o;have r:d.cons.length*48<=140737488355328:=(by omega);have m:(i+1)*72<=140737488355328:=(by omega);have h:(nn i).length=i:=(by simp);have s1:(nn i++[some (aI cd.cells (d.cons.map cd.p0))]).set i none=nn (i+1):=(by simp[nn,List.replicate_succ']);have g1:(nn i++[some (aI cd.cells (d.cons.map cd.p0))])[i]?=some (some (aI cd.cells (d.cons.map cd.p0))):=(by simp);have q:=Ub.head ((ds.take i).map Dt.strip);have v7:(((ds.take i).map Dt.strip).map Dt.pv).length=i:=(by simp;omega);rw[e]at a;rw[v7]at l1;have t7:d.strip.pv=.agg [vI 0,.str d.name,.aq (d.params.map .str),.aq ((d.cons.map cd.p0).map cd.pv)]:=rfl;rw[t7]at a;have hK:=(bn (i+1)).norm;generalize ((ds.take i).map Dt.strip).map Dt.pv=acc at*;generalize nn (i+1)=u at*;generalize nn i++[some (aI cd.cells (d.cons.map cd.p0))]=v at*;generalize s:nn i=w at*;generalize aI cd.cells (d.cons.map cd.p0)=t at*;rw[g551L1e]at l1;rw[g551L0e]at a⊢;simp[zP,b,Xe,v7]at l1;simp[zP,hK,v7]at a;simp at o;have hf:∀S:Sh,gr S (.au 5 0)=none:=fun _=>rfl
  simp (disch:=omega) [-getElem?_pos,hf,g551B0,zP,hx,hi,g,k,r,hm,b,h,g551L1e,l1,g1,s1,o,b1,v7,q,m,ae,Xe,hK];rw[g551L0e];simp[v7,hK,a]
def U2{bs:List Bd}{P1:PV}{D:List PV}{X:Sh}(f:aG X)(g:∀b∈bs,b.body.Ok)(hl:bs.length<=1000):∀(n i:Nat),bs.length-i=n->i<=bs.length->
   cl AP g551L2 ⟨[(1,.au 1 0),(2,.au 2 0),(3,.au 3 0),(7,.pv (vI i))],[(1,[.pv P1,.pv (.aq (bs.map Bd.pv))]),(2,zP 0),(3,[.own D 2,.own (((bs.take i).map Bd.strip).map Bd.pv) 3])],X,[0,0,D.length,i]⟩=
     some (.exit 4,⟨[(1,.au 1 0),(2,.au 2 0),(3,.au 3 0),(7,.pv (vI bs.length)),(48,.pv (.bool false))],[(1,[.pv P1,.pv (.aq (bs.map Bd.pv))]),(2,zP 0),(3,[.own D 2,.own ((bs.map Bd.strip).map Bd.pv) 3])],X,[0,0,D.length,bs.length]⟩)
 |0,i,hn,hi=>by
  have:i=bs.length:=by omega
  subst this;have c:=f.norm;rw[zbo,g551L2e];simp[g551B2,zP,c]
 |n+1,i,hn,hi=>by
  have hi:i<bs.length:=(by omega);obtain⟨b,hx⟩:=aQ hi;have a:=U2 (P1:=P1) (D:=D) f g hl n (i+1) (by omega) (by omega);have k:=c558 b.body (g b (aK hx))
  have d:((bs.take (i+1)).map Bd.strip).map Bd.pv=((bs.take i).map Bd.strip).map Bd.pv++[b.strip.pv]:=by
   rw[zaU,hx];simp
  have e:(i+1)*256<=140737488355328:=(by omega);have h:=UW.head ((bs.take i).map Bd.strip);have v7:(((bs.take i).map Bd.strip).map Bd.pv).length=i:=(by simp;omega);rw[d]at a;have t7:b.strip=⟨0,b.rc,b.name,b.sg,b.sig,b.body.strip⟩:=rfl;rw[t7]at a;have c:=f.norm;generalize ((bs.take i).map Bd.strip).map Bd.pv=acc at*;generalize b.body.strip=y at*;rw[g551L2e]at a⊢;simp[zP,c,v7,Bd.kS]at a;simp at k;simp(disch:=omega)[-getElem?_pos,g551B2,zP,hx,hi,c,k,v7,h,e,ae,Bd.kS];rw[g551L2e];simp[v7,c,a]
def c551{ds:List Dt}{bs:List Bd}(hd:∀d∈ds,d.cons≠[]/\d.cons.length<=1000)(hl:ds.length<=1000)(g:∀b∈bs,b.body.Ok)(a:bs.length<=1000):
   (az AP).p 551 [.agg [.aq (ds.map Dt.pv),.aq (bs.map Bd.pv)]]=some [.agg [.aq ((ds.map Dt.strip).map Dt.pv),.aq ((bs.map Bd.strip).map Bd.pv)]]:=by
 have l1:=U1 (P2:=.aq (bs.map Bd.pv)) hd hl _ 0 rfl (by omega);have l2:=U2 (P1:=.aq (ds.map Dt.pv)) (D:=(ds.map Dt.strip).map Dt.pv) (bn ds.length) g a _ 0 rfl (by omega);have e:=(bn ds.length).norm;have c:((ds.map Dt.strip).map Dt.pv).length=ds.length:=by simp
 have f:((bs.map Bd.strip).map Bd.pv).length=bs.length:=by simp
 rw[c]at l2;rw[aw g551];generalize (ds.map Dt.strip).map Dt.pv=D at*;generalize (bs.map Bd.strip).map Bd.pv=B at*;generalize nn ds.length=X at*;rw[g551L0e]at l1;rw[g551L2e]at l2;simp[zP,e,c,f]at l1 l2;simp[g551,g551L0e,l1,g551L2e,l2,e,c,f]
def pX(p:List Int):PV:=.aq (p.map vI)
@[simp] theorem aaW(p:List Int):pX p=.aq (p.map vI):=rfl
def Tm:El pX 1 false:=⟨fun x=>by simp,fun x=>by simp⟩
@[simp] theorem U3{l:List (List Int)}:bl 1 (l.map pX)=true:=Tm.head l
def oL:Nat->List (List (List Int))->List (List Int)
 |_,[]=>[]
 |i,l::r=>l.map (fun p=>(i:Int)::p)++oL (i+1) r
def Ex.hl(e:Ex):List (List Int):=if e.kind=10 then[[]]else oL 0 (e.ch.attach.map fun x=>x.1.hl)
termination_by SizeOf.sizeOf e
decreasing_by exact Ex.kU x.2
def Ex.re(e:Ex):e.hl=if e.kind=10 then[[]]else oL 0 (e.ch.map Ex.hl):=by
 rw[Ex.hl,zbh,zbA]
theorem I_:∀{l:List (List (List Int))}{i:Nat},(oL i l).length=(l.map List.length).sum
 |[],_=>rfl
 |a::r,i=>by simp only[oL,zad,zak,zal,zbj,I_ (l:=r)]
def AS:∀{l:List (List (List Int))}{i:Nat}{p:List Int},p∈oL i l->∃(j:Nat)(c:List (List Int))(q:List Int),l[j]?=some c/\q∈c/\p=((i+j:Nat):Int)::q
 |a::r,i,p,h=>by
  simp only[oL,zaz,zat]at h;rcases h with⟨q,b,rfl⟩|h
  .exact⟨0,a,q,rfl,b,rfl⟩
  .obtain⟨j,c,q,h1,h2,h3⟩:=AS h;exact⟨j+1,c,q,by simpa using h1,h2,by rw[h3];congr 2;omega⟩
def wL(e:Ex):e.hl.length<=e.sz:=by
 refine Ex.recC (p:=fun e=>e.hl.length<=e.sz) ?_ e;intro e c;rw[Ex.re,Ex.jd];split
 .simp
 .rw[I_,zbv]
  have:∀l:List Ex,(∀x∈l,x.hl.length<=x.sz)->(l.map (List.length ∘ Ex.hl)).sum<=(l.map Ex.sz).sum:=by
   intro l;induction l with
   |nil=>intro _;simp
   |cons a r b=>
    intro h;have h1:=h a (by simp);have h2:=b fun x hx=>h x (by simp[hx])
    simp only[zal,zbj,Function.comp_apply];omega
  have:=this e.ch c;omega
def AT(e:Ex):∀p∈e.hl,p.length<e.sz/\∃x,e.at p=some x/\x.kind=10:=by
 refine Ex.recC (p:=fun e=>∀p∈e.hl,p.length<e.sz/\∃x,e.at p=some x/\x.kind=10) ?_ e;intro e f p hp;rw[Ex.re]at hp;split at hp
 .rename_i d;simp at hp;subst hp;exact⟨e.ko,e,rfl,d⟩
 .obtain⟨j,c,q,h1,h2,rfl⟩:=AS hp;simp only[zaK,zac]at h1;obtain⟨y,hy,rfl⟩:=h1;obtain⟨a,x,b,d⟩:=f y (aK hy) q h2;have hs:=Ex.lA (aK hy);have hj:=(zaa.1 hy).1;refine⟨by simp only[zae];omega,x,?_,d⟩;rw[Ex.at,zan (by omega)];have e1:((0+j:Nat):Int).toNat=j:=by omega
  rw[e1,hy];exact b
def U4{ch:List Ex}{I:Nat}{a:List (List Int)}(i:a.length<=1000000000)(hp:∀p∈a,p.length<=1000000000):∀(n k:Nat),a.length-k=n->k<=a.length->∀acc:List (List Int),acc.length+n<=2000000000->
   cl AP g543L1 ⟨[(3,.own (acc.map pX) 0),(4,.pv (vI I)),(14,.pv (.aq (ch.map Ex.pv))),(15,.pv (vI ch.length)),(16,.pv (vI I)),(22,.pv (.aq (a.map pX))),(23,.pv (vI a.length)),(24,.pv (vI k))],[],[],[acc.length]⟩=
     some (.exit 2,⟨[(3,.own ((acc++(a.drop k).map fun p=>(I:Int)::p).map pX) 0),(4,.pv (vI I)),(14,.pv (.aq (ch.map Ex.pv))),(15,.pv (vI ch.length)),(16,.pv (vI I)),(22,.pv (.aq (a.map pX))),(23,.pv (vI a.length)),(24,.pv (vI a.length)),(25,.pv (.bool false))],[],[],[(acc++(a.drop k).map fun p=>(I:Int)::p).length]⟩)
 |0,k,hn,c,acc,h=>by
  have:k=a.length:=by omega
  subst this;rw[zaO,zaJ,zax,g543L1e];simp[g543B1]
 |n+1,k,hn,c,acc,h=>by
  have c:k<a.length:=(by omega);obtain⟨p,hx⟩:=aQ c;have g:=hp p (aK hx);have b:=U4 (ch:=ch) (I:=I) i hp n (k+1) (by omega) (by omega) (acc++[(I:Int)::p]) (by simp;omega);have e:(1+p.length)*8<=140737488355328:=(by omega);have d:(acc.length+1)*24<=140737488355328:=(by omega);have f:=lq.head p;rw[aR hx,zal];rw[g543L1e]at b⊢;simp at b f;by_cases hz:p=[]
  .subst hz;simp at b;simp(disch:=omega)[-getElem?_pos,g543B1,hx,c,e,d,ae];rw[g543L1e];simp[b]
  .simp(disch:=omega)[-getElem?_pos,g543B1,hx,c,e,d,f,hz,ae];rw[g543L1e];simp[b]
def aab{ch:List Ex}{e:Ex}(a:ch=e.ch)(hN:ch.length<=1000000)(g:∀x∈ch,x.hl.length<=1000000000/\∀p∈x.hl,p.length<=1000000000)(f:∀x∈ch,(az AP).p 543 [x.pv]=some [.aq (x.hl.map pX)]):
   ∀(n i:Nat),ch.length-i=n->i<=ch.length->∀acc:List (List Int),acc.length+(oL i ((ch.drop i).map Ex.hl)).length<=1000000000->
   cl AP g543L0 ⟨[(3,.own (acc.map pX) 0),(14,.pv (.aq (ch.map Ex.pv))),(15,.pv (vI ch.length)),(16,.pv (vI i))],[],[],[acc.length]⟩=
     some (.exit 0,⟨[(3,.own ((acc++oL i ((ch.drop i).map Ex.hl)).map pX) 0),(14,.pv (.aq (ch.map Ex.pv))),(15,.pv (vI ch.length)),(16,.pv (vI ch.length)),(17,.pv (.bool false))],[],[],[(acc++oL i ((ch.drop i).map Ex.hl)).length]⟩)
 |0,i,hn,hi,acc,d=>by
  have:i=ch.length:=by omega
  subst this;rw[zaO];simp only[zaJ,oL,zax];rw[g543L0e];simp[g543B0]
 |n+1,i,hn,hi,acc,d=>by
  have hi:i<ch.length:=(by omega);obtain⟨x,hx⟩:=aQ hi;have k:=f x (aK hx);obtain⟨c,b⟩:=g x (aK hx);rw[aR hx,zal]at d⊢;simp only[oL,zad,zak]at d⊢;have e1:=U4 (ch:=ch) (I:=i) c b _ 0 rfl (by omega) acc (by omega);rw[zaj]at e1;have e2:=aab a hN g f n (i+1) (by omega) (by omega) (acc++x.hl.map fun p=>(i:Int)::p) (by simp only[zad,zak];omega);generalize oL (i+1) ((ch.drop (i+1)).map Ex.hl)=R at*;generalize h:x.hl=H at*;rw[g543L1e]at e1;rw[g543L0e]at e2⊢;simp at k e1 e2;simp(disch:=omega)[-getElem?_pos,g543B0,hx,hi,k,ae,g543L1e,e1];rw[g543L0e];simp[e2]
def bounds{e:Ex}(hs:e.sz<=100000000):∀x∈e.ch,x.hl.length<=1000000000/\∀p∈x.hl,p.length<=1000000000:=by
 intro x hx;have h1:=Ex.lA hx;have h2:=wL x;refine⟨by omega,fun p hp=>?_⟩;have:=(AT x p hp).1;omega
def c543(e:Ex):e.Ok->e.sz<=100000000->(az AP).p 543 [e.pv]=some [.aq (e.hl.map pX)]:=by
 refine Ex.recC (p:=fun e=>e.Ok->e.sz<=100000000->(az AP).p 543 [e.pv]=some [.aq (e.hl.map pX)]) ?_ e;intro e f b hs;have k:=c414 b;have hl:=wL e;have g:=bounds hs;have hN:e.ch.length<=1000000:=by rw[Ex.cM];have:=b.k;have:=b.a;omega
 rw[aw g543];rw[Ex.re]at hl⊢;by_cases d:e.kind=10
 .simp[g543,d]
 .rw[zai d]at hl⊢;have e1:=aab (e:=e) rfl hN g (fun x hx=>f x hx (b.c x hx) (by have:=Ex.lA hx;omega)) _ 0 rfl (by omega) [] (by simp only[zaj,zao];omega);rw[zaj,zaE]at e1;generalize oL 0 (e.ch.map Ex.hl)=H at*;rw[g543L0e]at e1;simp at k e1;simp[g543,d,k,g543L0e,e1]
def U5{ch:List Ex}{I:Nat}{a:List (List Int)}(i:a.length<=1000000000)(hp:∀p∈a,p.length<=1000000000):∀(n k:Nat),a.length-k=n->k<=a.length->∀acc:List (List Int),acc.length+n<=2000000000->
   cl AP g539L1 ⟨[(3,.own (acc.map pX) 0),(4,.pv (.aq (ch.map Ex.pv))),(5,.pv (vI I)),(6,.pv (.aq (a.map pX))),(7,.pv (vI k))],[],[],[acc.length]⟩=
     some (.exit 2,⟨[(3,.own ((acc++(a.drop k).map fun p=>(I:Int)::p).map pX) 0),(4,.pv (.aq (ch.map Ex.pv))),(5,.pv (vI I)),(6,.pv (.aq (a.map pX))),(7,.pv (vI a.length)),(28,.pv (.bool false))],[],[],[(acc++(a.drop k).map fun p=>(I:Int)::p).length]⟩)
 |0,k,hn,c,acc,h=>by
  have:k=a.length:=by omega
  subst this;rw[zaO,zaJ,zax,g539L1e];simp[g539B1]
 |n+1,k,hn,c,acc,h=>by
  have c:k<a.length:=(by omega);obtain⟨p,hx⟩:=aQ c;have g:=hp p (aK hx);have b:=U5 (ch:=ch) (I:=I) i hp n (k+1) (by omega) (by omega) (acc++[(I:Int)::p]) (by simp;omega);have e:(1+p.length)*8<=140737488355328:=(by omega);have d:(acc.length+1)*24<=140737488355328:=(by omega);have f:=lq.head p;rw[aR hx,zal];rw[g539L1e]at b⊢;simp at b f;by_cases hz:p=[]
  .subst hz;simp at b;simp(disch:=omega)[-getElem?_pos,g539B1,hx,c,e,d,ae];rw[g539L1e];simp[b]
  .simp(disch:=omega)[-getElem?_pos,g539B1,hx,c,e,d,f,hz,ae];rw[g539L1e];simp[b]
def aac{ch:List Ex}(hN:ch.length<=1000000)(e:∀x∈ch,x.hl.length<=1000000000/\∀p∈x.hl,p.length<=1000000000)(d:∀x∈ch,(az AP).p 539 [x.pv]=some [.aq (x.hl.map pX)]):
   ∀(n i:Nat),ch.length-i=n->i<=ch.length->∀acc:List (List Int),acc.length+(oL i ((ch.drop i).map Ex.hl)).length<=1000000000->
   cl AP g539L0 ⟨[(3,.own (acc.map pX) 0),(4,.pv (.aq (ch.map Ex.pv))),(5,.pv (vI i))],[],[],[acc.length]⟩=
     some (.exit 0,⟨[(3,.own ((acc++oL i ((ch.drop i).map Ex.hl)).map pX) 0),(4,.pv (.aq (ch.map Ex.pv))),(5,.pv (vI ch.length)),(17,.pv (.bool false))],[],[],[(acc++oL i ((ch.drop i).map Ex.hl)).length]⟩)
 |0,i,hn,hi,acc,c=>by
  have:i=ch.length:=by omega
  subst this;rw[zaO];simp only[zaJ,oL,zax];rw[g539L0e];simp[g539B0]
 |n+1,i,hn,hi,acc,c=>by
  have hi:i<ch.length:=(by omega);obtain⟨x,hx⟩:=aQ hi;have k:=d x (aK hx);obtain⟨b,a⟩:=e x (aK hx);rw[aR hx,zal]at c⊢;simp only[oL,zad,zak]at c⊢;have e1:=U5 (ch:=ch) (I:=i) b a _ 0 rfl (by omega) acc (by omega);rw[zaj]at e1;have e2:=aac hN e d n (i+1) (by omega) (by omega) (acc++x.hl.map fun p=>(i:Int)::p) (by simp only[zad,zak];omega);generalize oL (i+1) ((ch.drop (i+1)).map Ex.hl)=R at*;generalize f:x.hl=H at*;rw[g539L1e]at e1;rw[g539L0e]at e2⊢;simp at k e1 e2;simp(disch:=omega)[-getElem?_pos,g539B0,hx,hi,k,ae,g539L1e,e1];rw[g539L0e];simp[e2]
def c539(e:Ex):e.Ok->e.sz<=100000000->(az AP).p 539 [e.pv]=some [.aq (e.hl.map pX)]:=by
 refine Ex.recC (p:=fun e=>e.Ok->e.sz<=100000000->(az AP).p 539 [e.pv]=some [.aq (e.hl.map pX)]) ?_ e;intro e f b hs;have k:=c145 b;have hl:=wL e;have g:=bounds hs;have hN:e.ch.length<=1000000:=by rw[Ex.cM];have:=b.k;have:=b.a;omega
 rw[aw g539];rw[Ex.re]at hl⊢;by_cases d:e.kind=10
 .simp[g539,d]
 .rw[zai d]at hl⊢;have e1:=aac hN g (fun x hx=>f x hx (b.c x hx) (by have:=Ex.lA hx;omega)) _ 0 rfl (by omega) [] (by simp only[zaj,zao];omega);rw[zaj,zaE]at e1;generalize oL 0 (e.ch.map Ex.hl)=H at*;rw[g539L0e]at e1;simp at k e1;simp[g539,d,k,g539L0e,e1]
def iN(e:Ex):e.strip.ch=e.ch.map Ex.strip:=by
 rw[Ex.eo];simp only[Ex.ch,zbG,zbv,zcD]
def eE(e:Ex):e.strip.kind=e.kind:=by rw[Ex.eo]
def Qs(e:Ex):e.strip.hl=e.hl:=by
 refine Ex.recC (p:=fun e=>e.strip.hl=e.hl) ?_ e;intro e a;rw[Ex.re,Ex.re e,eE,iN,zbv];have:e.ch.map (Ex.hl ∘ Ex.strip)=e.ch.map Ex.hl:=zcy fun x hx=>a x hx
 rw[this]
def je(e:Ex):e.strip.sz=e.sz:=by
 refine Ex.recC (p:=fun e=>e.strip.sz=e.sz) ?_ e;intro e a;rw[Ex.jd,Ex.jd e,iN,zbv];have:e.ch.map (Ex.sz ∘ Ex.strip)=e.ch.map Ex.sz:=zcy fun x hx=>a x hx
 rw[this]
def ss:∀{l:List (List (List Int))}{s i:Nat}{c:List (List Int)},l[i]?=some c->oL s l=oL s (l.take i)++(c.map (fun p=>((s+i:Nat):Int)::p)++oL (s+i+1) (l.drop (i+1)))
 |[],_,_,_,h=>by simp at h
 |a::r,s,0,c,h=>by
  simp at h;subst h;simp[oL]
 |a::r,s,i+1,c,h=>by
  have b:=ss (l:=r) (s:=s+1) (i:=i) (c:=c) (by simpa using h);have e1:s+1+i=s+(i+1):=(by omega);rw[e1]at b;simp only[oL,zbl,zbf];rw[b,zaP]
def Qt:∀{l:List (List (List Int))}{s k:Nat}{p:List Int},(oL s l)[k]?=some p->∃(i:Nat)(c:List (List Int))(k':Nat)(q:List Int),l[i]?=some c/\c[k']?=some q/\p=((s+i:Nat):Int)::q/\k=(oL s (l.take i)).length+k'
 |[],_,_,_,h=>by simp[oL]at h
 |a::r,s,k,p,h=>by
  simp only[oL]at h;rw[zbn]at h;split at h
  .rename_i e;rw[zaK,zac]at h;obtain⟨q,d,rfl⟩:=h;exact⟨0,a,k,q,rfl,d,rfl,by simp[oL]⟩
  .rename_i b;simp only[zak]at b h;obtain⟨i,c,k',q,h1,h2,h3,h4⟩:=Qt h;refine⟨i+1,c,k',q,by simpa using h1,h2,?_,?_⟩
   .rw[h3];congr 2;omega
   .simp only[zbl,oL,zad,zak];omega
def Qu{α:Type}{A M B:List α}{k:Nat}(h:k<M.length):(A++(M++B)).take (A.length+k)=A++M.take k:=by
 rw[zaV,zaf (l:=A) (by omega),zb0,zbD (by omega)]
def Qv{α:Type}{A M B:List α}{k:Nat}(h:k<M.length):(A++(M++B)).drop (A.length+k+1)=M.drop (k+1)++B:=by
 rw[zcs,zaM (as:=A) (by omega),zaE,show A.length+k+1-A.length=k+1 by omega,zb3 (by omega)]
def Xf(x:Ex)(e:Ex):∀(k:Nat)(p:List Int),e.hl[k]?=some p->(Ex.cC x p e).2=true/\(Ex.cC x p e).1.hl=e.hl.take k++(x.hl.map (fun q=>p++q)++e.hl.drop (k+1)):=by
 refine Ex.recC (p:=fun e=>∀(k:Nat)(p:List Int),e.hl[k]?=some p->(Ex.cC x p e).2=true/\(Ex.cC x p e).1.hl=e.hl.take k++(x.hl.map (fun q=>p++q)++e.hl.drop (k+1))) ?_ e;intro e n k p h;have d:=Ex.re e;by_cases m:e.kind=10
 .rw[zan m]at d;rw[d]at h⊢;cases k with
  |zero=>
   simp at h;subst h;simp[Ex.cC]
  |succ k=>simp at h
 .rw[zai m]at d;rw[d]at h;obtain⟨i,c,k',q,h1,h2,h3,h4⟩:=Qt h;rw[zbi]at h3;subst h3;rw[zaK,zac]at h1;obtain⟨y,hy,rfl⟩:=h1;have hi:=(zaa.1 hy).1;obtain⟨g1,g2⟩:=n y (aK hy) k' q h2
  have r:Ex.cC x ((i:Int)::q) e=(e.lS (e.ch.set i (Ex.cC x q y).1),true):=by
   rw[Ex.cC,zan ⟨by omega,by omega⟩,zbx,hy];simp only;cases hp:Ex.cC x q y with
   |mk z b=>
    rw[hp]at g1;simp only at g1;subst g1;rfl
  rw[r];refine⟨rfl,?_⟩;have a:(e.ch.set i (Ex.cC x q y).1).length=e.kids.length+e.aB.length:=by rw[zaN,Ex.cM]
  have j:=sa a;have g:(e.lS (e.ch.set i (Ex.cC x q y).1)).kind=e.kind:=(by rw[Ex.lS,zan a]);rw[Ex.re (e.lS _),g,zai m,j,d];have s1:=ss (l:=e.ch.map Ex.hl) (s:=0) (i:=i) (c:=y.hl) (by rw[zaK,hy];rfl);have f:=ss (l:=(e.ch.set i (Ex.cC x q y).1).map Ex.hl) (s:=0) (i:=i) (c:=(Ex.cC x q y).1.hl) (by rw[zaK,zbM hi];rfl);rw[zbi]at s1 f;have t1:((e.ch.set i (Ex.cC x q y).1).map Ex.hl).take i=(e.ch.map Ex.hl).take i:=(by rw[zcz,List.take_set_of_le (zas i)]);have t2:((e.ch.set i (Ex.cC x q y).1).map Ex.hl).drop (i+1)=(e.ch.map Ex.hl).drop (i+1):=(by rw[zcz,za7 (by omega)]);rw[t1,t2,g2]at f;rw[f,s1,h4];have o:=(zaa.1 h2).1;generalize oL 0 ((e.ch.map Ex.hl).take i)=A at*;generalize oL (i+1) ((e.ch.map Ex.hl).drop (i+1))=B at*;rw[Qu (by rw[zak];omega),Qv (by rw[zak];omega)];simp only[zbG,zbv,zbr,zcu,zaP,zcD,zbb]
def b_{a b:List UInt8}(h:a.length+b.length<=9223372036854775807):bG (.bin .add) [.pv (.str a),.pv (.str b)]=some (.pv (.str (a++b))):=by rw[bu,zan h]
structure gq(AQ:Nat->Option aA):Prop where
 wM:AQ 248=some g248
 Xg:AQ 252=some g252
 aaX:AQ 255=some g255
 aaY:AQ 257=some g257
 aaZ:AQ 258=some g258
 aa0:AQ 259=some g259
 aa1:AQ 260=some g260
 aa2:AQ 264=some g264
 aa3:AQ 265=some g265
 aa4:AQ 269=some g269
def gQ(b:Bool)(s:bj):bj:=if b then 40::(s++[41])else s
def lY{b:Bool}{s:bj}:(gQ b s).length<=s.length+2:=by cases b<;>simp[gQ]
def skolem{α a:Type}[Inhabited a]{l:List α}{P:α->a->Prop}(h:∀x∈l,∃y,P x y):∃f:α->a,∀x∈l,P x (f x):=by
 classical
 refine⟨fun x=>if hx:x∈l then Classical.choose (h x hx)else default,fun x hx=>?_⟩;simp only[hx,dif_pos];exact Classical.choose_spec (h x hx)
section
variable {AQ:Nat->Option aA}
def c258(a:gq AQ){s:bj}{b:Bool}(h:s.length<=1000000000000000000):(az AQ).p 258 [.str s,.bool b]=some [.str (gQ b s)]:=by
 rw[bD (af:=g258) a.aaZ rfl (by decide)];cases b<;>simp(disch:=first|omega|(simp only[zad,zae,zao];omega)) [-bu,b_,g258,gQ]
def Ty.gR(t:Ty):Bool:=decide (t.kind=4) && (decide (t.name=[45,62]) && decide (t.args.length=2))
def c264(a:gq AQ){t:Ty}:(az AQ).p 264 [t.pv]=some [.bool t.gR]:=by
 rw[bD (af:=g264) a.aa2 rfl (by decide)];by_cases h1:t.kind=4
 .by_cases h2:t.name=[45,62]
  .have e:decide ((t.args.length:Int)=2)=decide (t.args.length=2):=(by simp;omega);simp[g264,Ty.gR,h1,h2,e];omega
  .simp[g264,Ty.gR,h1,h2]
 .simp[g264,Ty.gR,h1]
def c265(d:gq AQ){t:Ty}{s:bj}(h:(az AQ).p 252 [t.pv]=some [.str s])(hs:s.length<=1000000000000000000):
   (az AQ).p 265 [t.pv]=some [.str (gQ (decide (t.kind=4) && decide (t.args≠[])) s)]:=by
 have k:∀b,(az AQ).p 258 [.str s,.bool b]=some [.str (gQ b s)]:=fun b=>c258 d (b:=b) hs;rw[bD (af:=g265) d.aa3 rfl (by decide)];have c:=k true
 have a:=k false;clear k;simp[gQ]at c a;by_cases h1:t.kind=4
 .by_cases h2:t.args=[]
  .simp[h1,h2]at h;simp[g265,h,h1,h2,a,gQ]
  .have h3:0<t.args.length:=zaX.2 h2;simp[h1]at h;simp[g265,h,h1,h2,h3,c,gQ]
 .simp at h;simp[g265,h,h1,a,gQ]
def aad(g:gq AQ){args:List Ty}{f:Ty->bj}{M:Nat}(hA:args.length<=10000)(h:M<=10000000000)(hf:∀x∈args,(az AQ).p 265 [x.pv]=some [.str (f x)]/\(f x).length<=M):
   ∀(n i:Nat),args.length-i=n->i<=args.length->∀acc:bj,acc.length<=100+i*(M+1)->
   cl AQ g252L0 ⟨[(3,.pv (.str acc)),(52,.pv (.aq (args.map Ty.pv))),(53,.pv (vI args.length)),(54,.pv (vI i))],[],[],[]⟩=
     some (.exit 1,⟨[(3,.pv (.str (acc++(args.drop i).flatMap fun x=>32::f x))),(52,.pv (.aq (args.map Ty.pv))),(53,.pv (vI args.length)),(54,.pv (vI args.length)),(55,.pv (.bool false))],[],[],[]⟩)
 |0,i,hn,hi,acc,e=>by
  have:i=args.length:=by omega
  subst this;rw[g252L0e];simp[g252B0]
 |n+1,i,hn,hi,acc,e=>by
  have hi:i<args.length:=(by omega);obtain⟨x,hx⟩:=aQ hi;obtain⟨c,hl⟩:=hf x (aK hx);have b:(i+1)*(M+1)=i*(M+1)+(M+1):=zaI _ _ _ |>.trans (by omega);have d:i*(M+1)<=10000*(M+1):=zaZ _ (by omega);have a:=aad g hA h hf n (i+1) (by omega) (by omega) (acc++32::f x) (by simp;omega);rw[g252L0e]at a⊢;rw[aR hx];simp at c a;simp(disch:=first|omega|(simp only[zad,zae,zao];omega)) [-bu,b_,-getElem?_pos,g252B0,hi,hx,c,ae];rw[g252L0e];simp[a]
end
def aae{t:Ty}{f:Ty->bj}{M:Nat}(hA:t.args.length<=10000)(g:M<=10000000000)(hf:∀x∈t.args,(az AP).p 270 [x.pv]=some [.str (f x)]/\(f x).length<=M):
   ∀(n i:Nat),t.args.length-i=n->i<=t.args.length->∀acc:bj,acc.length<=100+i*(M+1)->
   cl AP g263L0 ⟨[(1,.au 1 0),(10,.pv (.str acc)),(11,.pv (vI i))],[(1,[.pv (vI t.kind),.pv (.str t.name),.pv (vI t.id),.pv (vI t.home),.pv (.aq (t.args.map Ty.pv))])],[],[]⟩=
     some (.exit 1,⟨[(1,.au 1 0),(10,.pv (.str (acc++(t.args.drop i).flatMap fun x=>32::f x))),(11,.pv (vI t.args.length)),(65,.pv (.bool false))],[(1,[.pv (vI t.kind),.pv (.str t.name),.pv (vI t.id),.pv (vI t.home),.pv (.aq (t.args.map Ty.pv))])],[],[]⟩)
 |0,i,hn,hi,acc,e=>by
  have:i=t.args.length:=by omega
  subst this;rw[g263L0e];simp[g263B0]
 |n+1,i,hn,hi,acc,e=>by
  have hi:i<t.args.length:=(by omega);obtain⟨x,hx⟩:=aQ hi;obtain⟨c,hl⟩:=hf x (aK hx);have b:(i+1)*(M+1)=i*(M+1)+(M+1):=zaI _ _ _ |>.trans (by omega);have d:i*(M+1)<=10000*(M+1):=zaZ _ (by omega);have a:=aae hA g hf n (i+1) (by omega) (by omega) (acc++32::f x) (by simp;omega);rw[g263L0e]at a⊢;rw[aR hx];simp at c a;simp(disch:=first|omega|(simp only[zad,zae,zao];omega)) [-bu,b_,-getElem?_pos,g263B0,hi,hx,c,ae];rw[g263L0e];simp[a]
def c270{t:Ty}{s:bj}(h:(az AP).p 263 [t.pv]=some [.str s])(hs:s.length<=1000000000000000000):
   (az AP).p 270 [t.pv]=some [.str (gQ (decide (t.kind=4) && decide (t.args≠[])) s)]:=by
 rw[aw g270];by_cases h1:t.kind=4
 .by_cases h2:t.args=[]
  .simp[h1,h2]at h;simp[g270,h,h1,h2,gQ]
  .have h3:0<t.args.length:=zaX.2 h2;simp[h1]at h;simp(disch:=first|omega|(simp only[zad,zae,zao];omega)) [-bu,b_,g270,h,h1,h2,h3,gQ]
 .simp at h;simp[g270,h,h1,gQ]
def c194s{t:Ty}:(az AP).p 194 [t.pv]=some (match t.gR,t.args with
 |true,[a,b]=>[a.pv,b.pv,.bool true]
 |_,_=>[bF.pv,bF.pv,.bool false]):=by
 rw[aw g194];by_cases h1:t.kind=4
 .by_cases h2:t.name=[45,62]
  .match e:t.args with
   |[a,b]=>simp[g194,Ty.gR,h1,h2,e]
   |[]=>simp[g194,Ty.gR,h1,h2,e,bF]
   |[a]=>simp[g194,Ty.gR,h1,h2,e,bF]
   |a::b::c::r=>
    have:¬((r.length:Int)+1+1+1=2):=by omega
    simp[g194,Ty.gR,h1,h2,e,bF,this]
  .simp[g194,Ty.gR,h1,h2,bF]
 .simp[g194,Ty.gR,h1,bF]
def Qw{l:List Ty}{g:Ty->bj}(h:∀x∈l,(g x).length<=105*x.nodes.length):(l.flatMap g).length<=105*(l.flatMap Ty.nodes).length:=by
 induction l with
 |nil=>simp
 |cons a r b=>
  have h1:=h a (by simp);have h2:=b fun x hx=>h x (by simp[hx])
  simp only[zav,zad];omega
def Ty.yL(t:Ty):1<=t.nodes.length:=by rw[Ty.aL];simp
def yM{t x:Ty}(h:x∈t.args):x.nodes.length<t.nodes.length:=by
 have:=kr (f:=fun x:Ty=>x.nodes.length) h;rw[t.aL];simp only[zae,zcg];omega
def HK{t:Ty}:t.args.length<t.nodes.length:=by
 have:∀l:List Ty,l.length<=(l.flatMap Ty.nodes).length:=by
  intro l;induction l with
  |nil=>simp
  |cons a r b=>
   have:=a.yL;simp only[zav,zad,zae];omega
 have:=this t.args;rw[t.aL];simp only[zae];omega
def AU{AQ:Nat->Option aA}(j:gq AQ)(t:Ty):t.Kn KT->t.nodes.length<=10000->∃s:bj,s.length+3<=105*t.nodes.length/\(az AQ).p 252 [t.pv]=some [.str s]/\(az AP).p 263 [t.pv]=some [.str s]:=by
 refine Ty.cD (p:=fun t=>t.Kn KT->t.nodes.length<=10000->∃s:bj,s.length+3<=105*t.nodes.length/\(az AQ).p 252 [t.pv]=some [.str s]/\(az AP).p 263 [t.pv]=some [.str s]) ?_ t;intro t r k hN;have hl:=k.nm;have hp:=t.yL;have H:=HK (t:=t);obtain⟨f,hf⟩:=skolem fun x hm=>r x hm (k.kd x hm) (by have:=yM hm;omega)
 have fin:∀x∈t.args,(f x).length+3<=1050000:=fun x hm=>by have h1:=(hf x hm).1;have h2:=yM hm;omega
 by_cases m:t.kind=5
 .refine⟨t.name,by omega,?_,?_⟩
  .rw[bD (af:=g252) j.Xg rfl (by decide)];simp[g252,m]
  .rw[aw g263];simp[g263,m]
 have h:t.kind=4\/t.kind=0/\t.args=[]:=by
  by_cases q:t.kind=4
  .exact .inl q
  .obtain⟨C,B⟩:=k.hd q;simp at C;exact .inr ⟨by omega,B⟩
 have g:=c264 j (t:=t);by_cases hr:t.gR=true
 .have h:t.kind=4:=by simp only[Ty.gR,zah,za5]at hr;exact hr.1
  obtain⟨a,b,i⟩:∃a b,t.args=[a,b]:=by
   simp only[Ty.gR,zah,za5]at hr
   match e:t.args,hr.2.2 with
   |[a,b],_=>exact⟨a,b,rfl⟩
  have fa:=fin a (by simp[i]);have I:=fin b (by simp[i]);have u:t.nodes.length=1+a.nodes.length+b.nodes.length:=(by rw[t.aL,i];simp;omega);obtain⟨G,w,n⟩:=hf a (by simp[i]);obtain⟨F,v,o⟩:=hf b (by simp[i]);have z:=c264 j (t:=a);have y:=c258 j (s:=f a) (b:=a.gR) (by omega);have D:=lY (b:=a.gR) (s:=f a);have r1:=c194s (t:=t);have r2:=c194s (t:=a);rw[hr]at g r1;rw[i]at r1;clear hf fin r;refine⟨gQ a.gR (f a)++[32,45,62,32]++f b,by simp;omega,?_,?_⟩
  .rw[bD (af:=g252) j.Xg rfl (by decide)];generalize gQ a.gR (f a)=E at*;simp[i,h]at g w v z y;simp(disch:=first|omega|(simp only[zad,zae,zao];omega)) [-bu,b_,g252,h,i,g,w,v,z,y]
  .rw[aw g263];simp[i,h]at r1 n o;cases q:a.gR with
   |false=>
    rw[q]at r2;simp[bF]at r2;simp(disch:=first|omega|(simp only[zad,zae,zao];omega)) [-bu,b_,g263,h,i,r1,r2,n,o,gQ]
   |true=>
    obtain⟨c,d,hc⟩:∃c d,a.args=[c,d]:=by
     simp only[Ty.gR,zah,za5]at q
     match e:a.args,q.2.2 with
     |[c,d],_=>exact⟨c,d,rfl⟩
    rw[q,hc]at r2;simp[hc,h]at r2 n r1;simp(disch:=first|omega|(simp only[zad,zae,zao];omega)) [-bu,b_,g263,h,i,hc,r1,r2,n,o,gQ]
 .have l:t.gR=false:=by simpa using hr
  have h1:=aad j (args:=t.args) (f:=fun x=>gQ (decide (x.kind=4) && decide (x.args≠[])) (f x)) (M:=1050000) (by omega) (by omega)
    (fun x hm=>⟨c265 j (hf x hm).2.1 (by have:=fin x hm;omega),by have:=fin x hm;have:=lY (b:=decide (x.kind=4) && decide (x.args≠[])) (s:=f x);omega⟩) _ 0 rfl (by omega) t.name (by omega)
  have h2:=aae (t:=t) (f:=fun x=>gQ (decide (x.kind=4) && decide (x.args≠[])) (f x)) (M:=1050000) (by omega) (by omega)
    (fun x hm=>⟨c270 (hf x hm).2.2 (by have:=fin x hm;omega),by have:=fin x hm;have:=lY (b:=decide (x.kind=4) && decide (x.args≠[])) (s:=f x);omega⟩) _ 0 rfl (by omega) t.name (by omega)
  have A:((t.args).flatMap fun x=>32::gQ (decide (x.kind=4) && decide (x.args≠[])) (f x)).length<=105*(t.args.flatMap Ty.nodes).length:=Qw fun x hm=>by
   have h1:=(hf x hm).1;have h2:=lY (b:=decide (x.kind=4) && decide (x.args≠[])) (s:=f x);simp only[zae];omega
  have u:t.nodes.length=1+(t.args.flatMap Ty.nodes).length:=(by rw[t.aL];simp;omega);rw[zaj]at h1 h2;clear hf fin r;refine⟨t.name++(t.args).flatMap fun x=>32::gQ (decide (x.kind=4) && decide (x.args≠[])) (f x),by rw[zad];omega,?_,?_⟩
  .rw[bD (af:=g252) j.Xg rfl (by decide)];generalize ((t.args).flatMap fun x=>32::gQ (decide (x.kind=4) && decide (x.args≠[])) (f x))=E at*;rw[l]at g;rw[g252L0e]at h1;rcases h with h|⟨h,hz⟩
   .simp[h]at g h1;simp[g252,h,g,g252L0e,h1]
   .simp[h,hz]at g h1;simp[g252,h,hz,g,g252L0e,h1]
  .rw[aw g263];have r1:=c194s (t:=t);rw[l]at r1;generalize ((t.args).flatMap fun x=>32::gQ (decide (x.kind=4) && decide (x.args≠[])) (f x))=E at*;rw[g263L0e]at h2;rcases h with h|⟨h,hz⟩
   .simp[bF,h]at r1 h2;simp[g263,h,r1,g263L0e,h2]
   .simp[bF,h,hz]at r1 h2;simp[g263,h,hz,r1,g263L0e,h2]
end Go.Ab.Lw
namespace Go.Ab.Lw
open Ev
def dec_lt{k:Nat}(h:k<10):Lib.decDigits k=[UInt8.ofNat (48+k)]:=by rw[Lib.decDigits,dif_pos h]
def Qx{k:Nat}(h:¬k<10):Lib.decDigits k=Lib.decDigits (k / 10)++[UInt8.ofNat (48+k % 10)]:=by rw[Lib.decDigits,dif_neg h]
def To{f:Nat}:∀{k:Nat},k<10 ^ (f+1)->(Lib.decDigits k).length<=f+1:=by
 induction f with
 |zero=>intro k h;rw[dec_lt (by simpa using h)];simp
 |succ f b=>
  intro k h;by_cases a:k<10
  .rw[dec_lt a];simp
  .rw[Qx a];have:=b (k:=k / 10) (by rw[zcj]at h;omega);simp only[zad,zae,zao];omega
def Xh(k:Nat)(acc:bj):bj:=if k=0 then acc else Lib.decDigits k++acc
def Qy{k:Nat}{acc:bj}(h:k≠0):Xh k acc=Xh (k / 10) (UInt8.ofNat (48+k % 10)::acc):=by
 unfold Xh;rw[zai h];by_cases a:k<10
 .rw[zan (by omega),dec_lt a,Nat.mod_eq_of_lt a];rfl
 .rw[zai (by omega),Qx a];simp
def aaf{a:Int}:∀(f k:Nat),k<10 ^ f->k<=9223372036854775807->∀acc:bj,acc.length+f<=1000->
   cl AP g256L0 ⟨[(0,.pv (vI a)),(3,.pv (.str acc)),(4,.pv (vI k))],[],[],[]⟩=some (.exit 0,⟨[(0,.pv (vI a)),(3,.pv (.str (Xh k acc))),(4,.pv (vI 0)),(10,.pv (.bool false))],[],[],[]⟩)
 |0,k,d,c,acc,h=>by
  have:k=0:=by simpa using d
  subst this;rw[g256L0e];simp[g256B0,Xh]
 |f+1,k,d,c,acc,h=>by
  by_cases h0:k=0
  .subst h0;rw[g256L0e];simp[g256B0,Xh]
  .have b:=aaf (a:=a) f (k / 10) (by rw[zcj]at d;omega) (by omega) (UInt8.ofNat (48+k % 10)::acc) (by simp;omega);rw[Qy h0];have e1:((k:Int).tmod 10)=((k % 10:Nat):Int):=rfl;have e2:((k:Int).tdiv 10)=((k / 10:Nat):Int):=rfl;have e:¬(k:Int)=0:=(by omega);have hr:k % 10<10:=zdc _ (by omega);have hw:IntKind.i64.wrap ((k / 10:Nat):Int)=((k / 10:Nat):Int):=ae (by omega) (by omega);generalize k / 10=q at*;generalize k % 10=r at*;have:r=0\/r=1\/r=2\/r=3\/r=4\/r=5\/r=6\/r=7\/r=8\/r=9:=(by omega);have g:1+acc.length<=9223372036854775807:=(by omega);rw[g256L0e]at b⊢
   rcases this with rfl|rfl|rfl|rfl|rfl|rfl|rfl|rfl|rfl|rfl<;>simp at b e1 <;>
     simp (disch:=omega) [g256B0,e1,e2,h0,e,hw,ae,cx,dw,g]<;>rw[g256L0e]<;>simp[b]
def c256n{n:Int}(h0:0<=n)(h1:n<=9223372036854775807):(az AP).p 256 [vI n]=some [.str (Lib.decDigits n.toNat)]:=by
 obtain⟨k,rfl⟩:=Int.eq_ofNat_of_zero_le h0;rw[aw g256,zbx];by_cases b:k=0
 .subst b;rw[dec_lt (by omega)];simp[g256]
 .have e:=aaf (a:=k) 20 k (by omega) (by omega) [] (by simp);have h2:¬(k:Int)<0:=(by omega);have h3:¬(k:Int)=0:=(by omega);rw[Xh,zai b,zax]at e;generalize Lib.decDigits k=D at*;rw[g256L0e]at e;simp at e;simp[g256,b,h3,h2,g256L0e,e]
section
variable {AQ:Nat->Option aA}
def c255n(b:AQ 255=some g255){n:Int}(h0:0<=n)(h1:n<=9223372036854775807):(az AQ).p 255 [vI n]=some [.str (Lib.decDigits n.toNat)]:=by
 rw[H8 b rfl];have a:-9223372036854775808<=n:=by omega
 have h3:¬n<0:=by omega
 simp[ug,Lib.itoa,h1,a,h3]
end
end Go.Ab.Lw
namespace Go.Ab.Lw
open Ev
def Ex.df(e:Ex):Bool:=decide (e.kind=1)|| (decide (e.kind=2)|| (decide (e.kind=3)|| (decide (e.kind=10)|| (decide (e.kind=9)|| decide (e.kind=11)))))
def c262{e:Ex}:(az AP).p 262 [e.pv]=some [.bool e.df]:=by
 rw[aw g262];by_cases h1:e.kind=1
 .simp[g262,Ex.df,h1]
 .by_cases h2:e.kind=2
  .simp[g262,Ex.df,h2]
  .by_cases h3:e.kind=3
   .simp[g262,Ex.df,h3]
   .by_cases h4:e.kind=10
    .simp[g262,Ex.df,h4]
    .by_cases h5:e.kind=9
     .simp[g262,Ex.df,h5]
     .by_cases h6:e.kind=11
      .simp[g262,Ex.df,h6]
      .simp[g262,Ex.df,h1,h2,h3,h4,h5,h6]
def c261{e:Ex}{s:bj}{b:Bool}(h:(az AP).p 249 [e.pv]=some [.str s])(hs:s.length<=1000000000000000000):(az AP).p 261 [e.pv,.bool b]=some [.str (gQ (!b) s)]:=by
 rw[aw g261];simp at h;cases b<;>simp(disch:=first|omega|(simp only[zad,zae,zao];omega)) [-bu,b_,g261,gQ,h]
def c256{n:Int}(h0:0<=n)(h4:n<1000000000):(az AP).p 256 [vI n]=some [.str (Lib.decDigits n.toNat)]:=c256n h0 (by omega)
section
variable {AQ:Nat->Option aA}
def c255(a:gq AQ){n:Int}(h0:0<=n)(h4:n<1000000000):(az AQ).p 255 [vI n]=some [.str (Lib.decDigits n.toNat)]:=c255n a.aaX h0 (by omega)
def c259(a:gq AQ){e:Ex}:(az AQ).p 259 [e.pv]=some [.bool e.df]:=by
 rw[bD (af:=g259) a.aa0 rfl (by decide)];by_cases h1:e.kind=1
 .simp[g259,Ex.df,h1]
 .by_cases h2:e.kind=2
  .simp[g259,Ex.df,h2]
  .by_cases h3:e.kind=3
   .simp[g259,Ex.df,h3]
   .by_cases h4:e.kind=10
    .simp[g259,Ex.df,h4]
    .by_cases h5:e.kind=9
     .simp[g259,Ex.df,h5]
     .by_cases h6:e.kind=11
      .simp[g259,Ex.df,h6]
      .simp[g259,Ex.df,h1,h2,h3,h4,h5,h6]
def c257(a:gq AQ){e:Ex}{i:Nat}{x:Ex}(hx:e.kids[i]?=some x){s:bj}(h:(az AQ).p 248 [x.pv]=some [.str s]):
   (az AQ).i 257 [.pv (vI i),.aV 0 0] [some e.cl] []=some ([.pv (.str s)],[some e.cl],[]):=by
 have hi:=(zaa.1 hx).1;rw[gV (af:=g257) a.aaY (by simp[g257])];simp at h;simp[-getElem?_pos,g257,hx,h,hi]
def c269(a:gq AQ){xs:List bj}{sep:bj}(h1:xs.length<=1000000000)(h2:(Lib.join xs sep).length<=140737488355328):(az AQ).p 269 [.aq (xs.map .str),.str sep]=some [.str (Lib.join xs sep)]:=by
 rw[H8 a.aa4 rfl];simp only[z9,G_];rw[zan ⟨h1,h2⟩]
def e_(f:Ar->bj)(a:Ar):bj:=Lib.join (a.cv::a.vars) [32]++[46,32]++f a
def pY(T:List bj):List AV:=T.map fun s=>.pv (.str s)
def Ja{T:List bj}:(pY T).length=T.length:=by simp[pY]
def Tq{T:List bj}{i:Nat}{s:bj}(hi:i<T.length):aS (pY T) i [.pv (.str s)]=pY (T.set i s):=by
 unfold pY;rw[zcz,zaw,zan (by simpa using hi)];simp[aS]
theorem Ts{T:List bj}:((eX (pY T)).bind (d9 1 false T.length)).map PV.aq=some (.aq (T.map .str)):=by
 have:eX (pY T)=some (T.map .str):=by
  induction T with
  |nil=>rfl
  |cons x r a=>simp only[pY,zal,eX,l6]at a⊢;rw[a]
 rw[this];simp[d9]
def wO{T:List bj}:∀v∈pY T,∃p,v=AV.pv p:=by
 intro v hv;simp only[pY,zat]at hv;obtain⟨s,_,rfl⟩:=hv;exact⟨_,rfl⟩
def aag(m:gq AQ){aB:List Ar}{f:Ar->bj}{M:Nat}(hA:aB.length<=100)(t:M<=1000000000000000)(hf:∀x∈aB,(az AQ).p 248 [x.body.pv]=some [.str (f x)]/\(f x).length<=M/\x.vars.length<=10/\(Lib.join (x.cv::x.vars) [32]).length<=10000):
   ∀(n i:Nat),aB.length-i=n->i<=aB.length->∀T:List bj,T.length=aB.length->
   cl AQ g260L0 ⟨[(3,.aP 0 1 aB.length false),(9,.pv (.aq (aB.map Ar.pv))),(10,.pv (vI aB.length)),(11,.pv (vI i))],[],[some (pY T)],[]⟩=
     some (.exit 0,⟨[(3,.aP 0 1 aB.length false),(9,.pv (.aq (aB.map Ar.pv))),(10,.pv (vI aB.length)),(11,.pv (vI aB.length)),(12,.pv (.bool false))],[],[some (pY (T.take i++(aB.drop i).map (e_ f)))],[]⟩)
 |0,i,hn,hi,T,hT=>by
  have:i=aB.length:=by omega
  subst this;rw[zaf (by omega),zaO];have g:∀aH ts,bg aH ts [some (pY T)]=([some (pY T)],aH,ts):=(aG.one wO).norm;simp only[zaJ,zax];generalize pY T=X at*;rw[g260L0e];simp[g260B0,g]
 |n+1,i,hn,hi,T,hT=>by
  have hi:i<aB.length:=(by omega);obtain⟨x,hx⟩:=aQ hi;obtain⟨l,v,lv,u⟩:=hf x (aK hx);have h:=c269 m (xs:=x.cv::x.vars) (sep:=[32]) (by simp;omega) (by omega);have d:=aag m hA t hf n (i+1) (by omega) (by omega) (T.set i (e_ f x)) (by simpa using hT)
  have e1:(T.set i (e_ f x)).take (i+1)++(aB.drop (i+1)).map (e_ f)=T.take i++(aB.drop i).map (e_ f):=by
   rw[zaw,zan (by omega),aR hx,zaV,zaf (by simp;omega)];have:i+1-(T.take i).length=1:=by simp;omega
   rw[this];simp
  rw[e1]at d;have a:=Tq (T:=T) (i:=i) (s:=e_ f x) (by omega);have g:∀aH ts,bg aH ts [some (pY T)]=([some (pY T)],aH,ts):=(aG.one wO).norm;have j:∀aH ts,bg aH ts [some (pY (T.set i (e_ f x)))]=([some (pY (T.set i (e_ f x)))],aH,ts):=(aG.one wO).norm;have o:bW (pY T)=false:=bw wO;have b:(pY T).length=aB.length:=by rw[Ja,hT]
  have r:(x.vars.length+1)*16<=140737488355328:=(by omega);have k:(1+x.vars.length)*16<=140737488355328:=(by omega);clear e1;generalize pY (T.set i (e_ f x))=q at*;generalize pY T=X at*;generalize pY (T.take i++(aB.drop i).map (e_ f))=w at*;unfold e_ at a;generalize Lib.join (x.cv::x.vars) [32]=J at*;rw[g260L0e]at d⊢;simp at l d h;simp at a;have e:i+1<=aB.length:=(by omega);have c:∀aH ts,br aH ts q=(q,aH,ts):=fun aH ts=>by have:=j aH ts;simp[bg]at this;exact Prod.ext this.1 (Prod.ext this.2.1 this.2.2)
  try simp only[c]at d
  by_cases hv:x.vars=[]
  .simp[hv]at h;simp(disch:=first|omega|(simp only[zad,zae,zao];omega)) [-bu,b_,-getElem?_pos,g260B0,g,hi,hx,l,h,hv,o,b,e,a,ae];rw[g260L0e];simp[c,d]
  .simp(disch:=first|omega|(simp only[zad,zae,zao];omega)) [-bu,b_,-getElem?_pos,g260B0,g,hi,hx,l,h,hv,r,k,o,b,e,a,ae];rw[g260L0e];simp[c,d]
def c260(e:gq AQ){aB:List Ar}{f:Ar->bj}{M:Nat}(hA:aB.length<=100)(j:M<=1000000000000000)(hf:∀x∈aB,(az AQ).p 248 [x.body.pv]=some [.str (f x)]/\(f x).length<=M/\x.vars.length<=10/\(Lib.join (x.cv::x.vars) [32]).length<=10000)
   (hj:(Lib.join (aB.map (e_ f)) [32,124,32]).length<=140737488355328):(az AQ).p 260 [.aq (aB.map Ar.pv)]=some [.str (Lib.join (aB.map (e_ f)) [32,124,32])]:=by
 have h:=aag e hA j hf _ 0 rfl (by omega) (List.replicate aB.length []) (by simp);have c:=c269 e (xs:=aB.map (e_ f)) (sep:=[32,124,32]) (by simp;omega) hj;have d:=Ts (T:=aB.map (e_ f));have b:=Ja (T:=aB.map (e_ f))
 have a:(List.replicate aB.length [AV.pv (PV.str [])]).flatten=pY (List.replicate aB.length []):=by
  simp[pY]
 have i:(aB.length:Int)*16<=140737488355328:=by omega
 have k:(aB.length:Int)<=9223372036854775807:=by omega
 rw[zaj,za3,zaE]at h;rw[zak]at d b;have g:∀aH ts,bg aH ts [some (pY (List.replicate aB.length []))]=([some (pY (List.replicate aB.length []))],aH,ts):=(aG.one wO).norm;generalize Lib.join (aB.map (e_ f)) [32,124,32]=J at*;generalize aB.map (e_ f)=Y at*;generalize pY Y=Z at*;generalize pY (List.replicate aB.length [])=X at*;rw[bD (af:=g260) e.aa1 rfl (by decide)];rw[g260L0e]at h;simp[g]at h;simp at d c a;simp[-getElem?_pos,g260,i,k,a,g260L0e,g,h,b,d,c]
end
end Go.Ab.Lw
namespace Go.Ab.Lw
open Ev
def U6{e:Ex}{i:Nat}{a:Ar}(hx:e.aB[i]?=some a)(b:e.aB.length<=100)(hv:a.vars.length<=10)(hl:∀v∈a.vars,v.length<=100):∀(n k:Nat),a.vars.length-k=n->k<=a.vars.length->∀acc:bj,acc.length<=100000000000000000+k*101->
   cl AP g249L1 ⟨[(1,.au 1 0),(5,.pv (.str acc)),(6,.pv (vI i)),(7,.pv (vI k))],[(1,e.cl)],[],[]⟩=
     some (.exit 3,⟨[(1,.au 1 0),(5,.pv (.str (acc++Lib.joinTail [32] (a.vars.drop k)))),(6,.pv (vI i)),(7,.pv (vI a.vars.length)),(154,.pv (.bool false))],[(1,e.cl)],[],[]⟩)
 |0,k,hn,c,acc,g=>by
  have:k=a.vars.length:=by omega
  subst this;have hi:=(zaa.1 hx).1;rw[g249L1e];simp[-getElem?_pos,g249B1,hx,hi,Lib.joinTail]
 |n+1,k,hn,c,acc,g=>by
  have hi:=(zaa.1 hx).1;have c:k<a.vars.length:=(by omega);obtain⟨v,hy⟩:=aQ c;have f:=hl v (aK hy);have d:=U6 hx b hv hl n (k+1) (by omega) (by omega) (acc++32::v) (by simp;omega);have h:Lib.joinTail [32] (a.vars.drop k)=32::v++Lib.joinTail [32] (a.vars.drop (k+1)):=(by rw[aR hy];simp[Lib.joinTail]);rw[h];generalize Lib.joinTail [32] (a.vars.drop (k+1))=J at*;rw[g249L1e]at d⊢;simp at d;simp(disch:=first|omega|(simp only[zad,zae,zao];omega)) [-bu,b_,-getElem?_pos,g249B1,hx,hi,c,hy,ae];rw[g249L1e];simp[d]
def jr(sep:bj)(i:Nat)(l:List bj):bj:=if i=0 then Lib.join l sep else Lib.joinTail sep l
def MN{sep:bj}{i:Nat}:jr sep i []=[]:=by unfold jr;split<;>rfl
def HL{sep x:bj}{r:List bj}:jr sep 0 (x::r)=x++jr sep 1 r:=by simp[jr,zc0]
def HM{sep x:bj}{i:Nat}{r:List bj}:jr sep (i+1) (x::r)=sep++(x++jr sep (i+1+1) r):=by simp[jr,Lib.joinTail]
def Qz{e:Ex}{f:Ar->bj}{M:Nat}(hA:e.aB.length<=100)(t:M<=100000000000000)
   (hf:∀x∈e.aB,(az AP).p 249 [x.body.pv]=some [.str (f x)]/\(f x).length<=M/\x.cv.length<=100/\x.vars.length<=10/\∀v∈x.vars,v.length<=100):
   ∀(n i:Nat),e.aB.length-i=n->i<=e.aB.length->∀acc:bj,acc.length<=10000000000000000+i*(M+2000)->
   cl AP g249L0 ⟨[(1,.au 1 0),(5,.pv (.str acc)),(6,.pv (vI i))],[(1,e.cl)],[],[]⟩=
     some (.exit 1,⟨[(1,.au 1 0),(5,.pv (.str (acc++jr [32,124,32] i ((e.aB.drop i).map (e_ f))))),(6,.pv (vI e.aB.length)),(131,.pv (.bool false))],[(1,e.cl)],[],[]⟩)
 |0,i,hn,hi,acc,w=>by
  have:i=e.aB.length:=by omega
  subst this;rw[zaO];simp only[zaJ,MN,zax];rw[g249L0e];simp[g249B0]
 |n+1,i,hn,hi,acc,w=>by
  have hi:i<e.aB.length:=(by omega);obtain⟨x,hx⟩:=aQ hi;obtain⟨m,B,A,lv,fm⟩:=hf x (aK hx);have q:(i+1)*(M+2000)=i*(M+2000)+(M+2000):=zaI _ _ _ |>.trans (by omega);have s:i*(M+2000)<=100*(M+2000):=zaZ _ (by omega)
  have u:(Lib.joinTail [32] x.vars).length<=1010:=by
   have:∀l:List bj,(∀v∈l,v.length<=100)->(Lib.joinTail [32] l).length<=l.length*101:=by
    intro l;induction l with
    |nil=>intro _;simp[Lib.joinTail]
    |cons y r o=>
     intro hl;have h1:=o fun z hz=>hl z (by simp[hz])
     have h2:=hl y (by simp);simp only[Lib.joinTail,zal,zbY,zad,zae,zao]at h1⊢;omega
   have:=this x.vars fm;omega
  have a:e_ f x=x.cv++(Lib.joinTail [32] x.vars++(46::32::f x)):=(by simp[e_,zc0]);rw[aR hx,zal];have b:=fun k h=>U6 (e:=e) (i:=i) hx hA lv fm _ 0 rfl (by omega) k h
  have g:=hf;clear hf fm;by_cases h0:i=0
  .have e0:jr [32,124,32] i (e_ f x::(e.aB.drop (i+1)).map (e_ f))=e_ f x++jr [32,124,32] (i+1) ((e.aB.drop (i+1)).map (e_ f)):=by
    rw[h0];exact HL
   rw[e0,a];have d:=Qz hA t g n (i+1) (by omega) (by omega) (acc++e_ f x) (by rw[a];simp;omega);rw[a]at d;have h2:=b (acc++x.cv) (by simp;omega);rw[zaj]at h2;clear b g;generalize jr [32,124,32] (i+1) ((e.aB.drop (i+1)).map (e_ f))=R at*;generalize Lib.joinTail [32] x.vars=J at*;have c:¬0<i:=by omega
   rw[g249L0e]at d⊢;rw[g249L1e]at h2;simp at m d h2;simp(disch:=first|omega|(simp only[zad,zae,zao];omega)) [-bu,b_,-getElem?_pos,g249B0,hx,hi,c,m,g249L1e,h2,ae];rw[g249L0e];simp[d]
  .have e0:jr [32,124,32] i (e_ f x::(e.aB.drop (i+1)).map (e_ f))=[32,124,32]++(e_ f x++jr [32,124,32] (i+1) ((e.aB.drop (i+1)).map (e_ f))):=by
    obtain⟨j,rfl⟩:∃j,i=j+1:=⟨i-1,by omega⟩;exact HM
   rw[e0,a];have d:=Qz hA t g n (i+1) (by omega) (by omega) (acc++([32,124,32]++e_ f x)) (by rw[a];simp;omega);rw[a]at d;have h2:=b (acc++[32,124,32]++x.cv) (by simp;omega);rw[zaj]at h2;clear b g;generalize jr [32,124,32] (i+1) ((e.aB.drop (i+1)).map (e_ f))=R at*;generalize Lib.joinTail [32] x.vars=J at*;have c:0<i:=by omega
   rw[g249L0e]at d⊢;rw[g249L1e]at h2;simp at m d h2;simp(disch:=first|omega|(simp only[zad,zae,zao];omega)) [-bu,b_,-getElem?_pos,g249B0,hx,hi,c,m,g249L1e,h2,ae];rw[g249L0e];simp[d]
def join_le{l:List bj}{sep:bj}{M:Nat}(h:∀x∈l,x.length<=M):(Lib.join l sep).length<=l.length*(M+sep.length):=by
 cases l with
 |nil=>simp[Lib.join_nil]
 |cons x r=>
  rw[zc0];have h1:=h x (by simp)
  have:∀r:List bj,(∀y∈r,y.length<=M)->(Lib.joinTail sep r).length<=r.length*(M+sep.length):=by
   intro r;induction r with
   |nil=>intro _;simp[Lib.joinTail]
   |cons y r b=>
    intro hl;have c:=b fun z hz=>hl z (by simp[hz])
    have d:=hl y (by simp);simp only[Lib.joinTail,zal,zbY,zad,zae,zaI]at c⊢;omega
  have a:=this r fun y hy=>h y (by simp[hy]);simp only[zad,zae,zaI]at a⊢;omega
def QA{α:Type}{l:List α}{f:α->bj}{sep:bj}{g:α->Nat}(h:∀x∈l,(f x).length+sep.length<=g x):(Lib.join (l.map f) sep).length<=(l.map g).sum:=by
 have b:∀r:List α,(∀x∈r,(f x).length+sep.length<=g x)->(Lib.joinTail sep (r.map f)).length<=(r.map g).sum:=by
  intro r;induction r with
  |nil=>intro _;simp[Lib.joinTail]
  |cons y r c=>
   intro hl;have d:=c fun z hz=>hl z (by simp[hz])
   have e:=hl y (by simp);simp only[Lib.joinTail,zal,zbY,zad,zbj]at d⊢;omega
 cases l with
 |nil=>simp[Lib.join_nil]
 |cons x r=>
  rw[zal,zc0];have h1:=h x (by simp);have a:=b r fun y hy=>h y (by simp[hy])
  simp only[zad,zal,zbj]at a⊢;omega
def DZ(AQ:Nat->Option aA)(e:Ex):Prop:=∃s:bj,s.length+10<=2000000*e.sz/\(az AQ).p 248 [e.pv]=some [.str s]/\(az AP).p 249 [e.pv]=some [.str s]
def su{e a:Ex}(h:e.kids=[a]):a.sz+1<=e.sz:=by
 rw[e.jd,Ex.ch,h];simp;omega
def sA{e a b:Ex}(h:e.kids=[a,b]):a.sz+b.sz+1<=e.sz:=by
 rw[e.jd,Ex.ch,h];simp;omega
def lD:List Ar->Nat
 |[]=>0
 |x::r=>x.body.sz+lD r
def pT:∀{l:List Ar}{x:Ar},x∈l->x.body.sz<=lD l
 |y::r,x,h=>by
  simp only[lD];rcases zau.1 h with rfl|h
  .omega
  .have:=pT h;omega
theorem Jb{e a:Ex}(h:e.kids=[a]):a.sz+lD e.aB+1=e.sz:=by
 have:∀l:List Ar,((l.map cX.body).map Ex.sz).sum=lD l:=by
  intro l;induction l with
  |nil=>rfl
  |cons x r b=>simp only[zal,zbj,lD,b]
 rw[e.jd,Ex.ch,h,zbG,zb9,this];simp only[zal,zaJ,zbj,List.sum_nil];omega
section
variable {AQ:Nat->Option aA}
def Tt(a:gq AQ){e:Ex}(h:(e.kind=1\/e.kind=2)/\e.name.length<=100\/e.kind=3/\0<=e.num/\e.num<1000000000\/e.kind=10):DZ AQ e:=by
 have b:=e.ko;rcases h with⟨h|h,hl⟩|⟨h,h0,h4⟩|h
 .refine⟨e.name,by omega,?_,?_⟩
  .rw[bD (af:=g248) a.wM rfl (by decide)];simp[g248,h]
  .rw[aw g249];simp[g249,h]
 .refine⟨e.name,by omega,?_,?_⟩
  .rw[bD (af:=g248) a.wM rfl (by decide)];simp[g248,h]
  .rw[aw g249];simp[g249,h]
 .have k1:=c255 a h0 h4;have k2:=c256 h0 h4;have hd:(Lib.decDigits e.num.toNat).length<=9:=To (f:=8) (by omega);refine⟨Lib.decDigits e.num.toNat,by omega,?_,?_⟩
  .rw[bD (af:=g248) a.wM rfl (by decide)];simp[g248,h,k1]
  .rw[aw g249];simp[g249,h,k2]
 .refine⟨[63],by simp;omega,?_,?_⟩
  .rw[bD (af:=g248) a.wM rfl (by decide)];simp[g248,h]
  .rw[aw g249];simp[g249,h]
def Tu(c:gq AQ){e a:Ex}(h:e.kind=4)(hl:e.name.length<=100)(b:e.kids=[a])(hS:e.sz<=50000000)(g:DZ AQ a):DZ AQ e:=by
 have d:=su b;have f:=e.ko;obtain⟨s,j,p,q⟩:=g;have k:=c257 c (e:=e) (i:=0) (by rw[b];rfl) p;refine⟨[92]++e.name++[46,32]++s,by simp;omega,?_,?_⟩
 .rw[bD (af:=g248) c.wM rfl (by decide)];simp[h,b]at k;simp(disch:=first|omega|(simp only[zad,zae,zao];omega)) [-bu,b_,g248,h,b,k]
 .rw[aw g249];simp at q;simp(disch:=first|omega|(simp only[zad,zae,zao];omega)) [-bu,b_,g249,h,b,q]
def QB(c:gq AQ){e a:Ex}(h:e.kind=11)(b:e.kids=[a])(hS:e.sz<=50000000)(g:DZ AQ a):DZ AQ e:=by
 have d:=su b;have f:=e.ko;obtain⟨s,j,p,q⟩:=g;have k:=c257 c (e:=e) (i:=0) (by rw[b];rfl) p;refine⟨[123]++s++[125],by simp;omega,?_,?_⟩
 .rw[bD (af:=g248) c.wM rfl (by decide)];simp[h,b]at k;simp(disch:=first|omega|(simp only[zad,zae,zao];omega)) [-bu,b_,g248,h,b,k]
 .rw[aw g249];simp at q;simp(disch:=first|omega|(simp only[zad,zae,zao];omega)) [-bu,b_,g249,h,b,q]
def Tv(d:gq AQ){e a:Ex}(h:e.kind=9)(b:e.kids=[a])(ht:e.ty.Kn KT)(c:e.ty.nodes.length<=10000)(hS:e.sz<=50000000)(m:DZ AQ a):DZ AQ e:=by
 have j:=su b;have l:=e.ko;obtain⟨s,o,p,q⟩:=m;obtain⟨u,n,g,f⟩:=AU d e.ty ht c;have k:=c257 d (e:=e) (i:=0) (by rw[b];rfl) p;refine⟨[40]++s++[32,58,32]++u++[41],by simp;omega,?_,?_⟩
 .rw[bD (af:=g248) d.wM rfl (by decide)];simp[h,b]at k;simp at g;simp(disch:=first|omega|(simp only[zad,zae,zao];omega)) [-bu,b_,g248,h,b,k,g]
 .rw[aw g249];simp at q f;simp(disch:=first|omega|(simp only[zad,zae,zao];omega)) [-bu,b_,g249,h,b,q,f]
def Tw(f:gq AQ){e a b:Ex}(h:e.kind=6\/e.kind=7)(hl:e.name.length<=100)(c:e.kids=[a,b])(hS:e.sz<=50000000)(n:DZ AQ a)(m:DZ AQ b):DZ AQ e:=by
 have j:=sA c;have l:=e.ko;obtain⟨s,r,p,q⟩:=n;obtain⟨u,o,g,d⟩:=m;have k:=c257 f (e:=e) (i:=0) (by rw[c];rfl) p;have k':=c257 f (e:=e) (i:=1) (by rw[c];rfl) g;rcases h with h|h
 .refine⟨[108,101,116,32]++e.name++[32,61,32]++s++[32,105,110,32]++u,by simp;omega,?_,?_⟩
  .rw[bD (af:=g248) f.wM rfl (by decide)];simp[h,c]at k k';simp(disch:=first|omega|(simp only[zad,zae,zao];omega)) [-bu,b_,g248,h,c,k,k']
  .rw[aw g249];simp at q d;simp(disch:=first|omega|(simp only[zad,zae,zao];omega)) [-bu,b_,g249,h,c,q,d]
 .refine⟨[108,101,116,32,114,101,99,32]++e.name++[32,61,32]++s++[32,105,110,32]++u,by simp;omega,?_,?_⟩
  .rw[bD (af:=g248) f.wM rfl (by decide)];simp[h,c]at k k';simp(disch:=first|omega|(simp only[zad,zae,zao];omega)) [-bu,b_,g248,h,c,k,k']
  .rw[aw g249];simp at q d;simp(disch:=first|omega|(simp only[zad,zae,zao];omega)) [-bu,b_,g249,h,c,q,d]
def Tx(f:gq AQ){e a b:Ex}(h:e.kind=5)(d:e.kids=[a,b])(hS:e.sz<=50000000)(x:DZ AQ a)(w:DZ AQ b):DZ AQ e:=by
 have t:=sA d;have v:=e.ko;obtain⟨s,A,p,q⟩:=x;obtain⟨u,z,r,o⟩:=w;have k:=c257 f (e:=e) (i:=0) (by rw[d];rfl) p;have k':=c257 f (e:=e) (i:=1) (by rw[d];rfl) r;have g:=c259 f (e:=a);have n:=c259 f (e:=b);have r1:=c262 (e:=a);have r2:=c262 (e:=b);have e1:=c258 f (s:=s) (b:=!a.df && !decide (a.kind=5)) (by omega);have e2:=c258 f (s:=u) (b:=!b.df) (by omega);have f1:=c261 (e:=a) (b:=a.df || decide (a.kind=5)) q (by omega);have f2:=c261 (e:=b) (b:=b.df) o (by omega);have m:(!(a.df || decide (a.kind=5)))=(!a.df && !decide (a.kind=5)):=by simp
 rw[m]at f1;have l1:=lY (b:=!a.df && !decide (a.kind=5)) (s:=s);have l2:=lY (b:=!b.df) (s:=u);refine⟨gQ (!a.df && !decide (a.kind=5)) s++[32]++gQ (!b.df) u,by simp;omega,?_,?_⟩
 .rw[bD (af:=g248) f.wM rfl (by decide)];simp[h,d]at k k';generalize gQ (!a.df && !decide (a.kind=5)) s=y at*;generalize gQ (!b.df) u=E2 at*;simp at g n e1 e2;by_cases h5:a.kind=5
  .have c:a.df=false:=(by simp[Ex.df,h5]);simp[c,h5]at e1 g;simp[h5]at k k';simp(disch:=first|omega|(simp only[zad,zae,zao];omega)) [-bu,b_,g248,h,d,k,k',g,n,e1,e2,c,h5]
  .have l:(a.kind == 5)=false:=(by simp[h5]);have j:(a.kind != 5)=true:=by simp[h5]
   cases c:a.df<;>simp[c,h5]at e1 g <;>
     simp (disch:=first|omega|(simp only[zad,zae,zao];omega)) [-bu,b_,g248,h,d,k,k',g,n,e1,e2,c,h5,l,j]
 .rw[aw g249];generalize gQ (!a.df && !decide (a.kind=5)) s=y at*;generalize gQ (!b.df) u=E2 at*;simp at r1 r2 f1 f2;by_cases h5:a.kind=5
  .have c:a.df=false:=(by simp[Ex.df,h5]);simp[c,h5]at f1 r1;simp(disch:=first|omega|(simp only[zad,zae,zao];omega)) [-bu,b_,g249,h,d,r1,r2,f1,f2,c,h5]
  .have l:(a.kind == 5)=false:=(by simp[h5]);have j:(a.kind != 5)=true:=by simp[h5]
   cases c:a.df<;>simp[c,h5]at f1 r1 <;>
     simp (disch:=first|omega|(simp only[zad,zae,zao];omega)) [-bu,b_,g249,h,d,r1,r2,f1,f2,c,h5,l,j]
def QC(j:gq AQ){e a:Ex}(h:e.kind=8)(d:e.kids=[a])(hS:e.sz<=50000000)(u:DZ AQ a)(hA:e.aB.length<=100)
   (hv:∀x∈e.aB,x.cv.length<=100/\x.vars.length<=10/\∀v∈x.vars,v.length<=100) (hx:∀x∈e.aB,DZ AQ x.body):DZ AQ e:=by
 have o:=Jb d;have t:=e.ko;obtain⟨s,w,p,q⟩:=u;obtain⟨f,hf⟩:=skolem hx;have k:=c257 j (e:=e) (i:=0) (by rw[d];rfl) p
 have b:∀x∈e.aB,(Lib.join (x.cv::x.vars) [32]).length<=1111:=fun x hm=>by
  obtain⟨h1,h2,h3⟩:=hv x hm;have:=join_le (l:=x.cv::x.vars) (sep:=[32]) (M:=100) (by simpa using⟨h1,h3⟩);simp only[zae,zao]at this;have hm:(x.vars.length+1)*101<=11*101:=zaZ _ (by omega);omega
 have z:(Lib.join (e.aB.map (e_ f)) [32,124,32]).length<=2000000*lD e.aB+120000:=by
  have h1:=QA (l:=e.aB) (f:=e_ f) (sep:=[32,124,32]) (g:=fun x=>2000000*x.body.sz+1200) (by
   intro x hm;have h1:=b x hm;have h2:=(hf x hm).1;simp only[e_,zad,zae,zao];omega)
  have h2:∀l:List Ar,(l.map fun x=>2000000*x.body.sz+1200).sum=2000000*lD l+1200*l.length:=by
   intro l;induction l with
   |nil=>simp[lD]
   |cons y r n=>simp only[zal,zbj,zae,n,lD];omega
  rw[h2]at h1;omega
 have m:∀x∈e.aB,(f x).length<=100000000000000:=fun x hm=>by
  have h1:=(hf x hm).1;have h2:=pT hm;omega
 have c:=c260 j (aB:=e.aB) (f:=f) (M:=100000000000000) hA (by omega) (fun x hm=>⟨(hf x hm).2.1,m x hm,(hv x hm).2.1,by have:=b x hm;omega⟩) (by omega);have r:=Qz (e:=e) (f:=f) (M:=100000000000000) hA (by omega) (fun x hm=>⟨(hf x hm).2.2,m x hm,hv x hm⟩) _ 0 rfl (by omega) ([99,97,115,101,32]++s++[32,111,102,32]) (by simp;omega);rw[zaj]at r;have e0:jr [32,124,32] 0 (e.aB.map (e_ f))=Lib.join (e.aB.map (e_ f)) [32,124,32]:=rfl;rw[e0]at r;clear hf hv b hx e0 m;generalize Lib.join (e.aB.map (e_ f)) [32,124,32]=J at*;refine⟨[99,97,115,101,32]++s++[32,111,102,32]++J++[32,101,110,100],by simp;omega,?_,?_⟩
 .rw[bD (af:=g248) j.wM rfl (by decide)];simp[h,d]at k;simp(disch:=first|omega|(simp only[zad,zae,zao];omega)) [-bu,b_,g248,h,d,k,c]
 .rw[aw g249];rw[g249L0e]at r;simp[h,d]at q r;simp(disch:=first|omega|(simp only[zad,zae,zao];omega)) [-bu,b_,g249,h,d,q,g249L0e,r]
def Jc(c:gq AQ){e:Ex}(h:kH e):e.sz<=50000000->DZ AQ e:=by
 induction h with
 |leaf h1 _ _=>exact fun _=>Tt c (h1.imp_right fun h=>h.imp_right And.left)
 |lam h1 h2 h3 _ _ d=>exact fun hS=>Tu c h1 h2 h3 hS (d (by have:=su h3;omega))
 |app h1 h2 _ _ _ b a=>exact fun hS=>Tx c h1 h2 hS (b (by have:=sA h2;omega)) (a (by have:=sA h2;omega))
 |rY h1 h2 h3 _ _ _ b a=>exact fun hS=>Tw c h1 h2 h3 hS (b (by have:=sA h3;omega)) (a (by have:=sA h3;omega))
 |mT h1 h2 _ h4 h5 _ b a=>
  intro hS;have hz:=Jb h2;exact QC c h1 h2 hS (b (by omega)) h4 h5 fun x hm=>a x hm (by have:=pT hm;omega)
 |Mp h1 h2 _ h4 h5 _ d=>exact fun hS=>Tv c h1 h2 h4 h5 hS (d (by have:=su h2;omega))
 |held h1 h2 _ _ d=>exact fun hS=>QB c h1 h2 hS (d (by have:=su h2;omega))
end
end Go.Ab.Lw
namespace Go.Ab.Lw
open Ev
def Tz{K:Int->Prop}{t:Ty}{k:Int}(h:t.Kn K)(h4:k≠4)(b:¬K k):t.ee k=false:=by
 induction h with
 | @mk t c _ _ a=>
  rw[Ty.mG,zbE,zbw];refine⟨?_,fun x hx=>by simpa using a x hx⟩;simp only[zch];intro e;have:=(c (by rw[e];exact h4)).1;rw[e]at this;exact b this
def fC.tyE{ds:List Dt}(m:oJ ds){n:Nat}{e:Ex}(h:fC ds n e):yF (4*(n+1)) e:=by
 have p:∀d∈ds,D8 d:=fun d hd=>nK d (m.all d hd);have o:∀d∈ds,d.name.length<=100:=fun d hd=>(nT d (m.all d hd)).1
 induction h with
 |var hs=>exact(eW (.inl ⟨.inl ⟨rfl,cH _ hs⟩,rfl⟩)).up (by omega)
 |int h0 h4=>exact(eW (.inr (.inl ⟨rfl,rfl,h0,h4⟩))).up (by omega)
 |cv hd hc=>exact(eW (.inl ⟨.inr ⟨rfl,(sk _ (m.all _ hd) _ hc).2.2⟩,rfl⟩)).up (by omega)
 |gone=>exact(eW (.inl ⟨.inr ⟨rfl,by decide +kernel⟩,rfl⟩)).up (by omega)
 |hole=>exact(eW (.inr (.inr ⟨rfl,rfl,rfl⟩))).up (by omega)
 |lam hs _ j=>exact f_ (IW (cH _ hs)) (by decide) (by simp) jn jo (by simpa using j) (.lam rfl (cH _ hs).1 rfl rfl j.tx)
 |app _ _ f b=>exact f_ AO (by decide) (by simp) jn jo (by simpa using⟨f,b⟩) (.app rfl rfl rfl f.tx b.tx)
 |rY r hs _ _ f b=>exact f_ (IX r (cH _ hs)) (by rcases r with rfl|rfl<;>decide) (by simp) jn jo (by simpa using⟨f,b⟩) (.rY r (cH _ hs).1 rfl rfl f.tx b.tx)
 |Mp _ ht j=>
  have g:=mK (fun d hd=>(p d hd).1) (fun d hd=>wG d (m.all d hd)) o (by simp) ht;have D:=ht.small (fun d hd=>(p d hd).1) (by simp);have w:Ty.ee 3 _=false:=Tz (kY o (by simp) ht) (by decide) (by decide);exact f_ (IY (qY g w).1 (qY g w).2) (by decide) (by simp) g.ok g.kn.cw (by simpa using j) (.Mp rfl rfl rfl ((kY o (by simp) ht).imp (fun k r=>.inr r)) (by simp only;omega) j.tx) (had:=⟨by omega,by have:=nU (by simp) ht;omega,g.DP⟩)
 |held _ j=>exact f_ DS (by decide) (by simp) jn jo (by simpa using j) (.held rfl rfl rfl j.tx)
 |up _ j=>exact j.up (by omega)
 | @mT n d a as hd C hl B hv hc f b=>
  obtain⟨_,_,z,u⟩:=p _ hd;have h3:=P' _ (m.all _ hd);refine DW f (by omega) (by intro q;rw[q]at hl;have:=Qk _ (m.all _ hd);simp at hl;omega) fun x hx=>⟨?_,b x hx⟩
  have s:=(hv x hx).2;obtain⟨i,hi,rfl⟩:=List.getElem_of_mem hx;obtain⟨c,l⟩:=aQ (show i<_ from hl ▸ hi);obtain⟨y,A⟩:=hc i c _ l (zbe hi);have:=u c (aK l);exact⟨(hv _ hx).1,by rw[y];exact(sk _ (m.all _ hd) c (aK l)).2.2,by have:=Qj _ (m.all _ hd) c (aK l);omega,fun v t=>cH _ (s v t)⟩
def aa5{L:List Int}{tm:Nat}{TP:Int->Sh}(hT:Tape L tm TP){i:Nat}:(az AP).i 162 [.aV tm 0] (TP i) []=some ([.pv (.bool (decide (L.length<=i)))],TP i,[]):=by
 have tn:=hT.norm;have a:=hT.shift;have b:=hT.take;have c:=hT.get;rw[aM g162];simp[g162,tn,a,b,c]
def QD(L:List Int)(ds:List Dt)(tm b N i:Nat)(a:List Int)(e:Ex)(n:Int)(S:Sh):St:=⟨[(2,.au 2 0),(4,.au 4 0),(5,.aV tm 0),(6,.pv (vI i)),(7,.own (a.map vI) 0),(8,.au 8 0),(9,.pv (vI n))],[(2,[.pv (.aq (ds.map Dt.pv)),.aP b 20 N true]),(4,[.own [] 1,.own [] 2]),(8,e.cl)],S,[a.length,0,0]⟩
def QE(L:List Int)(ds:List Dt)(tm b N i:Nat)(a:List Int)(e:Ex)(n:Int)(S:Sh)(l:Bool):Option (bh×St):=some (.exit 0,⟨[(2,.au 2 0),(4,.au 4 0),(5,.aV tm 0),(6,.pv (vI i)),(7,.own (a.map vI) 0),(8,.au 8 0),(9,.pv (vI n))]++(if l then[(39,.pv (.bool false))]else[(10,.pv (.aq [])),(46,.pv (.bool true))]),[(2,[.pv (.aq (ds.map Dt.pv)),.aP b 20 N true]),(4,[.own [] 1,.own [] 2]),(8,e.cl)],S,[a.length,0,0]⟩)
def aah{L:List Int}{tm:Nat}{TP:Int->Sh}(hT:Tape L tm TP)(u:Sm L){ds:List Dt}{b N i:Nat}:∀(n:Nat),n<=5->∀(d:List Int)(e:Ex)(I:Nat),d.length+n<=5->e.Ok->I<=L.length->∃(f:List Int)(q:Ex)(n':Int)(J:Nat)(l:Bool),f.length<=5/\J<=L.length /\
   cl AP g335L0 (QD L ds tm b N i d e n (TP I))=QE L ds tm b N i f q n' (TP J) l
 |0,hn,d,e,I,hp,h,m=>by
  have tn:=hT.norm;refine⟨d,e,0,I,true,by omega,m,?_⟩;rw[g335L0e];simp[g335B0,QD,QE,tn,Ex.cl]
 |n+1,hn,d,e,I,hp,h,m=>by
  have tn:=hT.norm;have o:=hT.shift;have v:=hT.take;have k1:=c145 h;have D:=h.k;have E:=h.a;have t:=Ex.cM (e:=e);have g:(0:Int)<(n:Int)+1:=(by omega);have p:(n:Int)+1-1=n:=(by omega);by_cases z:e.ch=[]
  .refine⟨d,e,((n+1:Nat):Int),I,false,by omega,m,?_⟩;rw[z]at k1;simp at k1;rw[g335L0e];simp[g335B0,QD,QE,tn,Ex.cl,g,k1]
  .have s:0<e.ch.length:=zaX.2 z;obtain⟨r,j,e1,r0,r1,hj⟩:=pR hT u m (n:=e.ch.length) (by omega) (by omega);obtain⟨r,rfl,hr⟩:=mY r0 r1;obtain⟨x,hx⟩:=aQ hr;obtain⟨f,q,n',J,l,y,w,A⟩:=aah hT u (ds:=ds) (b:=b) (N:=N) (i:=i) n (by omega) (d++[(r:Int)]) x j (by simp;omega) (h.c x (aK hx)) hj;refine⟨f,q,n',J,l,y,w,?_⟩;have C:(d.length+1)*8<=140737488355328:=(by omega);have B:bl 1 (d.map vI)=true:=lq.head d;rw[<-A];simp at k1 e1;conv=>lhs;rw[g335L0e]
   simp (disch:=omega) [-getElem?_pos,g335B0,QD,tn,o,v,Ex.cl,g,p,k1,z,e1,hx,C,B,ae]
def Xi{L:List Int}{j:Int}:aG [some [AV.pv (.aq (L.map vI)),AV.pv (vI j)]]:=aG.one (by intro v hv;simp at hv;rcases hv with rfl|rfl<;>exact⟨_,rfl⟩)
def QF{L:List Int}{S:Sh}(hS:aG S):Tape L S.length (fun j=>S++[some [.pv (.aq (L.map vI)),.pv (vI j)]]) where
 get:=fun i=>by simp
 set:=fun i j=>by simp
 quiet:=fun i=>hS.app Xi
def HN{S:Sh}(hS:aG S){b:Nat}:aG (S.set b none):=by
 intro cs a;rcases zaH a with h|h
 .exact hS cs h
 .cases h
def MO{S:Sh}(hS:aG S){b:Nat}{cs:List AV}(h:∀v∈cs,∃p,v=AV.pv p):aG (S.set b (some cs)):=by
 intro c hc;rcases zaH hc with q|q
 .exact hS c q
 .cases q;exact h
def Bd.put(b:Bd)(e:Ex):Bd:={b with body:=e}
def AW(b:Bd)(e:Ex):(b.put e).cells=b.cells.take 9++e.cells++b.cells.drop (9+e.cells.length):=by
 have h1:=bo.len e;have h2:=bo.len b.body;simp[Bd.cells,Bd.put,h1,h2]
def lX.up{n m:Nat}{b:Bd}(h:lX n b)(hm:n<=m):lX m b:=⟨h.sc,gH h.h hm,h.so,h.sw,h.sn,h.nm,h.st,za9 h.w (Nat.mul_le_mul_left _ hm),h.tx,h.ad⟩
structure Xj(Q:Nat)(ds:List Dt)(bs:List Bd)(b:Nat)(S:Sh):Prop where
 d:oJ ds
 pos:0<bs.length
 len:bs.length<=4
 ok:∀x∈bs,lX Q x
 quiet:aG S
 Eb:S[b]?=some (some (aI Bd.cells bs))
theorem c335{M:List Int}(Z:Sm M){ds:List Dt}{bs:List Bd}{b:Nat}{S:Sh}(H:Xj 100 ds bs b S):∃(I:List Bd)(b':Nat)(E:Sh),I.length=bs.length/\Xj 200 ds I b' E /\
   (az AP).i 335 [.agg [.pv (.aq (ds.map Dt.pv)),.aP b 20 bs.length true],.pv (.aq (M.map vI))] S []=some ([.agg [.pv (.aq (ds.map Dt.pv)),.aP b' 20 I.length true]],E,[]):=by
 obtain⟨Y,r,h4,ho,hS,hb⟩:=H;have s:b<S.length:=(zaa.1 hb).1;have hT:=QF (L:=M) hS;have a4:∀j:Int,(S++[some [.pv (.aq (M.map vI)),.pv (vI j)]])=(fun j=>S++[some [.pv (.aq (M.map vI)),.pv (vI j)]]) j:=fun _=>rfl
 have C:∀j:Int,((fun j=>S++[some [.pv (.aq (M.map vI)),.pv (vI j)]]) j:Sh)[b]?=some (some (aI Bd.cells bs)):=fun j=>by simp[zar s,hb]
 have e:∀j:Int,((fun j=>S++[some [.pv (.aq (M.map vI)),.pv (vI j)]]) j:Sh).set b none=S.set b none++[some [.pv (.aq (M.map vI)),.pv (vI j)]]:=fun j=>by simp[List.set_append_left,s]
 have v:∀j:Int,((fun j=>S++[some [.pv (.aq (M.map vI)),.pv (vI j)]]) j:Sh).length=S.length+1:=fun j=>by simp
 generalize a3:(fun j:Int=>S++[some [AV.pv (.aq (M.map vI)),AV.pv (vI j)]])=TP at*;have tn:=hT.norm;have G:=hT.shift;have tl:=hT.take;have k0:=aa5 hT (i:=0);have nS:=hS.norm;have sS:=hS.shift;have hz:bs≠[]:=zaX.1 r;have r1:(aI Bd.cells bs).length=bs.length*20:=a_ dL;have hB:bW (aI Bd.cells bs)=false:=bw aN;have h0:=a4 0;by_cases hE:M=[]
 .refine⟨bs,b,S,rfl,⟨Y,r,h4,fun x hx=>(ho x hx).up (by omega),hS,hb⟩,?_⟩;have ht:List.take S.length (TP 0)=S:=by rw[<-h0];simp
  subst hE;simp at k0 h0;rw[aM g335];simp[g335,hz,k0,tn,G,nS,sS,h0,s,ht]
 .have aj:0<M.length:=zaX.2 hE;have a6:¬M.length<=0:=(by omega);rw[zaY a6]at k0;obtain⟨q,j1,e1,q0,q1,a1⟩:=pR hT Z (i:=0) (by omega) (n:=bs.length) (by omega) (by omega);obtain⟨i,rfl,hi⟩:=mY q0 q1;obtain⟨x,hx⟩:=aQ hi;have a:=ho x (aK hx);obtain⟨n,j2,e2,n0,n1,a0⟩:=pR hT Z a1 (n:=5) (by omega) (by omega);obtain⟨n,rfl,hn⟩:=mY (n:=5) n0 (by simpa using n1);obtain⟨P,ex,n',J,l,hp,hJ,e3⟩:=aah hT Z (ds:=ds) (b:=b) (N:=bs.length) (i:=i) n (by omega) [] x.body j2 (by simp;omega) a.sc.ok a0;have X:=HN hS (b:=b);have f:=IV (L:=M) (A:=S.set b none) (B:=[some (aI Bd.cells bs)]) X (aG.one aN);rw[zaN]at f;have a9:∀j:Int,(TP j).set b none++[some (aI Bd.cells bs)]=(fun i:Int=>S.set b none++[some [.pv (.aq (M.map vI)),.pv (vI i)]]++[some (aI Bd.cells bs)]) j:=fun j=>by rw[e]
  have V:∀j:Int,S.set b none++[some [.pv (.aq (M.map vI)),.pv (vI j)],some (aI Bd.cells bs)]=(fun i:Int=>S.set b none++[some [.pv (.aq (M.map vI)),.pv (vI i)]]++[some (aI Bd.cells bs)]) j:=fun j=>by simp
  have a2:∀j:Int,((fun i:Int=>S.set b none++[some [.pv (.aq (M.map vI)),.pv (vI i)]]++[some (aI Bd.cells bs)]) j:Sh)[S.length+1]?=some (some (aI Bd.cells bs)):=fun j=>by simp[zaB]
  have R:∀(j:Int)(c:List Bd),∃E,((fun i:Int=>S.set b none++[some [.pv (.aq (M.map vI)),.pv (vI i)]]++[some (aI Bd.cells bs)]) j:Sh).set (S.length+1) (some (aI Bd.cells c))=E/\aG E/\E[S.length+1]?=some (some (aI Bd.cells c)):=fun j c=>⟨_,rfl,MO (f.quiet j) aN,by simp[zaB,zco]⟩;generalize (fun i:Int=>S.set b none++[some [AV.pv (.aq (M.map vI)),AV.pv (vI i)]]++[some (aI Bd.cells bs)])=TQ at*;have un:=f.norm
  have K:=f.shift;have ul:=f.take;obtain⟨y,f1,f2,f3,j4,e4,hy,ab⟩:=S6 f Z (ds:=ds) (by have:=Y.len;omega) (fun d hd=>nK d (Y.all d hd)) 2 (by omega) J hJ;have p:=hy.tyE Y;have hA:=d3 f1 f2 f3 y;generalize et f1 f2 f3 y=A at e4 hA;have ac:=Ex.aX y;obtain⟨w,ok,k5,w1,w2,w3,w4,w5⟩:=c359 p.sc p.h P x.body 100 (by omega) a.sc a.h;obtain⟨E,s1,s2,s3⟩:=R j4 (bs.set i (x.put w));refine⟨bs.set i (x.put w),S.length+1,E,by simp,⟨Y,by simpa using r,by simpa using h4,?_,s2,s3⟩,?_⟩
  .intro z hz;rcases zaH hz with hz|rfl
   .exact(ho z hz).up (by omega)
   .exact⟨w1,gH w2 (by omega),a.so,a.sw,a.sn,a.nm,a.st,by have h1:=a.w;have h2:=p.w;rw[Hk]at h2;change w.sz<=_;omega,w3 p.tx a.tx,w5 p.ad a.ad⟩
  .have g:=jE dL hx (o:=9) (k:=11) (by omega)
   have qz:(((x.cells.drop 9).take 11).map AV.pv)=x.body.cl:=by
    have h2:=bo.len x.body
    have h3:(x.cells.drop 9).take 11=x.body.cells:=by
     simp only[Bd.cells,zbb,zaE,zbf,zaj];exact zaf (by omega)
    rw[h3,Ex.hU]
   rw[qz]at g;have m:=gU dL hx (y:=x.put w) (o:=9) (vs:=w.cells) (by rw[bo.len];omega) (AW x w);rw[Ex.hU]at m;have U:i*20+9+11<=bs.length*20:=by omega
   have u:=sq (l:=bs);have t:=HJ (l:=bs);have W:bs.length*256<=140737488355328:=(by omega);have ai:(i:Int)<bs.length:=(by omega);have D:=a2 j4;have T:¬S.length+1<S.length:=(by omega);have hf:∀S:Sh,gr S (.au 2 0)=none:=fun _=>rfl
   have a7:(bs.map Bd.pv)[i]?=some x.pv:=(by simp[hx]);have a8:(n:Int)<5:=(by omega);have Q:=s2.norm;have O:=s2.shift;clear X f R hT a3;generalize aI Bd.cells (bs.set i (x.put w))=F2 at*;generalize aI Bd.cells bs=F at*;rw[g335L0e]at e3;simp[QD,Ex.cl,tn]at e3;simp at k0 e1 e2 e4 k5;simp[Ex.cl]at g m;rw[aM g335];cases l with
   |true=>
    simp[QE,Ex.cl]at e3;simp(disch:=omega)[-getElem?_pos,g335,hz,k0,tn,G,tl,un,K,ul,nS,sS,h0,s,e1,C,hB,r1,U,g,hx,hi,e2,g335L0e,e3,u,V,e,t,W,e4,v,hA.gr,hA.flat,hA.tV,hA.len,hA.leaf,ac,k5,D,m,s1,hf,T,Q,O]
   |false=>
    simp[QE,Ex.cl]at e3;simp(disch:=omega)[-getElem?_pos,g335,hz,k0,tn,G,tl,un,K,ul,nS,sS,h0,s,e1,C,hB,r1,U,g,hx,hi,e2,g335L0e,e3,u,V,e,t,W,e4,v,hA.gr,hA.flat,hA.tV,hA.len,hA.leaf,ac,k5,D,m,s1,hf,T,Q,O]
def aai{sz:Nat}{l:List PV}{k:Nat}(h:k<=l.length)(hs:bl sz l=true):cx false sz true false false [.pv (.aq l),.pv (.int .i64 (k:Int))]=some (.pv (.aq (l.drop k))):=by
 have h2:(k:Int)<=l.length:=by omega
 simp[cx,cG,dw,h2,hs]
def c310{L:List Int}(v:L.length<=100000)(bits c:Int):∃(ds:List Dt)(bs:List Bd),oJ ds/\0<bs.length/\bs.length<=4/\(∀x∈bs,lX 200 x)/\
   (az AP).p 310 [vI bits,.aq (L.map vI),vI c]=some [.agg [.aq (ds.map Dt.pv),.aq (bs.map Bd.pv)]]:=by
 obtain⟨ds,bs,k,j,u,h0,h4,t,k1⟩:=c306 (by unfold Sm;omega:Sm L) bits;have H:Xj 100 ds bs (1+k) (ux L k bs j):=⟨u,h0,h4,t,(kB (L:=L)).quiet j,I2⟩;generalize ux L k bs j=S at*;have tn:=H.quiet.norm;have f:=H.quiet.shift;obtain⟨r,k2,r0,r1⟩:=c26 (n:=c) (m:=3) (by omega) (by omega);by_cases hr:r=1
 .obtain⟨b,b',w,hl,H',k3⟩:=c335 (M:=L.drop (min L.length 3)) (by unfold Sm;simp;omega) H;refine⟨ds,b,H'.d,H'.pos,H'.len,H'.ok,?_⟩;have i:=H'.quiet.norm;have e:=H'.quiet.shift;have g:=H'.Eb;have o:(aI Bd.cells b).length=b.length*20:=a_ dL;have a:=sq (l:=b);have s:(if(3:Int)<L.length then(3:Int)else L.length)=((min L.length 3:Nat):Int):=by split<;>omega
  have h:=aai (sz:=1) (l:=L.map vI) (k:=min L.length 3) (by simp;omega) (lq.head L);generalize min L.length 3=q at*;generalize aI Bd.cells b=F at*;subst hr;simp at k1 k2 k3 h a;rw[aw g310];simp[yu,IG,II,Dv,g310,k1,k2,s,h,k3,tn,f,i,e,aU,g,o,a]
 .refine⟨ds,bs,u,h0,h4,fun x hx=>(t x hx).up (by omega),?_⟩;have g:=H.Eb;have o:(aI Bd.cells bs).length=bs.length*20:=a_ dL;have a:=sq (l:=bs);generalize aI Bd.cells bs=F at*;simp at k1 k2 a;rw[aw g310];simp[g310,k1,k2,hr,tn,f,aU,g,o,a]
def tX(x:Ty):bj:=match(Fc.C0 AP 400 40).p 270 [x.pv]with|some [.str s]=>s|_=>[]
def lZ:Nat->List cd->bj
 |_,[]=>[]
 |i,c::r=>(if i=0 then[]else[32,124])++((32::c.name)++(c.fields.flatMap (fun x=>32::tX x)++lZ (i+1) r))
def pU(d:Dt):bj:=[100,97,116,97,32]++(d.name++(d.params.flatMap (fun s=>32::s)++([32,61]++(lZ 0 d.cons++[59,10]))))
def c270f:∀d∈bf,∀c∈d.cons,∀x∈c.fields,(az AP).p 270 [x.pv]=some [.str (tX x)]:=by
 intro d hd c hc x hx;simp only[bf,zau,zbu,zci]at hd
 rcases hd with rfl|rfl|rfl|rfl|rfl|rfl|rfl<;>simp only[zau,zbu,zci]at hc <;>
   rcases hc with rfl|rfl<;>simp only[zau,zbu,zci]at hx<;>rcases hx with rfl|rfl<;>exact Fc.L6 (k:=400) (n:=40) (by kernel_rfl)
def QG:∀d∈bf,(pU d).length<=1000:=by
 intro d hd;simp only[bf,zau,zbu,zci]at hd;rcases hd with rfl|rfl|rfl|rfl|rfl|rfl|rfl<;>exact zcW (by kernel_rfl)
def ev(ds:List Dt)(bs:List Bd):List AV:=[.pv (.aq (ds.map Dt.pv)),.pv (.aq (bs.map Bd.pv))]
def dC(d:Dt):List AV:=[.pv (vI d.pos),.pv (.str d.name),.pv (.aq (d.params.map .str)),.pv (.aq (d.cons.map cd.pv))]
def U7{ds:List Dt}{bs:List Bd}{d:Dt}{I:Nat}(f:d.params.length<=1000):∀(n k:Nat),d.params.length-k=n->k<=d.params.length->∀acc:bj,acc.length+((d.params.drop k).flatMap fun s=>32::s).length<=1000000000000000000->
   cl AP g312L1 ⟨[(1,.au 1 0),(3,.pv (.str acc)),(4,.pv (vI I)),(5,.au 5 0),(6,.pv (vI k))],[(1,ev ds bs),(5,dC d)],[],[]⟩=
     some (.exit 2,⟨[(1,.au 1 0),(3,.pv (.str (acc++(d.params.drop k).flatMap fun s=>32::s))),(4,.pv (vI I)),(5,.au 5 0),(6,.pv (vI d.params.length)),(32,.pv (.bool false))],[(1,ev ds bs),(5,dC d)],[],[]⟩)
 |0,k,hn,a,acc,c=>by
  have:k=d.params.length:=by omega
  subst this;rw[g312L1e];simp[g312B1,ev,dC]
 |n+1,k,hn,a,acc,c=>by
  have a:k<d.params.length:=(by omega);obtain⟨s,hs⟩:=aQ a;rw[aR hs,zav]at c⊢;simp only[zad,zae]at c;have b:=U7 (ds:=ds) (bs:=bs) (d:=d) (I:=I) f n (k+1) (by omega) (by omega) (acc++32::s) (by simp only[zad,zae];omega);have e:(d.params.map PV.str)[k]?=some (.str s):=(by simp[hs]);generalize (d.params.drop (k+1)).flatMap (fun s=>32::s)=R at*;rw[g312L1e]at b⊢;simp[ev,dC]at b;simp(disch:=first|omega|(simp only[zad,zae,zao];omega)) [-bu,b_,-getElem?_pos,g312B1,ev,dC,a,hs,ae];rw[g312L1e];simp[b]
def U8{ds:List Dt}{bs:List Bd}{d:Dt}{c:cd}{I J:Nat}(hc:d.cons[J]?=some c)(hF:c.fields.length<=1000)(hf:∀x∈c.fields,(az AP).p 270 [x.pv]=some [.str (tX x)]):∀(n k:Nat),c.fields.length-k=n->k<=c.fields.length->∀acc:bj,acc.length+((c.fields.drop k).flatMap fun x=>32::tX x).length<=1000000000000000000->
   cl AP g312L3 ⟨[(1,.au 1 0),(3,.pv (.str acc)),(4,.pv (vI I)),(5,.au 5 0),(7,.pv (vI J)),(8,.pv (vI k))],[(1,ev ds bs),(5,dC d)],[],[]⟩=
     some (.exit 6,⟨[(1,.au 1 0),(3,.pv (.str (acc++(c.fields.drop k).flatMap fun x=>32::tX x))),(4,.pv (vI I)),(5,.au 5 0),(7,.pv (vI J)),(8,.pv (vI c.fields.length)),(73,.pv (.bool false))],[(1,ev ds bs),(5,dC d)],[],[]⟩)
 |0,k,hn,a,acc,e=>by
  have:k=c.fields.length:=by omega
  subst this;have f:=(zaa.1 hc).1;rw[g312L3e];simp[-getElem?_pos,g312B3,ev,dC,hc,f]
 |n+1,k,hn,a,acc,e=>by
  have a:k<c.fields.length:=(by omega);have f:=(zaa.1 hc).1;obtain⟨x,hx⟩:=aQ a;have g:=hf x (aK hx);rw[aR hx,zav]at e⊢;simp only[zad,zae]at e;have b:=U8 (ds:=ds) (bs:=bs) (I:=I) hc hF hf n (k+1) (by omega) (by omega) (acc++32::tX x) (by simp only[zad,zae];omega);generalize tX x=s at*;generalize (c.fields.drop (k+1)).flatMap (fun x=>32::tX x)=R at*;rw[g312L3e]at b⊢;simp[ev,dC]at b;simp at g;simp(disch:=first|omega|(simp only[zad,zae,zao];omega)) [-bu,b_,-getElem?_pos,g312B3,ev,dC,hc,f,a,hx,g,ae];rw[g312L3e];simp[b]
def U9{ds:List Dt}{bs:List Bd}{d:Dt}{I:Nat}(hC:d.cons.length<=1000)(hF:∀c∈d.cons,c.fields.length<=1000)(hf:∀c∈d.cons,∀x∈c.fields,(az AP).p 270 [x.pv]=some [.str (tX x)]):∀(n k:Nat),d.cons.length-k=n->k<=d.cons.length->∀acc:bj,acc.length+(lZ k (d.cons.drop k)).length<=1000000000000000000->
   cl AP g312L2 ⟨[(1,.au 1 0),(3,.pv (.str acc)),(4,.pv (vI I)),(5,.au 5 0),(7,.pv (vI k))],[(1,ev ds bs),(5,dC d)],[],[]⟩=
     some (.exit 4,⟨[(1,.au 1 0),(3,.pv (.str (acc++lZ k (d.cons.drop k)))),(4,.pv (vI I)),(5,.au 5 0),(7,.pv (vI d.cons.length)),(49,.pv (.bool false))],[(1,ev ds bs),(5,dC d)],[],[]⟩)
 |0,k,hn,e,acc,a=>by
  have:k=d.cons.length:=by omega
  subst this;rw[g312L2e];simp[g312B2,ev,dC,lZ]
 |n+1,k,hn,e,acc,a=>by
  have e:k<d.cons.length:=(by omega);obtain⟨c,hc⟩:=aQ e;rw[aR hc]at a⊢;simp only[lZ]at a⊢;simp only[zad,zae]at a;have b:=U9 (ds:=ds) (bs:=bs) (I:=I) hC hF hf n (k+1) (by omega) (by omega) (acc++((if k=0 then[]else[32,124])++((32::c.name)++(c.fields.flatMap fun x=>32::tX x)))) (by simp only[zad,zae];omega);have h3:=U8 (ds:=ds) (bs:=bs) (I:=I) hc (hF c (aK hc)) (hf c (aK hc)) _ 0 rfl (by omega) (acc++((if k=0 then[]else[32,124])++(32::c.name))) (by simp only[zad,zae,zaj];omega);rw[zaj]at h3;generalize c.fields.flatMap (fun x=>32::tX x)=F at*;generalize lZ (k+1) (d.cons.drop (k+1))=R at*;rw[g312L3e]at h3;rw[g312L2e]at b⊢;by_cases z:k=0
  .subst z;simp[ev,dC]at b h3 a;simp(disch:=first|omega|(simp only[zad,zae,zao];omega)) [-bu,b_,-getElem?_pos,g312B2,ev,dC,hc,e,ae,g312L3e,h3];rw[g312L2e];simp[b]
  .have z0:0<k:=(by omega);simp[ev,dC,z]at b h3 a;simp(disch:=first|omega|(simp only[zad,zae,zao];omega)) [-bu,b_,-getElem?_pos,g312B2,ev,dC,hc,e,z,z0,ae,g312L3e,h3];rw[g312L2e];simp[b]
def MA:List Bd->Nat
 |[]=>0
 |b::r=>b.body.hl.length+MA r
def dh:Nat->List Bd->Int->Option (Nat×List Int)
 |_,[],_=>none
 |i,b::r,h=>if h<b.body.hl.length then(b.body.hl[h.toNat]?).map fun p=>(i,p)else dh (i+1) r (h-b.body.hl.length)
def kD:Option (Nat×List Int)->List PV
 |some (i,p)=>[vI i,pX p,.bool true]
 |none=>[vI 0,.aq [],.bool false]
def TE(bs:List Bd):Prop:=bs.length<=1000/\∀b∈bs,b.body.Ok/\b.body.sz<=100000000
def TE.c{bs:List Bd}(h:TE bs){b:Bd}(a:b∈bs):(az AP).p 543 [b.body.pv]=some [.aq (b.body.hl.map pX)]/\(az AP).p 539 [b.body.pv]=some [.aq (b.body.hl.map pX)]/\b.body.hl.length<=100000000:=by
 obtain⟨h1,h2⟩:=h.2 b a;exact⟨c543 _ h1 h2,c539 _ h1 h2,za9 (wL _) h2⟩
def aaj{ds:List Dt}{bs:List Bd}(H:TE bs):∀(n i:Nat),bs.length-i=n->i<=bs.length->∀m:Nat,m<=100000000*i->
   cl AP g529L0 ⟨[(1,.au 1 0),(3,.pv (vI m)),(4,.pv (vI i))],[(1,ev ds bs)],[],[]⟩=
     some (.exit 0,⟨[(1,.au 1 0),(3,.pv (vI (m+MA (bs.drop i):Nat))),(4,.pv (vI bs.length)),(9,.pv (.bool false))],[(1,ev ds bs)],[],[]⟩)
 |0,i,hn,hi,m,hm=>by
  have:i=bs.length:=by omega
  subst this;rw[g529L0e];simp[g529B0,MA,ev]
 |n+1,i,hn,hi,m,hm=>by
  have hi:i<bs.length:=(by omega);have hl:=H.1;obtain⟨b,d⟩:=aQ hi;obtain⟨_,k,e⟩:=H.c (aK d);have a:=aaj (ds:=ds) H n (i+1) (by omega) (by omega) (m+b.body.hl.length) (by omega);rw[aR d];simp only[MA];rw[<-zbN];generalize b.body.hl=hs at*;generalize m+hs.length+MA (bs.drop (i+1))=C at*;rw[g529L0e]at a⊢;simp[ev]at a k;simp(disch:=omega)[-getElem?_pos,g529B0,ev,d,hi,k,ae];rw[g529L0e];simp[a]
def c529{ds:List Dt}{bs:List Bd}(H:TE bs):(az AP).p 529 [.agg [.aq (ds.map Dt.pv),.aq (bs.map Bd.pv)]]=some [vI (MA bs)]:=by
 have e:=aaj (ds:=ds) H _ 0 rfl (by omega) 0 (by omega);rw[zaj,zbi]at e;rw[g529L0e]at e;simp[ev]at e;rw[aw g529];simp[g529,g529L0e,e]
def yN{i:Nat}{b:Bd}{r:List Bd}{h:Int}(h0:0<=h)(hl:h<b.body.hl.length):∃p,b.body.hl[h.toNat]?=some p/\dh i (b::r) h=some (i,p):=by
 obtain⟨p,hp⟩:=aQ (show h.toNat<b.body.hl.length by omega);exact⟨p,hp,by rw[dh,zan hl,hp];rfl⟩
def aak{bs:List Bd}(H:TE bs):∀(n i:Nat),bs.length-i=n->i<=bs.length->∀h:Int,0<=h->h<=9223372036854775807->∃h':Int,
   cl AP g530L0 ⟨[(1,.pv (vI h)),(13,.pv (.aq (bs.map Bd.pv))),(14,.pv (vI bs.length)),(15,.pv (vI i))],[],[],[]⟩=
     some (match dh i (bs.drop i) h with
      |some (j,p)=>(.ret,⟨[(4,.pv (vI j)),(5,.pv (pX p)),(6,.pv (.bool true))],[],[],[]⟩)
      |none=>(.exit 0,⟨[(1,.pv (vI h')),(13,.pv (.aq (bs.map Bd.pv))),(14,.pv (vI bs.length)),(15,.pv (vI bs.length)),(16,.pv (.bool false))],[],[],[]⟩))
 |0,i,hn,hi,h,h0,h1=>by
  have:i=bs.length:=by omega
  subst this;refine⟨h,?_⟩;rw[zaO,dh,g530L0e];simp[g530B0]
 |n+1,i,hn,hi,h,h0,h1=>by
  have hi:i<bs.length:=(by omega);have hl:=H.1;obtain⟨b,a⟩:=aQ hi;obtain⟨k,_,m⟩:=H.c (aK a);rw[aR a];by_cases q:h<b.body.hl.length
  .obtain⟨p,hp,e⟩:=yN (i:=i) (r:=bs.drop (i+1)) h0 q;refine⟨0,?_⟩;rw[e];generalize b.body.hl=hs at*;simp at k;have l:(hs.map pX)[h.toNat]?=some (pX p):=by simp[hp]
   have g:h.toNat<hs.length:=(by omega);have f:¬h<0:=(by omega);rw[g530L0e];simp(disch:=omega)[-getElem?_pos,g530B0,a,hi,k,ae,q,f,h0,hp,g]
  .obtain⟨h',d⟩:=aak H n (i+1) (by omega) (by omega) (h-b.body.hl.length) (by omega) (by omega);refine⟨h',?_⟩;rw[dh,zai q];generalize dh (i+1) (bs.drop (i+1)) (h-b.body.hl.length)=R at*;generalize b.body.hl=hs at*;rw[g530L0e]at d⊢;simp at d k;simp(disch:=omega)[-getElem?_pos,g530B0,a,hi,k,ae,q];rw[g530L0e];simp[d]
def c530{ds:List Dt}{bs:List Bd}(H:TE bs){h:Int}(h1:h<=9223372036854775807):(az AP).p 530 [.agg [.aq (ds.map Dt.pv),.aq (bs.map Bd.pv)],vI h]=some (kD (if h<0 then none else dh 0 bs h)):=by
 rw[aw g530];by_cases h0:h<0
 .simp[g530,h0,kD]
 .rw[zai h0];obtain⟨h',e⟩:=aak H _ 0 rfl (by omega) h (by omega) h1;rw[zaj]at e;rw[g530L0e]at e;cases hf:dh 0 bs h with
  |none=>rw[hf]at e;simp at e;simp[g530,h0,g530L0e,e,kD]
  |some r=>obtain⟨j,p⟩:=r;rw[hf]at e;simp at e;simp[g530,h0,g530L0e,e,kD]
def aal{ds:List Dt}{bs:List Bd}(H:TE bs):∀(n i:Nat),bs.length-i=n->i<=bs.length->∀h:Int,0<=h->h<=9223372036854775807->∃(h':Int)(l:Bool)(l':List (Nat×AV)),
   cl AP g531L0 ⟨[(1,.pv (vI h)),(2,.au 2 0),(7,.pv (vI i))],[(2,ev ds bs)],[],[]⟩=
     some (match dh i (bs.drop i) h with
      |some (j,p)=>(.ret,⟨[(4,.pv (vI j)),(5,.pv (pX p)),(6,.pv (.bool true))],[],[],[]⟩)
      |none=>(.exit 0,⟨[(1,.pv (vI h')),(2,.au 2 0),(7,.pv (vI bs.length)),(17,.pv (.bool false))],[(2,ev ds bs)],[],[]⟩))
 |0,i,hn,hi,h,h0,h1=>by
  have:i=bs.length:=by omega
  subst this;refine⟨h,true,[],?_⟩;rw[zaO,dh,g531L0e];simp[g531B0,ev]
 |n+1,i,hn,hi,h,h0,h1=>by
  have hi:i<bs.length:=(by omega);have hl:=H.1;obtain⟨b,a⟩:=aQ hi;obtain⟨_,k,m⟩:=H.c (aK a);rw[aR a];by_cases q:h<b.body.hl.length
  .obtain⟨p,hp,e⟩:=yN (i:=i) (r:=bs.drop (i+1)) h0 q;refine⟨0,true,[],?_⟩;rw[e];generalize b.body.hl=hs at*;simp at k;have g:h.toNat<hs.length:=by omega
   have f:¬h<0:=(by omega);rw[g531L0e];simp(disch:=omega)[-getElem?_pos,g531B0,ev,a,hi,k,ae,q,f,h0,hp,g]
  .obtain⟨h',b',l',d⟩:=aal (ds:=ds) H n (i+1) (by omega) (by omega) (h-b.body.hl.length) (by omega) (by omega);refine⟨h',b',l',?_⟩;rw[dh,zai q];generalize dh (i+1) (bs.drop (i+1)) (h-b.body.hl.length)=R at*;generalize b.body.hl=hs at*;rw[g531L0e]at d⊢;simp[ev]at d k;simp(disch:=omega)[-getElem?_pos,g531B0,ev,a,hi,k,ae,q,h0];rw[g531L0e];simp[d,ev]
def c531{ds:List Dt}{bs:List Bd}(H:TE bs){h:Int}(h1:h<=9223372036854775807):(az AP).p 531 [.agg [.aq (ds.map Dt.pv),.aq (bs.map Bd.pv)],vI h]=some (kD (if h<0 then none else dh 0 bs h)):=by
 rw[aw g531];by_cases h0:h<0
 .have a:¬0<=h:=(by omega);by_cases z:bs=[]
  .subst z;simp[g531,h0,kD,g531L0e,g531B0]
  .have hp:0<bs.length:=zaX.2 z;simp[g531,h0,a,hp,kD,g531L0e,g531B0]
 .rw[zai h0];obtain⟨h',_,_,e⟩:=aal (ds:=ds) H _ 0 rfl (by omega) h (by omega) h1;rw[zaj]at e;rw[g531L0e]at e;cases hf:dh 0 bs h with
  |none=>rw[hf]at e;simp[ev]at e;simp[g531,h0,g531L0e,e,kD]
  |some r=>obtain⟨j,p⟩:=r;rw[hf]at e;simp[ev]at e;simp[g531,h0,g531L0e,e,kD]
def QH{s:List bj}(hS:s.length<1000000):∀(n i:Nat),s.length-i=n->i<=s.length->∀acc:List bj,acc.length<=i->
   cl AP g532L1 ⟨[(9,.own (s.map .str) 0),(13,.own (acc.map .str) 1),(58,.pv (.aq (s.map .str))),(59,.pv (vI s.length)),(60,.pv (vI i))],[],[],[s.length,acc.length]⟩=
     some (.exit 2,⟨[(9,.own (s.map .str) 0),(13,.own ((acc++dE (s.drop i)).map .str) 1),(58,.pv (.aq (s.map .str))),(59,.pv (vI s.length)),(60,.pv (vI s.length)),(61,.pv (.bool false))],[],[],[s.length,(acc++dE (s.drop i)).length]⟩)
 |0,i,hn,hi,acc,f=>by
  have:i=s.length:=by omega
  subst this;rw[zaO];simp only[dE,zax];rw[g532L1e];simp[g532B1]
 |n+1,i,hn,hi,acc,f=>by
  have hi:i<s.length:=(by omega);obtain⟨x,hx⟩:=aQ hi;have c:=c214 (s:=s.drop (i+1)) (by unfold Sm;simp;omega) (y:=x);have a:=UH (sz:=1) (τ:=0) (l:=s.map PV.str) (k:=.i64) (h:=(i:Int)+1) (by omega) (by simp;omega) (mB.head s);have h1:((i:Int)+1).toNat=i+1:=(by omega);rw[h1]at a;have d:(acc.length+1)*16<=140737488355328:=(by omega);rw[aR hx,g532L1e];by_cases e:x∈s.drop (i+1)
  .have b:=QH hS n (i+1) (by omega) (by omega) acc (by omega);simp only[dE,zan e];rw[za2 e]at c;simp at b c a;simp(disch:=omega)[-getElem?_pos,g532B1,hx,hi,ae,a,c,b]
  .have b:=QH hS n (i+1) (by omega) (by omega) (acc++[x]) (by simp;omega);simp only[dE,zai e];rw[zaY e]at c;simp at b c a;simp(disch:=omega)[-getElem?_pos,g532B1,hx,hi,ae,a,c,d,b]
def U_{ds:List Dt}{bs l:List Bd}{I:Nat}{p:List Int}(hl:l.length<=1000):∀(n i:Nat),l.length-i=n->i<=l.length->∀acc:List bj,acc.length<=i->
   cl AP g532L0 ⟨[(2,.au 2 0),(6,.pv (vI I)),(7,.pv (.aq (p.map vI))),(9,.own (acc.map .str) 0),(28,.pv (.aq (l.map Bd.pv))),(29,.pv (vI l.length)),(30,.pv (vI i))],[(2,ev ds bs)],[],[acc.length]⟩=
     some (.exit 0,⟨[(2,.au 2 0),(6,.pv (vI I)),(7,.pv (.aq (p.map vI))),(9,.own ((acc++(l.drop i).map Bd.name).map .str) 0),(28,.pv (.aq (l.map Bd.pv))),(29,.pv (vI l.length)),(30,.pv (vI l.length)),(31,.pv (.bool false))],[(2,ev ds bs)],[],[(acc++(l.drop i).map Bd.name).length]⟩)
 |0,i,hn,hi,acc,e=>by
  have:i=l.length:=by omega
  subst this;rw[zaO,zaJ,zax,g532L0e];simp[g532B0,ev]
 |n+1,i,hn,hi,acc,e=>by
  have hi:i<l.length:=(by omega);obtain⟨b,d⟩:=aQ hi;have a:=U_ (ds:=ds) (bs:=bs) (I:=I) (p:=p) hl n (i+1) (by omega) (by omega) (acc++[b.name]) (by simp;omega);have c:(acc.length+1)*16<=140737488355328:=(by omega);rw[aR d,zal];rw[g532L0e]at a⊢;simp[ev]at a;simp(disch:=omega)[-getElem?_pos,g532B0,ev,d,hi,c,ae];rw[g532L0e];simp[a]
def aam{ds:List Dt}{bs:List Bd}{I:Nat}{p:List Int}(hl:bs.length<=1000)(j:I<=bs.length):∀(n i:Nat),I-i=n->i<=I->∀acc:List bj,acc.length<=i->
   cl AP g533L0 ⟨[(2,.au 2 0),(6,.pv (vI I)),(7,.pv (.aq (p.map vI))),(9,.own (acc.map .str) 0),(10,.pv (vI i))],[(2,ev ds bs)],[],[acc.length]⟩=
     some (.exit 0,⟨[(2,.au 2 0),(6,.pv (vI I)),(7,.pv (.aq (p.map vI))),(9,.own ((acc++((bs.take I).drop i).map Bd.name).map .str) 0),(10,.pv (vI I)),(22,.pv (.bool false))],[(2,ev ds bs)],[],[(acc++((bs.take I).drop i).map Bd.name).length]⟩)
 |0,i,hn,hi,acc,h=>by
  have:i=I:=by omega
  subst this;have e:(bs.take i).drop i=[]:=by apply zaM;simp;omega
  rw[e,zaJ,zax,g533L0e];simp[g533B0,ev]
 |n+1,i,hn,hi,acc,h=>by
  have hi:i<I:=(by omega);obtain⟨b,g⟩:=aQ (show i<bs.length by omega);have f:(bs.take I)[i]?=some b:=(by rw[List.getElem?_take_of_lt hi];exact g);have c:i<bs.length:=(by omega);have a:=aam (ds:=ds) (p:=p) hl j n (i+1) (by omega) (by omega) (acc++[b.name]) (by simp;omega);have d:(acc.length+1)*16<=140737488355328:=(by omega);rw[aR f,zal];generalize ((bs.take I).drop (i+1)).map Bd.name=R at*;rw[g533L0e]at a⊢;simp[ev]at a;simp(disch:=omega)[-getElem?_pos,g533B0,ev,g,hi,c,d,ae];rw[g533L0e];simp[a]
def sB:∀l:List bj,(dE l).length<=l.length
 |[]=>by simp[dE]
 |x::r=>by
  have:=sB r;simp only[dE];split<;>simp<;>omega
def iq:∀{l:List Bd}{i j:Nat}{h:Int}{p:List Int},dh i l h=some (j,p)->∃(k:Nat)(b:Bd),j=i+k/\l[k]?=some b/\p∈b.body.hl
 |[],i,j,h,p,e=>by simp[dh]at e
 |b::r,i,j,h,p,e=>by
  rw[dh]at e;split at e
  .simp only[zac]at e;obtain⟨q,a,e⟩:=e;cases e;exact⟨0,b,rfl,rfl,aK a⟩
  .obtain⟨k,c,h1,h2,h3⟩:=iq e;exact⟨k+1,c,by omega,by simpa using h2,h3⟩
noncomputable def sD(bs:List Bd)(i:Nat)(b:Bd)(p:List Int):List bj:=(bs.take i).map Bd.name++((if b.rc=true then[b.name]else[])++Av b.body p)
noncomputable def nW(bs:List Bd)(h:Int):List PV:=match(if h<0 then none else dh 0 bs h)with
 |none=>[.aq [],vI 16]
 |some (i,p)=>match bs[i]? with
  |some b=>[.aq ((dE (sD bs i b p)).map .str),vI 0]
  |none=>[]
structure Xk(bs:List Bd):Prop where
 h:TE bs
 one:∀b∈bs,b.body.One
 dp:∀b∈bs,∀p∈b.body.hl,p.length<=500
def AX{e:Ex}(a:e.Ok){p:List Int}(hp:p.length<=500):(Av e p).length<=500000:=by
 unfold Av;cases hx:e.at p with
 |none=>simp
 |some y=>
  have h1:=Au a hx;have h2:=sB (e.wu p);simp only;omega
def c532{ds:List Dt}{bs:List Bd}(H:Xk bs){h:Int}(h1:h<=9223372036854775807):(az AP).p 532 [.agg [.aq (ds.map Dt.pv),.aq (bs.map Bd.pv)],vI h]=some (nW bs h):=by
 have k:=c530 (ds:=ds) H.h h1;unfold nW;rw[aw g532];cases hf:(if h<0 then none else dh 0 bs h)with
 |none=>
  rw[hf]at k;simp[kD]at k;simp[g532,k]
 |some r=>
  obtain⟨i,p⟩:=r
  have w:dh 0 bs h=some (i,p):=by
   split at hf
   .cases hf
   .exact hf
  obtain⟨j,b,hj,o,hp⟩:=iq w;have:j=i:=by omega
  subst this;have hi:=(zaa.1 o).1;have n:=aK o;have hl:=H.h.1;obtain⟨q,x⟩:=H.h.2 b n;have u:=H.dp b n p hp;have m:=c404 q (H.one b n) (p:=p) (by omega);have vl:=AX q u;rw[hf]at k;simp only[o,sD];have c:(bs.take j).length=j:=by simp;omega
  have e0:=U_ (ds:=ds) (bs:=bs) (l:=bs.take j) (I:=j) (p:=p) (by omega) _ 0 rfl (by omega) [] (by simp);rw[c,zaj,zaE]at e0;have y:((bs.take j).map Bd.name).length=j:=(by rw[zak];exact c);generalize (bs.take j).map Bd.name=N at*;generalize Av b.body p=V at*;have e1:=QH (s:=N++((if b.rc=true then[b.name]else[])++V)) (by simp only[zad];split<;>simp<;>omega) _ 0 rfl (by omega) [] (by simp);rw[zaj,zaE]at e1;have g:(N.length+1)*16<=140737488355328:=(by omega);have f:(N.length+V.length)*16<=140737488355328:=(by omega);have e:(N.length+1+V.length)*16<=140737488355328:=(by omega);have v:=mB.head V;have d:bl 1 (N.map PV.str++[PV.str b.name])=true:=by have:=mB.head (N++[b.name]);simpa only[zbG,zal,zaJ]using this
  have a:cx false 20 false true false [.pv (.aq (bs.map Bd.pv)),.pv (.int .i64 (j:Int))]=some (.pv (.aq ((bs.take j).map Bd.pv))):=by
   have:=Sx (sz:=20) (l:=bs.map Bd.pv) (k:=.i64) (h:=(j:Int)) (by omega) (by simp;omega);simpa using this
  rw[g532L0e]at e0;rw[g532L1e]at e1;simp[kD]at k m v a;simp[ev,c]at e0;have t:N.length*16<=140737488355328:=by omega
  cases hr:b.rc
  .simp[hr]at e1;by_cases z:V=[]
   .subst z;simp at e1 m;simp(disch:=omega)[-getElem?_pos,g532,k,a,c,g532L0e,e0,o,hi,hr,g,f,e,t,d,m,g532L1e,e1]
   .simp(disch:=omega)[-getElem?_pos,g532,k,a,c,g532L0e,e0,o,hi,hr,g,f,e,v,d,z,m,g532L1e,e1]
  .simp[hr]at e1;by_cases z:V=[]
   .subst z;simp at e1 m;simp(disch:=omega)[-getElem?_pos,g532,k,a,c,g532L0e,e0,o,hi,hr,g,f,e,t,d,m,g532L1e,e1]
   .simp(disch:=omega)[-getElem?_pos,g532,k,a,c,g532L0e,e0,o,hi,hr,g,f,e,v,d,z,m,g532L1e,e1]
end Go.Ab.Lw
